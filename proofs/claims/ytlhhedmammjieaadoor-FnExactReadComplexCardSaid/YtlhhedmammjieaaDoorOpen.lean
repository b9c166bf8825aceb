/- How slices of floats and integers, and structs of such slices, that came in as arguments are opened: what the walks are told of them. -/
import Derived.ProofKit
import Derived.WalkKit
import Derived.Laws.Cover2
import Derived.Lib.SmallJoins
import Derived.Deep.Slices
import Derived.OpenShut
namespace Go.Proofs.YtlhhedmammjieaaDoor.Opn
open Go.ChangeShapes Go.WideShapes Go.Joins Go.Deep

/-- The slice value v of n floats reads as the list zs of words. -/
def FRow (w : World) (v : Value) (n : Nat) (zs : List Nat) : Prop :=
  zs.length = n ∧ n ≤ maxLen ∧ (∀ z ∈ zs, z < 4294967296) ∧
  ((n = 0 ∧ ∃ ao cap, v = .slice ao 0 cap) ∨ (0 < n ∧ ∃ b off cap, v = .slice (some ⟨b, off, none⟩) n cap ∧ n ≤ cap ∧ cap ≤ maxLen ∧ b < w.heap.size ∧ ∀ i, i < n → w.cell? ⟨b, off + i, none⟩ = some (.float .f32 (zs.getD i 0))))

/-- The slice value v of n integers reads as the list zs. -/
def IRow (k : IntKind) (w : World) (v : Value) (n : Nat) (zs : List Int) : Prop :=
  zs.length = n ∧ n ≤ maxLen ∧ (∀ z ∈ zs, (Lit.int k z).wf = true) ∧
  ((n = 0 ∧ ∃ ao cap, v = .slice ao 0 cap) ∨ (0 < n ∧ ∃ b off cap, v = .slice (some ⟨b, off, none⟩) n cap ∧ n ≤ cap ∧ cap ≤ maxLen ∧ b < w.heap.size ∧ ∀ i, i < n → w.cell? ⟨b, off + i, none⟩ = some (.int k (zs.getD i 0))))

section
variable {H : Type} {enc : TypeId × Value → H} {P : Program} {w : World} {base : Nat} {spare : Nat → Bool} {held : Bool}

theorem trod_float {t : TypeId} {k : FloatKind} {fuel : Nat} {v : Value} {x : DataW H × List MemPlace} (ht : P.underlying t = some (.float k)) (h : DataW.trod enc P w base spare held fuel t [v] = some x) :
    ∃ b, v = .float k b ∧ (Lit.float k b).wf = true := by
  cases fuel with
  | zero => simp [DataW.trod] at h
  | succ n =>
    unfold DataW.trod at h
    rw [ht] at h
    cases v <;> simp at h
    rename_i k' b
    obtain ⟨⟨rfl, hw⟩, _⟩ := h
    exact ⟨b, rfl, hw⟩

theorem frow_of {t e : TypeId} {fuel : Nat} {v : Value} {x : DataW H × List MemPlace} (ht : P.underlying t = some (.slice e)) (he : P.underlying e = some (.float .f32)) (hc : P.cellsOf e = 1)
    (h : DataW.trod enc P w base spare held fuel t [v] = some x) : ∃ n zs, FRow w v n zs := by
  have hlt := DataW.trod_lt fuel _ _ _ h
  rcases open_slice1 ht hc h with ⟨hcs, _⟩ | ⟨a, len, cap, m, n, V, D, Pl, hcs, _, hl, hm, hmm, hx, hcell⟩
  · simp only [List.cons.injEq, and_true] at hcs
    exact ⟨0, [], rfl, Nat.zero_le _, by simp, .inl ⟨rfl, _, _, hcs⟩⟩
  · simp only [List.cons.injEq, and_true] at hcs
    have hlm : len ≤ m := by rw [hmm]; split <;> omega
    by_cases h0 : len = 0
    · subst h0
      exact ⟨0, [], rfl, Nat.zero_le _, by simp, .inl ⟨rfl, _, _, hcs⟩⟩
    · obtain ⟨Z, hZ⟩ := choose_lt (α := Nat) (n := len) (p := fun i z => V i = .float .f32 z ∧ z < 4294967296) (fun i hi => by
        obtain ⟨_, h2⟩ := hcell i (by omega)
        obtain ⟨b, hb, hw⟩ := trod_float he h2
        exact ⟨b, hb, by simpa [Lit.wf] using hw⟩)
      obtain ⟨b, off, spot⟩ := a
      have hspot : spot = none := by simpa [Addr.add] using World.cell?_spot (hcell 0 (by omega)).1
      subst hspot
      have hc0 := (hcell 0 (by omega)).1
      refine ⟨len, (List.range len).map Z, by simp, by omega, ?_, .inr ⟨by omega, b, off, cap, hcs, hl, hm, ?_, ?_⟩⟩
      · intro z hz
        obtain ⟨i, hi, rfl⟩ := List.mem_map.1 hz
        exact (hZ i (by simpa using hi)).2
      · have := World.block_lt_of_cell? w _ hc0
        simpa [Addr.add] using this
      · intro i hi
        have := (hcell i (by omega)).1
        rw [add_plain, (hZ i hi).1] at this
        rw [this]; simp [List.getD, hi]

theorem irow_of {t e : TypeId} {k : IntKind} {fuel : Nat} {v : Value} {x : DataW H × List MemPlace} (ht : P.underlying t = some (.slice e)) (he : P.underlying e = some (.int k)) (hc : P.cellsOf e = 1)
    (h : DataW.trod enc P w base spare held fuel t [v] = some x) : ∃ n zs, IRow k w v n zs := by
  rcases open_slice1 ht hc h with ⟨hcs, _⟩ | ⟨a, len, cap, m, n, V, D, Pl, hcs, _, hl, hm, hmm, hx, hcell⟩
  · simp only [List.cons.injEq, and_true] at hcs
    exact ⟨0, [], rfl, Nat.zero_le _, by simp, .inl ⟨rfl, _, _, hcs⟩⟩
  · simp only [List.cons.injEq, and_true] at hcs
    have hlm : len ≤ m := by rw [hmm]; split <;> omega
    by_cases h0 : len = 0
    · subst h0
      exact ⟨0, [], rfl, Nat.zero_le _, by simp, .inl ⟨rfl, _, _, hcs⟩⟩
    · obtain ⟨Z, hZ⟩ := choose_lt (α := Int) (n := len) (p := fun i z => V i = .int k z ∧ (Lit.int k z).wf = true) (fun i hi => by
        obtain ⟨_, h2⟩ := hcell i (by omega)
        obtain ⟨b, hb, _, hw⟩ := DataW.trod_int he h2
        simp only [List.cons.injEq, and_true] at hb
        exact ⟨b, hb, hw⟩)
      obtain ⟨b, off, spot⟩ := a
      have hspot : spot = none := by simpa [Addr.add] using World.cell?_spot (hcell 0 (by omega)).1
      subst hspot
      have hc0 := (hcell 0 (by omega)).1
      refine ⟨len, (List.range len).map Z, by simp, by omega, ?_, .inr ⟨by omega, b, off, cap, hcs, hl, hm, ?_, ?_⟩⟩
      · intro z hz
        obtain ⟨i, hi, rfl⟩ := List.mem_map.1 hz
        exact (hZ i (by simpa using hi)).2
      · have := World.block_lt_of_cell? w _ hc0
        simpa [Addr.add] using this
      · intro i hi
        have := (hcell i (by omega)).1
        rw [add_plain, (hZ i hi).1] at this
        rw [this]; simp [List.getD, hi]

theorem open_frow {t e : TypeId} {v : Value} {d : DataW H} {ps : List MemPlace} (ht : P.underlying t = some (.slice e)) (he : P.underlying e = some (.float .f32)) (hc : P.cellsOf e = 1)
    (hval : ∃ a l c, v = .slice a l c) (h : DataW.Trod enc P w base spare held t v d ps) : ∃ n zs, FRow w v n zs := by
  obtain ⟨fuel, hf⟩ := h
  obtain ⟨a, l, c, rfl⟩ := hval
  exact frow_of ht he hc (by simpa [Value.cells] using hf)

theorem open_irow {t e : TypeId} {k : IntKind} {v : Value} {d : DataW H} {ps : List MemPlace} (ht : P.underlying t = some (.slice e)) (he : P.underlying e = some (.int k)) (hc : P.cellsOf e = 1)
    (hval : ∃ a l c, v = .slice a l c) (h : DataW.Trod enc P w base spare held t v d ps) : ∃ n zs, IRow k w v n zs := by
  obtain ⟨fuel, hf⟩ := h
  obtain ⟨a, l, c, rfl⟩ := hval
  exact irow_of ht he hc (by simpa [Value.cells] using hf)

/-- struct { Rows int64; Columns int64; Numbers []float32 } by value -/
theorem open_matrix {r : Reach} {b0 : Nat} {t te : TypeId} {f0 f1 f2 : Field} {v : Value} {d : DataW H} {ps : List MemPlace} (ht : P.underlying t = some (.struct #[f0, f1, f2])) (hone : oneCellFields P #[f0, f1, f2] = true) (hC : P.cellsOf t = 3)
    (hi : P.underlying f0.type = some (.int .i64)) (hj : P.underlying f1.type = some (.int .i64)) (hs : P.underlying f2.type = some (.slice te)) (he : P.underlying te = some (.float .f32)) (hc : P.cellsOf te = 1)
    (hval : Value.okWide P w r b0 t v) (h : DataW.Trod enc P w base spare held t v d ps) :
    ∃ x y s n zs, v = .agg #[.int .i64 x, .int .i64 y, s] ∧ (Lit.int .i64 x).wf = true ∧ (Lit.int .i64 y).wf = true ∧ FRow w s n zs := by
  obtain ⟨v0, v1, v2, y0, y1, y2, n, rfl, _, _, h0, h1, h2⟩ := open_agg3 ht hone hC hval h
  obtain ⟨x, e0, _, w0⟩ := DataW.trod_int hi h0
  obtain ⟨y, e1, _, w1⟩ := DataW.trod_int hj h1
  simp only [List.cons.injEq, and_true] at e0 e1
  obtain ⟨n', zs, hf⟩ := frow_of hs he hc h2
  exact ⟨x, y, v2, n', zs, by rw [e0, e1], w0, w1, hf⟩

/-- struct { Mids []float32; Sides []float32 } by value -/
theorem open_chain {r : Reach} {b0 : Nat} {t te : TypeId} {f0 f1 : Field} {v : Value} {d : DataW H} {ps : List MemPlace} (ht : P.underlying t = some (.struct #[f0, f1])) (hone : oneCellFields P #[f0, f1] = true) (hC : P.cellsOf t = 2)
    (hs : P.underlying f0.type = some (.slice te)) (hs' : P.underlying f1.type = some (.slice te)) (he : P.underlying te = some (.float .f32)) (hc : P.cellsOf te = 1)
    (hval : Value.okWide P w r b0 t v) (h : DataW.Trod enc P w base spare held t v d ps) :
    ∃ s n zs s' m ys, v = .agg #[s, s'] ∧ FRow w s n zs ∧ FRow w s' m ys := by
  obtain ⟨v0, v1, y0, y1, n, rfl, _, _, h0, h1⟩ := open_agg2 ht hone hC hval h
  obtain ⟨n0, z0, hf0⟩ := frow_of hs he hc h0
  obtain ⟨n1, z1, hf1⟩ := frow_of hs' he hc h1
  exact ⟨v0, n0, z0, v1, n1, z1, rfl, hf0, hf1⟩
end
end Go.Proofs.YtlhhedmammjieaaDoor.Opn
