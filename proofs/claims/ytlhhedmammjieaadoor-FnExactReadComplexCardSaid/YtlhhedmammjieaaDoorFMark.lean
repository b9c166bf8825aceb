/- Contracts of the marks that a law sets into a row of numbers, and of the look at them. -/
import Derived.Test.YtlhhedmammjieaaDoorVec
import Derived.Laws.OwnMore
namespace Go.Proofs.YtlhhedmammjieaaDoor
open Go.RowKit Opn

/-- only block g may have changed -/
structure Only (g : Nat) (w w' : World) : Prop where
  os : w'.os = w.os
  tape : w'.tape = w.tape
  output : w'.output = w.output
  size : w'.heap.size = w.heap.size
  block : ∀ b, b ≠ g → w'.heap[b]? = w.heap[b]?

theorem Only.refl (g : Nat) (w : World) : Only g w w := ⟨rfl, rfl, rfl, rfl, fun _ _ => rfl⟩
theorem Only.setCell {g : Nat} {w w' : World} (h : Only g w w') {p : Addr} (hp : p.block = g) (u : Value) : Only g w (w'.setCell p u) :=
  ⟨h.os, h.tape, h.output, by rw [← h.size]; simp [World.setCell], fun b hb => by rw [Below.heap_setCell _ _ _ _ (by rw [hp]; exact hb)]; exact h.block b hb⟩
theorem Only.cell {g : Nat} {w w' : World} (h : Only g w w') {p : Addr} (hp : p.block ≠ g) : w'.cell? p = w.cell? p := World.cell?_of_block (w := w) (h.block p.block hp)
theorem Only.frozen {g : Nat} {w w' : World} (h : Only g w w') {p : Addr} (hp : p.block ≠ g) : w'.frozen? p = w.frozen? p := World.frozen?_of_block (w := w) (h.block p.block hp)
theorem Only.below {g B : Nat} {w w' : World} (h : Only g w w') (hB : B ≤ g) : Below B w w' := ⟨h.os, h.tape, h.output, by rw [h.size]; exact Nat.le_refl _, fun k hk => h.block k (by omega)⟩

theorem FOwn.only {w w' : World} {g g' n : Nat} {zs : List Nat} (h : FOwn w g' n zs) (k : Only g w w') (hg : g' ≠ g) : FOwn w' g' n zs := by
  obtain ⟨h1, h2, h3⟩ := h
  refine ⟨h1, by rw [k.size]; exact h2, fun i hi => ?_⟩
  rw [k.cell (p := ⟨g', i, none⟩) hg, k.frozen (p := ⟨g', i, none⟩) hg]
  exact h3 i hi

theorem FOwn.rowc {w : World} {g n cp : Nat} {zs : List Nat} (h : FOwn w g n zs) (hn : n ≤ cp) (hm : cp ≤ maxLen) (hz : ∀ z ∈ zs, z < 4294967296) : FRow w (.slice (some ⟨g, 0, none⟩) n cp) n zs := by
  refine ⟨h.1, Nat.le_trans hn hm, hz, ?_⟩
  by_cases h0 : n = 0
  · subst h0; exact .inl ⟨rfl, _, _, rfl⟩
  · exact .inr ⟨by omega, g, 0, cp, rfl, hn, hm, h.2.1, fun i hi => by rw [Nat.zero_add]; exact h.cell hi⟩

/-- a row of the call's own that appends have made -/
theorem FOwn.of_owns {w : World} {g n cp base E : Nat} {zs : List Nat} (h : w.ownsRow base E 1 (.slice (some ⟨g, 0, none⟩) n cp) n (zs.map (Value.float .f32))) : FOwn w g n zs ∧ n ≤ cp ∧ cp ≤ maxLen := by
  have hl : zs.length = n := by simpa using h.1
  obtain ⟨_, hl2⟩ := h.lt g rfl
  have hc : n ≤ cp ∧ cp ≤ maxLen := by
    rcases h.2 with ⟨h', _⟩ | ⟨g', cap', cur, h', _, _, h1, h2, _⟩
    · cases h'
    · simp only [Value.slice.injEq, Option.some.injEq, Addr.mk.injEq, and_true, true_and] at h'
      obtain ⟨rfl, rfl⟩ := h'
      exact ⟨h1, h2⟩
  refine ⟨⟨hl, hl2, fun i hi => ⟨?_, h.frozenAt i⟩⟩, hc⟩
  rw [h.cellAt i (by omega)]
  simp [List.getD, hl, hi]

/-- the marks from k on -/
def marks (k : Int) (n : Nat) : List Nat := (List.range n).map fun (i : Nat) => floatOfInt .f32 (k + (i : Int))

theorem marks_len (k : Int) (n : Nat) : (marks k n).length = n := by simp [marks]
theorem marks_get (k : Int) (n i : Nat) (h : i < n) : (marks k n).getD i 0 = floatOfInt .f32 (k + (i : Int)) := by simp [marks, List.getD, h]

/-- the first j of a row marked -/
def markUp (k : Int) (zs : List Nat) (j : Nat) : List Nat := marks k j ++ zs.drop j
theorem markUp_step (k : Int) (zs : List Nat) (j : Nat) (h : j < zs.length) : (markUp k zs j).set j (floatOfInt .f32 (k + (j : Int))) = markUp k zs (j + 1) := by
  unfold markUp
  rw [List.set_append_right _ _ (by rw [marks_len]; exact Nat.le_refl _), marks_len, Nat.sub_self, List.drop_eq_getElem_cons h, List.set_cons_zero]
  have : marks k (j + 1) = marks k j ++ [floatOfInt .f32 (k + (j : Int))] := by simp [marks, List.range_succ]
  rw [this, List.append_assoc]
  rfl

set_option maxHeartbeats 1000000 in
theorem mark_any (g n cp : Nat) (zs : List Nat) (k : Int) (w : World) (h : FOwn w g n zs) (hn : n ≤ 1048576) (hk0 : 0 ≤ k) (hk1 : k ≤ 1048576) : Calls Tryd.prog 12 #[.slice (some ⟨g, 0, none⟩) n cp, .int .i64 k] w fun e w' => e = .returned (.int .i64 (k + n)) ∧ FOwn w' g n (marks k n) ∧ Only g w w' := by
  have hl := h.1
  have H0 : Hid (FOwn w g n (markUp k zs 0)) := h
  clear h
  go_enter Tryd.func12, Tryd.ntmps12
  go_wp2
  go_loopw [1, 5] (fun ms is wr => ∃ j : Nat, j ≤ n ∧ is = .int .i64 (j : Int) ∧ ms = .int .i64 (k + (j : Int)) ∧ Hid (FOwn wr g n (markUp k zs j)) ∧ Hid (Only g w wr)) (fun _ is _ => n - (intOf is).toNat)
  case atStart => exact ⟨0, Nat.zero_le _, rfl, by simp, H0, Only.refl _ _⟩
  case round =>
    obtain ⟨j, hj, rfl, rfl, HO, HW⟩ := hrel
    by_cases hlt : j < n
    · have c1 := HO.out.cell hlt
      have c2 := HO.out.free hlt
      have HS : Hid (FOwn (wr.setCell ⟨g, j, none⟩ (.float .f32 (floatOfInt .f32 (k + (j : Int))))) g n (markUp k zs (j + 1))) := by
        have := HO.out.set hlt (floatOfInt .f32 (k + (j : Int)))
        rwa [markUp_step k zs j (by omega)] at this
      have HX : Hid (Only g w (wr.setCell ⟨g, j, none⟩ (.float .f32 (floatOfInt .f32 (k + (j : Int)))))) := HW.out.setCell rfl _
      clear HO HW
      go_wp2
      go_roundw
      case rel => exact ⟨j + 1, by omega, by go_num, by go_num, HS, HX⟩
      case measure => simp [intOf]; omega
    · obtain rfl : j = n := by omega
      have HE : Hid (FOwn wr g j (marks k j)) := by
        have := HO.out
        unfold markUp at this
        rwa [List.drop_of_length_le (by omega), List.append_nil] at this
      go_wp2
      go_ret
      exact ⟨rfl, HE.out, HW.out⟩

theorem int32_self (e : Int) : (FloatKind.f32.format.order (floatOfInt .f32 e) (floatOfInt .f32 e) != some .eq) = false := by
  have := Flt.rung_write FloatKind.f32.format (.number (e < 0) e.natAbs 0) rfl
  exact neql_self (k := .f32) this

set_option maxHeartbeats 1000000 in
theorem held_any (g n cp : Nat) (k : Int) (w : World) (h : FOwn w g n (marks k n)) (hn : n ≤ 1048576) (hk0 : 0 ≤ k) (hk1 : k ≤ 1048576) : Calls Tryd.prog 13 #[.slice (some ⟨g, 0, none⟩) n cp, .int .i64 k] w fun e w' => e = .returned (.int .i64 (k + n)) ∧ w' = w := by
  have H : Hid (FOwn w g n (marks k n)) := h
  clear h
  go_enter Tryd.func13, Tryd.ntmps13
  go_wp2
  go_loopw [1, 5] (fun ms is wr => ∃ j : Nat, j ≤ n ∧ is = .int .i64 (j : Int) ∧ ms = .int .i64 (k + (j : Int)) ∧ wr = w) (fun _ is _ => n - (intOf is).toNat)
  case atStart => exact ⟨0, Nat.zero_le _, rfl, by simp, rfl⟩
  case round =>
    obtain ⟨j, hj, rfl, rfl, hwr⟩ := hrel
    subst hwr
    by_cases hlt : j < n
    · have c1 := H.out.cell hlt
      rw [marks_get k n j hlt] at c1
      have c2 := int32_self (k + (j : Int))
      go_wp2
      go_roundw
      case rel => exact ⟨j + 1, by omega, by go_num, by go_num, by first | rfl | trivial⟩
      case measure => simp [intOf]; omega
    · obtain rfl : j = n := by omega
      go_wp2
      go_ret
      exact ⟨rfl, by first | rfl | trivial⟩

/-- at a nil slice nothing is marked -/
theorem mark_nil (k : Int) (w : World) : Calls Tryd.prog 12 #[.slice none 0 0, .int .i64 k] w fun e w' => e = .returned (.int .i64 k) ∧ w' = w := by
  go_enter Tryd.func12, Tryd.ntmps12
  go_wp2
  go_loopw [1, 5] (fun ms is wr => is = .int .i64 0 ∧ ms = .int .i64 k ∧ wr = w) (fun _ _ _ => 0)
  case atStart => exact ⟨rfl, rfl, rfl⟩
  case round =>
    obtain ⟨rfl, rfl, hwr⟩ := hrel
    subst hwr
    go_wp2
    go_ret
    exact ⟨rfl, by first | rfl | trivial⟩
theorem held_nil (k : Int) (w : World) : Calls Tryd.prog 13 #[.slice none 0 0, .int .i64 k] w fun e w' => e = .returned (.int .i64 k) ∧ w' = w := by
  go_enter Tryd.func13, Tryd.ntmps13
  go_wp2
  go_loopw [1, 5] (fun ms is wr => is = .int .i64 0 ∧ ms = .int .i64 k ∧ wr = w) (fun _ _ _ => 0)
  case atStart => exact ⟨rfl, rfl, rfl⟩
  case round =>
    obtain ⟨rfl, rfl, hwr⟩ := hrel
    subst hwr
    go_wp2
    go_ret
    exact ⟨rfl, by first | rfl | trivial⟩

end Go.Proofs.YtlhhedmammjieaaDoor
