/- The contract of the laws' copy of a factor, and how a factor that came in is opened. -/
import Derived.Test.YteblbalciemkiaaFactor
namespace Go.Proofs.Yteblbalciemkiaa
open Go.RowKit Opn Go.ChangeShapes Go.WideShapes Go.Joins Go.Deep
set_option linter.unusedSimpArgs false

theorem IOwn.other {w : World} {g n : Nat} {zs : List Int} (h : IOwn w g n zs) {p : Addr} (hp : p.block ≠ g) (v : Value) : IOwn (w.setCell p v) g n zs := by
  obtain ⟨h1, h2, h3⟩ := h
  refine ⟨h1, by simpa [World.setCell] using h2, fun i hi => ⟨?_, by rw [World.frozen?_setCell]; exact (h3 i hi).2⟩⟩
  rw [World.cell?_setCell_other (h := fun e => hp (by rw [e])), (h3 i hi).1]

set_option maxHeartbeats 4000000 in
theorem toFa_any (x y : Int) (s t : Value) (n m : Nat) (zs : List Nat) (ys : List Int) (w : World) (h : FRow w s n zs) (h' : IRow .i64 w t m ys) (hn : n ≤ 1048576) (hm : m ≤ 1048576) : Calls Try.prog 33 #[.agg #[.int .i64 x, .int .i64 y, s, t]] w fun e w' => ∃ g g', e = .returned (.agg #[.int .i64 x, .int .i64 y, .slice (some ⟨g, 0, none⟩) n n, .slice (some ⟨g', 0, none⟩) m m]) ∧ FOwn w' g n zs ∧ IOwn w' g' m ys ∧ Below w.heap.size w w' := by
  have H : Hid (FRow w s n zs) := h
  have H' : Hid (IRow .i64 w t m ys) := h'
  clear h h'
  go_enter Try.func33, Try.ntmps33
  go_wp2_with fail
  refine (toM_any x y s n zs _ (H.out.below (B := w.heap.size) (by go_grown) (Nat.le_refl _)) hn).mono ?_
  rintro e w1 ⟨g, rfl, hg, ho, hb⟩
  have hg1 : w.heap.size + 1 + 1 + 1 ≤ g := by simpa using hg
  have p3 : w1.cell? ⟨w.heap.size, 3, none⟩ = some (t) := by rw [hb.cell (p := ⟨w.heap.size, 3, none⟩) (by show _ < Array.size _; simp <;> omega)]; simp [go_sem]
  have a0 : w1.cell? ⟨w.heap.size + 1, 0, none⟩ = some (.int .i64 0) := by rw [hb.cell (p := ⟨w.heap.size + 1, 0, none⟩) (by show _ < Array.size _; simp <;> omega)]; simp [go_sem]
  have a1 : w1.cell? ⟨w.heap.size + 1, 1, none⟩ = some (.int .i64 0) := by rw [hb.cell (p := ⟨w.heap.size + 1, 1, none⟩) (by show _ < Array.size _; simp <;> omega)]; simp [go_sem]
  have a2 : w1.cell? ⟨w.heap.size + 1, 2, none⟩ = some (.slice none 0 0) := by rw [hb.cell (p := ⟨w.heap.size + 1, 2, none⟩) (by show _ < Array.size _; simp <;> omega)]; simp [go_sem]
  have a3 : w1.cell? ⟨w.heap.size + 1, 3, none⟩ = some (.slice none 0 0) := by rw [hb.cell (p := ⟨w.heap.size + 1, 3, none⟩) (by show _ < Array.size _; simp <;> omega)]; simp [go_sem]
  have b0 : w1.cell? ⟨w.heap.size + 1 + 1, 0, none⟩ = some (.int .i64 0) := by rw [hb.cell (p := ⟨w.heap.size + 1 + 1, 0, none⟩) (by show _ < Array.size _; simp <;> omega)]; simp [go_sem]
  have b1 : w1.cell? ⟨w.heap.size + 1 + 1, 1, none⟩ = some (.int .i64 0) := by rw [hb.cell (p := ⟨w.heap.size + 1 + 1, 1, none⟩) (by show _ < Array.size _; simp <;> omega)]; simp [go_sem]
  have b2 : w1.cell? ⟨w.heap.size + 1 + 1, 2, none⟩ = some (.slice none 0 0) := by rw [hb.cell (p := ⟨w.heap.size + 1 + 1, 2, none⟩) (by show _ < Array.size _; simp <;> omega)]; simp [go_sem]
  have b3 : w1.cell? ⟨w.heap.size + 1 + 1, 3, none⟩ = some (.slice none 0 0) := by rw [hb.cell (p := ⟨w.heap.size + 1 + 1, 3, none⟩) (by show _ < Array.size _; simp <;> omega)]; simp [go_sem]
  have f0 : w1.frozen? ⟨w.heap.size + 1, 0, none⟩ = false := by rw [hb.frozen (p := ⟨w.heap.size + 1, 0, none⟩) (by show _ < Array.size _; simp <;> omega)]; simp [go_sem]
  have f1 : w1.frozen? ⟨w.heap.size + 1, 1, none⟩ = false := by rw [hb.frozen (p := ⟨w.heap.size + 1, 1, none⟩) (by show _ < Array.size _; simp <;> omega)]; simp [go_sem]
  have f2 : w1.frozen? ⟨w.heap.size + 1, 2, none⟩ = false := by rw [hb.frozen (p := ⟨w.heap.size + 1, 2, none⟩) (by show _ < Array.size _; simp <;> omega)]; simp [go_sem]
  have f3 : w1.frozen? ⟨w.heap.size + 1, 3, none⟩ = false := by rw [hb.frozen (p := ⟨w.heap.size + 1, 3, none⟩) (by show _ < Array.size _; simp <;> omega)]; simp [go_sem]
  have k0 : w1.frozen? ⟨w.heap.size + 1 + 1, 0, none⟩ = false := by rw [hb.frozen (p := ⟨w.heap.size + 1 + 1, 0, none⟩) (by show _ < Array.size _; simp <;> omega)]; simp [go_sem]
  have k1 : w1.frozen? ⟨w.heap.size + 1 + 1, 1, none⟩ = false := by rw [hb.frozen (p := ⟨w.heap.size + 1 + 1, 1, none⟩) (by show _ < Array.size _; simp <;> omega)]; simp [go_sem]
  have k2 : w1.frozen? ⟨w.heap.size + 1 + 1, 2, none⟩ = false := by rw [hb.frozen (p := ⟨w.heap.size + 1 + 1, 2, none⟩) (by show _ < Array.size _; simp <;> omega)]; simp [go_sem]
  have k3 : w1.frozen? ⟨w.heap.size + 1 + 1, 3, none⟩ = false := by rw [hb.frozen (p := ⟨w.heap.size + 1 + 1, 3, none⟩) (by show _ < Array.size _; simp <;> omega)]; simp [go_sem]
  have hB1 : Below w.heap.size w w1 := Below.trans (b := _) (by go_grown) (hb.mono (by simp; omega))
  have hsz1 : w.heap.size + 1 + 1 + 1 ≤ w1.heap.size := by have := hb.size; simpa using this
  have HB1 : Hid (Below w.heap.size w (((w1.setCell ⟨w.heap.size + 1 + 1, 0, none⟩ (.int .i64 x)).setCell ⟨w.heap.size + 1 + 1, 1, none⟩ (.int .i64 y)).setCell ⟨w.heap.size + 1 + 1, 2, none⟩ (.slice (some ⟨g, 0, none⟩) n n))) := ((hB1.setCell (by show _ ≤ w.heap.size + 1 + 1; omega) _).setCell (by show _ ≤ w.heap.size + 1 + 1; omega) _).setCell (by show _ ≤ w.heap.size + 1 + 1; omega) _
  have HO1 : Hid (FOwn (((w1.setCell ⟨w.heap.size + 1 + 1, 0, none⟩ (.int .i64 x)).setCell ⟨w.heap.size + 1 + 1, 1, none⟩ (.int .i64 y)).setCell ⟨w.heap.size + 1 + 1, 2, none⟩ (.slice (some ⟨g, 0, none⟩) n n)) g n zs) := ((ho.other (by show w.heap.size + 1 + 1 ≠ g; omega) _).other (by show w.heap.size + 1 + 1 ≠ g; omega) _).other (by show w.heap.size + 1 + 1 ≠ g; omega) _
  have hgl := ho.2.1
  clear hb ho hg hB1
  go_wp2_with fail
  refine (toI_any t m ys _ (H'.out.below HB1.out (Nat.le_refl _)) hm).mono ?_
  rintro e w2 ⟨g', rfl, hg', ho', hb'⟩
  have hg1' : w1.heap.size ≤ g' := by simpa using hg'
  have A0 : w2.cell? ⟨w.heap.size + 1, 0, none⟩ = some (.int .i64 0) := by rw [hb'.cell (p := ⟨w.heap.size + 1, 0, none⟩) (by show _ < Array.size _; simp <;> omega)]; simp [go_sem, a0]
  have A1 : w2.cell? ⟨w.heap.size + 1, 1, none⟩ = some (.int .i64 0) := by rw [hb'.cell (p := ⟨w.heap.size + 1, 1, none⟩) (by show _ < Array.size _; simp <;> omega)]; simp [go_sem, a1]
  have A2 : w2.cell? ⟨w.heap.size + 1, 2, none⟩ = some (.slice none 0 0) := by rw [hb'.cell (p := ⟨w.heap.size + 1, 2, none⟩) (by show _ < Array.size _; simp <;> omega)]; simp [go_sem, a2]
  have A3 : w2.cell? ⟨w.heap.size + 1, 3, none⟩ = some (.slice none 0 0) := by rw [hb'.cell (p := ⟨w.heap.size + 1, 3, none⟩) (by show _ < Array.size _; simp <;> omega)]; simp [go_sem, a3]
  have B0 : w2.cell? ⟨w.heap.size + 1 + 1, 0, none⟩ = some (.int .i64 x) := by rw [hb'.cell (p := ⟨w.heap.size + 1 + 1, 0, none⟩) (by show _ < Array.size _; simp <;> omega)]; simp [go_sem, b0, b1, b2, b3]
  have B1 : w2.cell? ⟨w.heap.size + 1 + 1, 1, none⟩ = some (.int .i64 y) := by rw [hb'.cell (p := ⟨w.heap.size + 1 + 1, 1, none⟩) (by show _ < Array.size _; simp <;> omega)]; simp [go_sem, b0, b1, b2, b3]
  have B2 : w2.cell? ⟨w.heap.size + 1 + 1, 2, none⟩ = some (.slice (some ⟨g, 0, none⟩) n n) := by rw [hb'.cell (p := ⟨w.heap.size + 1 + 1, 2, none⟩) (by show _ < Array.size _; simp <;> omega)]; simp [go_sem, b0, b1, b2, b3]
  have B3 : w2.cell? ⟨w.heap.size + 1 + 1, 3, none⟩ = some (.slice none 0 0) := by rw [hb'.cell (p := ⟨w.heap.size + 1 + 1, 3, none⟩) (by show _ < Array.size _; simp <;> omega)]; simp [go_sem, b0, b1, b2, b3]
  have F0 : w2.frozen? ⟨w.heap.size + 1, 0, none⟩ = false := by rw [hb'.frozen (p := ⟨w.heap.size + 1, 0, none⟩) (by show _ < Array.size _; simp <;> omega)]; simp [go_sem, f0]
  have F1 : w2.frozen? ⟨w.heap.size + 1, 1, none⟩ = false := by rw [hb'.frozen (p := ⟨w.heap.size + 1, 1, none⟩) (by show _ < Array.size _; simp <;> omega)]; simp [go_sem, f1]
  have F2 : w2.frozen? ⟨w.heap.size + 1, 2, none⟩ = false := by rw [hb'.frozen (p := ⟨w.heap.size + 1, 2, none⟩) (by show _ < Array.size _; simp <;> omega)]; simp [go_sem, f2]
  have F3 : w2.frozen? ⟨w.heap.size + 1, 3, none⟩ = false := by rw [hb'.frozen (p := ⟨w.heap.size + 1, 3, none⟩) (by show _ < Array.size _; simp <;> omega)]; simp [go_sem, f3]
  have K3 : w2.frozen? ⟨w.heap.size + 1 + 1, 3, none⟩ = false := by rw [hb'.frozen (p := ⟨w.heap.size + 1 + 1, 3, none⟩) (by show _ < Array.size _; simp <;> omega)]; simp [go_sem, k3]
  have HB2 : Hid (Below w.heap.size w w2) := HB1.out.trans (hb'.mono (by simp; omega))
  have HO2 : Hid (FOwn w2 g n zs) := HO1.out.below hb' (by simpa using hgl)
  have HO3 : Hid (IOwn w2 g' m ys) := ho'
  clear p3 a0 a1 a2 a3 b0 b1 b2 b3 f0 f1 f2 f3 k0 k1 k2 k3 hb' ho' hg' HB1 HO1
  obtain ⟨P, hP⟩ : ∃ P, P = w2.setCell ⟨w.heap.size + 1 + 1, 3, none⟩ (.slice (some ⟨g', 0, none⟩) m m) := ⟨_, rfl⟩
  have c0 : P.cell? ⟨w.heap.size + 1, 0, none⟩ = some (.int .i64 0) := by rw [hP]; simp [go_sem, A0]
  have c1 : P.cell? ⟨w.heap.size + 1, 1, none⟩ = some (.int .i64 0) := by rw [hP]; simp [go_sem, A1]
  have c2 : P.cell? ⟨w.heap.size + 1, 2, none⟩ = some (.slice none 0 0) := by rw [hP]; simp [go_sem, A2]
  have c3 : P.cell? ⟨w.heap.size + 1, 3, none⟩ = some (.slice none 0 0) := by rw [hP]; simp [go_sem, A3]
  have e0 : (P.setCell ⟨w.heap.size + 1, 0, none⟩ (.int .i64 x)).cell? ⟨w.heap.size + 1, 0, none⟩ = some (.int .i64 x) := by simp [go_sem, c0]
  have e1 : ((P.setCell ⟨w.heap.size + 1, 0, none⟩ (.int .i64 x)).setCell ⟨w.heap.size + 1, 1, none⟩ (.int .i64 y)).cell? ⟨w.heap.size + 1, 1, none⟩ = some (.int .i64 y) := by simp [go_sem, c1]
  have e2 : (((P.setCell ⟨w.heap.size + 1, 0, none⟩ (.int .i64 x)).setCell ⟨w.heap.size + 1, 1, none⟩ (.int .i64 y)).setCell ⟨w.heap.size + 1, 2, none⟩ (.slice (some ⟨g, 0, none⟩) n n)).cell? ⟨w.heap.size + 1, 2, none⟩ = some (.slice (some ⟨g, 0, none⟩) n n) := by simp [go_sem, c2]
  have e3 : ((((P.setCell ⟨w.heap.size + 1, 0, none⟩ (.int .i64 x)).setCell ⟨w.heap.size + 1, 1, none⟩ (.int .i64 y)).setCell ⟨w.heap.size + 1, 2, none⟩ (.slice (some ⟨g, 0, none⟩) n n)).setCell ⟨w.heap.size + 1, 3, none⟩ (.slice (some ⟨g', 0, none⟩) m m)).cell? ⟨w.heap.size + 1, 3, none⟩ = some (.slice (some ⟨g', 0, none⟩) m m) := by simp [go_sem, c3]
  have e4 : P.cell? ⟨w.heap.size + 1 + 1, 3, none⟩ = some (.slice (some ⟨g', 0, none⟩) m m) := by rw [hP]; simp [go_sem, B3]
  rw [hP] at e0 e1 e2 e3 e4
  clear c0 c1 c2 c3 hP
  go_wp2_with fail
  (try simp only [Exit.inBlock, Exit.then])
  refine bodyPost_ret (by simp [results, Try.results33, go_sem, e0, e1, e2, e3]; try rfl) rfl ?_
  exact ⟨g, g', rfl, (((((HO2.out.other (by show w.heap.size + 1 + 1 ≠ g; omega) _).other (by show w.heap.size + 1 ≠ g; omega) _).other (by show w.heap.size + 1 ≠ g; omega) _).other (by show w.heap.size + 1 ≠ g; omega) _).other (by show w.heap.size + 1 ≠ g; omega) _), (((((HO3.out.other (by show w.heap.size + 1 + 1 ≠ g'; omega) _).other (by show w.heap.size + 1 ≠ g'; omega) _).other (by show w.heap.size + 1 ≠ g'; omega) _).other (by show w.heap.size + 1 ≠ g'; omega) _).other (by show w.heap.size + 1 ≠ g'; omega) _), (((((HB2.out.setCell (by show _ ≤ w.heap.size + 1 + 1; omega) _).setCell (by show _ ≤ w.heap.size + 1; omega) _).setCell (by show _ ≤ w.heap.size + 1; omega) _).setCell (by show _ ≤ w.heap.size + 1; omega) _).setCell (by show _ ≤ w.heap.size + 1; omega) _)⟩

/-- struct { Square struct { Rows, Columns int64; Numbers []float32 }; Order []int64 } by value: its cells stand in one row -/
theorem Opn.open_factor {H : Type} {enc : TypeId × Value → H} {P : Program} {w : World} {base : Nat} {spare : Nat → Bool} {held : Bool} {r : Reach} {b0 : Nat} {t te to : TypeId} {f0 f1 g0 g1 g2 : Field} {v : Value} {d : DataW H} {ps : List MemPlace}
    (ht : P.underlying t = some (.struct #[f0, f1])) (hC : P.cellsOf t = 4) (ho0 : f0.offset = 0) (ho1 : f1.offset = 3) (hc0 : P.cellsOf f0.type = 3) (hc1 : P.cellsOf f1.type = 1)
    (hm : P.underlying f0.type = some (.struct #[g0, g1, g2])) (gone : oneCellFields P #[g0, g1, g2] = true)
    (hi : P.underlying g0.type = some (.int .i64)) (hj : P.underlying g1.type = some (.int .i64)) (hs : P.underlying g2.type = some (.slice te)) (he : P.underlying te = some (.float .f32)) (hc : P.cellsOf te = 1)
    (hso : P.underlying f1.type = some (.slice to)) (heo : P.underlying to = some (.int .i64)) (hco : P.cellsOf to = 1)
    (hval : Value.okWide P w r b0 t v) (h : DataW.Trod enc P w base spare held t v d ps) :
    ∃ x y s n zs o m ys, v = .agg #[.int .i64 x, .int .i64 y, s, o] ∧ FRow w s n zs ∧ IRow .i64 w o m ys := by
  obtain ⟨cs, rfl, hsz⟩ := okWide_struct ht hval
  obtain ⟨c0, c1, c2, c3, rfl⟩ := array4 (hsz.trans hC)
  obtain ⟨fuel, hf⟩ := h
  obtain ⟨y0, y1, q, hx, _, h0, h1⟩ := trod_struct2 ht hf
  have k0 : DataW.trod enc P w base spare held q f0.type [c0, c1, c2] = some y0 := by simpa [Value.cells, ho0, hc0] using h0
  have k1 : DataW.trod enc P w base spare held q f1.type [c3] = some y1 := by simpa [Value.cells, ho1, hc1] using h1
  obtain ⟨z0, z1, z2, q', hx', _, l0, l1, l2⟩ := trod_struct3 hm k0
  obtain ⟨o0, u0⟩ := hone_of gone 0 g0 rfl
  obtain ⟨o1, u1⟩ := hone_of gone 1 g1 rfl
  obtain ⟨o2, u2⟩ := hone_of gone 2 g2 rfl
  have m0 : DataW.trod enc P w base spare held q' g0.type [c0] = some z0 := by simpa [o0, u0] using l0
  have m1 : DataW.trod enc P w base spare held q' g1.type [c1] = some z1 := by simpa [o1, u1] using l1
  have m2 : DataW.trod enc P w base spare held q' g2.type [c2] = some z2 := by simpa [o2, u2] using l2
  obtain ⟨x, e0, _, _⟩ := DataW.trod_int hi m0
  obtain ⟨y, e1, _, _⟩ := DataW.trod_int hj m1
  simp only [List.cons.injEq, and_true] at e0 e1
  obtain ⟨n, zs, hF⟩ := Opn.frow_of hs he hc m2
  obtain ⟨m, ys, hI⟩ := Opn.irow_of hso heo hco k1
  exact ⟨x, y, c2, n, zs, c3, m, ys, by rw [e0, e1], hF, hI⟩

end Go.Proofs.Yteblbalciemkiaa
