/- Contracts of the laws' helpers on matrices. -/
import Derived.Test.YteblbalciemkiaaAllFin
import Derived.Handy
namespace Go.Proofs.Yteblbalciemkiaa
open Go.RowKit Opn

theorem FOwn.other {w : World} {g n : Nat} {zs : List Nat} (h : FOwn w g n zs) {p : Addr} (hp : p.block ≠ g) (v : Value) : FOwn (w.setCell p v) g n zs := by
  obtain ⟨h1, h2, h3⟩ := h
  refine ⟨h1, by simpa [World.setCell] using h2, fun i hi => ⟨?_, by rw [World.frozen?_setCell]; exact (h3 i hi).2⟩⟩
  rw [World.cell?_setCell_other (h := fun e => hp (by rw [e])), (h3 i hi).1]

theorem szM_any (x y : Int) (s : Value) (n : Nat) (zs : List Nat) (w : World) (h : FRow w s n zs) : Calls Try.prog 25 #[.agg #[.int .i64 x, .int .i64 y, s], .int .i64 1048576] w fun e w' => e = .returned (.int .i64 (if n ≤ 1048576 then 1048576 - n else -1)) ∧ Below w.heap.size w w' := by
  obtain ⟨h1, h2, h3, h4⟩ := h
  have h2 : n ≤ 9223372036854775807 := h2
  obtain ⟨ao, cap, rfl⟩ : ∃ ao cap, s = .slice ao n cap := by
    rcases h4 with ⟨h0, ao, cap, hv⟩ | ⟨h0, b, off, cap, hv, _⟩
    · exact ⟨ao, cap, by rw [hv, h0]⟩
    · exact ⟨_, cap, hv⟩
  clear h1 h3 h4
  by_cases hn : n ≤ 1048576
  · rw [if_pos hn]
    go_enter Try.func25, Try.ntmps25
    go_wp2_with go_in
    go_ret
    exact ⟨by simp, by go_grown⟩
  · rw [if_neg hn]
    have hd : decide ((1048576 : Int) - (n : Int) < 0) = true := decide_eq_true (by omega)
    go_enter Try.func25, Try.ntmps25
    go_wp2_with go_in
    go_ret
    exact ⟨rfl, by go_grown⟩

theorem toM_any (x y : Int) (s : Value) (n : Nat) (zs : List Nat) (w : World) (h : FRow w s n zs) (hn : n ≤ 1048576) : Calls Try.prog 27 #[.agg #[.int .i64 x, .int .i64 y, s]] w fun e w' => ∃ g, e = .returned (.agg #[.int .i64 x, .int .i64 y, .slice (some ⟨g, 0, none⟩) n n]) ∧ w.heap.size ≤ g ∧ FOwn w' g n zs ∧ Below w.heap.size w w' := by
  have H : Hid (FRow w s n zs) := h
  clear h
  go_enter Try.func27, Try.ntmps27
  go_wp2_with fail
  refine (toF_any s n zs _ (H.out.below (B := w.heap.size) (by go_grown) (Nat.le_refl _)) hn).mono ?_
  rintro e w1 ⟨g, rfl, hg, ho, hb⟩
  have hg1 : w.heap.size + 1 + 1 + 1 ≤ g := by simpa using hg
  have a0 : w1.cell? ⟨w.heap.size + 1, 0, none⟩ = some (.int .i64 0) := by rw [hb.cell (p := ⟨w.heap.size + 1, 0, none⟩) (by show _ < Array.size _; simp <;> omega)]; simp [go_sem]
  have a1 : w1.cell? ⟨w.heap.size + 1, 1, none⟩ = some (.int .i64 0) := by rw [hb.cell (p := ⟨w.heap.size + 1, 1, none⟩) (by show _ < Array.size _; simp <;> omega)]; simp [go_sem]
  have a2 : w1.cell? ⟨w.heap.size + 1, 2, none⟩ = some (.slice none 0 0) := by rw [hb.cell (p := ⟨w.heap.size + 1, 2, none⟩) (by show _ < Array.size _; simp <;> omega)]; simp [go_sem]
  have b0 : w1.cell? ⟨w.heap.size + 1 + 1, 0, none⟩ = some (.int .i64 x) := by rw [hb.cell (p := ⟨w.heap.size + 1 + 1, 0, none⟩) (by show _ < Array.size _; simp <;> omega)]; simp [go_sem]
  have b1 : w1.cell? ⟨w.heap.size + 1 + 1, 1, none⟩ = some (.int .i64 y) := by rw [hb.cell (p := ⟨w.heap.size + 1 + 1, 1, none⟩) (by show _ < Array.size _; simp <;> omega)]; simp [go_sem]
  have b2 : w1.cell? ⟨w.heap.size + 1 + 1, 2, none⟩ = some (.slice none 0 0) := by rw [hb.cell (p := ⟨w.heap.size + 1 + 1, 2, none⟩) (by show _ < Array.size _; simp <;> omega)]; simp [go_sem]
  have f0 : w1.frozen? ⟨w.heap.size + 1, 0, none⟩ = false := by rw [hb.frozen (p := ⟨w.heap.size + 1, 0, none⟩) (by show _ < Array.size _; simp <;> omega)]; simp [go_sem]
  have f1 : w1.frozen? ⟨w.heap.size + 1, 1, none⟩ = false := by rw [hb.frozen (p := ⟨w.heap.size + 1, 1, none⟩) (by show _ < Array.size _; simp <;> omega)]; simp [go_sem]
  have f2 : w1.frozen? ⟨w.heap.size + 1, 2, none⟩ = false := by rw [hb.frozen (p := ⟨w.heap.size + 1, 2, none⟩) (by show _ < Array.size _; simp <;> omega)]; simp [go_sem]
  have f3 : w1.frozen? ⟨w.heap.size + 1 + 1, 2, none⟩ = false := by rw [hb.frozen (p := ⟨w.heap.size + 1 + 1, 2, none⟩) (by show _ < Array.size _; simp <;> omega)]; simp [go_sem]
  have HB : Hid (Below w.heap.size w w1) := Below.trans (b := _) (by go_grown) (hb.mono (by simp; omega))
  have HO : Hid (FOwn w1 g n zs) := ho
  have hsz := hb.size
  clear hb ho hg
  obtain ⟨P, hP⟩ : ∃ P, P = w1.setCell ⟨w.heap.size + 1 + 1, 2, none⟩ (.slice (some ⟨g, 0, none⟩) n n) := ⟨_, rfl⟩
  have k0 : P.cell? ⟨w.heap.size + 1, 0, none⟩ = some (.int .i64 0) := by rw [hP, World.cell?_setCell_other (h := by simp)]; exact a0
  have k1 : P.cell? ⟨w.heap.size + 1, 1, none⟩ = some (.int .i64 0) := by rw [hP, World.cell?_setCell_other (h := by simp)]; exact a1
  have k2 : P.cell? ⟨w.heap.size + 1, 2, none⟩ = some (.slice none 0 0) := by rw [hP, World.cell?_setCell_other (h := by simp)]; exact a2
  have e0 : (P.setCell ⟨w.heap.size + 1, 0, none⟩ (.int .i64 x)).cell? ⟨w.heap.size + 1, 0, none⟩ = some (.int .i64 x) := by simp [go_sem, k0]
  have e1 : ((P.setCell ⟨w.heap.size + 1, 0, none⟩ (.int .i64 x)).setCell ⟨w.heap.size + 1, 1, none⟩ (.int .i64 y)).cell? ⟨w.heap.size + 1, 1, none⟩ = some (.int .i64 y) := by simp [go_sem, k1]
  have e2 : (((P.setCell ⟨w.heap.size + 1, 0, none⟩ (.int .i64 x)).setCell ⟨w.heap.size + 1, 1, none⟩ (.int .i64 y)).setCell ⟨w.heap.size + 1, 2, none⟩ (.slice (some ⟨g, 0, none⟩) n n)).cell? ⟨w.heap.size + 1, 2, none⟩ = some (.slice (some ⟨g, 0, none⟩) n n) := by simp [go_sem, k2]
  rw [hP] at e0 e1 e2
  clear k0 k1 k2 hP
  go_wp2_with fail
  (try simp only [Exit.inBlock, Exit.then])
  refine bodyPost_ret (by simp [results, Try.results27, go_sem, e0, e1, e2]; try rfl) rfl ?_
  exact ⟨g, rfl, by omega, (((HO.out.other (by show w.heap.size + 1 + 1 ≠ g; omega) _).other (by show w.heap.size + 1 ≠ g; omega) _).other (by show w.heap.size + 1 ≠ g; omega) _).other (by show w.heap.size + 1 ≠ g; omega) _,
    (((HB.out.setCell (by show _ ≤ w.heap.size + 1 + 1; omega) _).setCell (by show _ ≤ w.heap.size + 1; omega) _).setCell (by show _ ≤ w.heap.size + 1; omega) _).setCell (by show _ ≤ w.heap.size + 1; omega) _⟩

theorem eqM_any (x y : Int) (s s' : Value) (n : Nat) (zs : List Nat) (w : World) (h : FRow w s n zs) (h' : FRow w s' n zs) (hn : n ≤ 1048576) : Calls Try.prog 13 #[.agg #[.int .i64 x, .int .i64 y, s], .agg #[.int .i64 x, .int .i64 y, s']] w fun e w' => e = .returned (.bool true) ∧ Below w.heap.size w w' := by
  have H : Hid (FRow w s n zs) := h
  have H' : Hid (FRow w s' n zs) := h'
  clear h h'
  go_enter Try.func13, Try.ntmps13
  go_wp2_with fail
  refine (eqF_any _ _ _ _ _ (H.out.below (B := w.heap.size) (by go_grown) (Nat.le_refl _)) (H'.out.below (B := w.heap.size) (by go_grown) (Nat.le_refl _)) hn).mono ?_
  rintro e w1 ⟨rfl, m, rfl⟩
  go_wp2_with fail
  go_ret
  exact ⟨rfl, below_drewN (by go_grown) _⟩
end Go.Proofs.Yteblbalciemkiaa
