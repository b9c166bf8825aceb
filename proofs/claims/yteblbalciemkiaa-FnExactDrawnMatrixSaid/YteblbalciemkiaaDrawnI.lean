/- The contract of the program's drawn matrix. -/
import Derived.Test.YteblbalciemkiaaDrawnS
namespace Go.Proofs.Yteblbalciemkiaa
open Go.RowKit Opn
set_option linter.unusedSimpArgs false

theorem BoxW.alloc {W : World} {b : Nat} {x y : Int} {s : Value} (h : BoxW W b x y s) (o : Obj) : BoxW (W.alloc o) b x y s := h.below ((Below.refl _ W).alloc (Nat.le_refl _) o) h.2.2

set_option maxRecDepth 100000 in
set_option maxHeartbeats 2000000 in
theorem drawI_ok (r c : Nat) (seed : Int) (w : World) (hr0 : 1 ≤ r) (hr : r ≤ 12) (hc0 : 1 ≤ c) (hc : c ≤ 12) (hs0 : 0 ≤ seed) (hs1 : seed ≤ 2147483647) : Calls Try.prog 17 #[.int .i64 r, .int .i64 c, .int .i64 seed] w fun e w' => ∃ g, e = .returned (.tuple #[.agg #[.int .i64 r, .int .i64 c, .slice (some ⟨g, 0, none⟩) (r * c : Nat) (r * c : Nat)], .int .i64 (seedAt seed (r * c)), .bool true]) ∧ w.heap.size ≤ g ∧ FOwn w' g (r * c) ((List.range (r * c)).map (drawF seed)) ∧ Below w.heap.size w w' := by
  have hmf : ∀ (fn : Fn) (first cap : Array Value) (w : World), (Instr.makeFunc fn first cap).run Try.prog w = .ok (.func fn first cap) w := fun _ _ _ _ => rfl
  have hsr : sideB (r : Int) = true := by unfold sideB; simp; omega
  have hsc : sideB (c : Int) = true := by unfold sideB; simp; omega
  have hse : seedB seed = true := by unfold seedB; simp; omega
  have HA : Hid (∀ w, Calls Try.prog 41 #[.int .i64 r] w fun e w' => e = .returned (.bool true) ∧ w' = w) := fun w => by have := isSide_any (r : Int) w; rwa [hsr] at this
  have HB : Hid (∀ w, Calls Try.prog 41 #[.int .i64 c] w fun e w' => e = .returned (.bool true) ∧ w' = w) := fun w => by have := isSide_any (c : Int) w; rwa [hsc] at this
  have HT : Hid (∀ w, Calls Try.prog 48 #[.int .i64 seed, .int .i64 0, .int .i64 2147483647] w fun e w' => e = .returned (.bool true) ∧ w' = w) := fun w => by have := inS_impl seed w; rwa [hse] at this
  have HM : Hid (∀ w0 : World, w0.cell? ⟨w.heap.size, 0, none⟩ = some (.int .i64 seed) → w0.frozen? ⟨w.heap.size, 0, none⟩ = false → w.heap.size < w0.heap.size → Calls Try.prog 42 #[.int .i64 r, .int .i64 c, .func (.func 49) #[] #[.pointer (some ⟨w.heap.size, 0, none⟩)]] w0 fun e w' => ∃ g, e = .returned (.agg #[.int .i64 r, .int .i64 c, .slice (some ⟨g, 0, none⟩) (r * c : Nat) (r * c : Nat)]) ∧ w0.heap.size ≤ g ∧ FOwn w' g (r * c) ((List.range (r * c)).map (drawF seed)) ∧ Kp (CD w.heap.size) w0 w' ∧ StD w.heap.size seed (r * c) w') := fun w0 h1 h2 h3 =>
    (madeD_any r c w0 w.heap.size seed hs0 hs1 h3 hr hc ⟨h1, h2, h3⟩).mono fun e w' ⟨g, he, hg, ho, hk, hst⟩ => ⟨g, he, hg, by rwa [fillTo_all] at ho, hk, hst⟩
  clear hsr hsc hse hs0 hs1
  generalize (List.range (r * c)).map (drawF seed) = zs at *
  generalize r * c = N at *
  have b0 : (w.alloc (.cells #[.int .i64 seed] 2)).cell? ⟨w.heap.size, 0, none⟩ = some (.int .i64 seed) := by simp [go_sem]
  go_enter Try.func17, Try.ntmps17
  go_wp2_with (first
    | (go_at_call 41; first | ((with_reducible refine (HA.out _).mono ?_); rintro e w' ⟨rfl, rfl⟩) | ((with_reducible refine (HB.out _).mono ?_); rintro e w' ⟨rfl, rfl⟩))
    | (go_at_call 48; (with_reducible refine (HT.out _).mono ?_); rintro e w' ⟨rfl, rfl⟩))
  refine (HM.out _ (by simp [go_sem]) (by simp [go_sem]) (by simp; omega)).mono ?_
  rintro e w1 ⟨g, rfl, hg, ho, hk, hst⟩
  have hg1 : w.heap.size + 2 ≤ g := by simpa using hg
  have HR1 : Hid (BoxW w1 (w.heap.size + 1) 0 0 (.slice none 0 0)) := by
    have := BoxW.new (w.alloc (.cells #[.int .i64 seed] 2)) 0 0 (.slice none 0 0) 24
    rw [World.size_alloc] at this
    exact this.kp hk (fun h => by have h : w.heap.size + 1 = w.heap.size := h; omega)
  have HB1 : Hid (Below w.heap.size w w1) := by
    refine ⟨hk.os, hk.tape, hk.output, Nat.le_trans (by simp; omega) hk.size, fun b hb => (hk.block b (by simp; omega) (fun h => by have h : b = w.heap.size := h; omega)).trans ?_⟩
    exact (((Below.refl w.heap.size w).alloc (Nat.le_refl _) (.cells #[.int .i64 seed] 2)).alloc (by simp) (.cells #[.int .i64 0, .int .i64 0, .slice none 0 0] 24)).block b hb
  have HS1 : Hid (StD w.heap.size seed N w1) := hst
  have HO1 : Hid (FOwn w1 g N zs) := ho
  clear hg ho hk hst b0 HM
  go_wp2_with fail
  obtain ⟨w2, hw2⟩ : ∃ w2, w2 = w1.alloc (Obj.cells #[.int .i64 r, .int .i64 c, .slice (some ⟨g, 0, none⟩) N N] 24) := ⟨_, rfl⟩
  have HX2 : Hid (BoxW w2 w1.heap.size r c (.slice (some ⟨g, 0, none⟩) N N)) := by rw [hw2]; exact BoxW.new _ _ _ _ _
  have HR2 : Hid (BoxW w2 (w.heap.size + 1) 0 0 (.slice none 0 0)) := by rw [hw2]; exact HR1.out.alloc _
  have HB2 : Hid (Below w.heap.size w w2) := by rw [hw2]; exact HB1.out.alloc HB1.out.size _
  have HS2 : Hid (StD w.heap.size seed N w2) := by rw [hw2]; exact HS1.out.below ((Below.refl _ w1).alloc (Nat.le_refl _) _) HS1.out.2.2
  have HO2 : Hid (FOwn w2 g N zs) := by rw [hw2]; exact HO1.out.below ((Below.refl _ w1).alloc (Nat.le_refl _) _) HO1.out.2.1
  rw [← hw2]
  clear hw2 HR1 HB1 HS1 HO1
  obtain ⟨⟨c0, c1, c2⟩, -, -⟩ := HX2.out
  obtain ⟨⟨r0, r1, r2⟩, ⟨f0, f1, f2⟩, -⟩ := HR2.out
  obtain ⟨s0, -, -⟩ := HS2.out
  have e0 : (w2.setCell ⟨w.heap.size + 1, 0, none⟩ (.int .i64 r)).cell? ⟨w.heap.size + 1, 0, none⟩ = some (.int .i64 r) := by simp [go_sem, r0]
  have e1 : ((w2.setCell ⟨w.heap.size + 1, 0, none⟩ (.int .i64 r)).setCell ⟨w.heap.size + 1, 1, none⟩ (.int .i64 c)).cell? ⟨w.heap.size + 1, 1, none⟩ = some (.int .i64 c) := by simp [go_sem, r1]
  have e2 : (((w2.setCell ⟨w.heap.size + 1, 0, none⟩ (.int .i64 r)).setCell ⟨w.heap.size + 1, 1, none⟩ (.int .i64 c)).setCell ⟨w.heap.size + 1, 2, none⟩ (.slice (some ⟨g, 0, none⟩) N N)).cell? ⟨w.heap.size + 1, 2, none⟩ = some (.slice (some ⟨g, 0, none⟩) N N) := by simp [go_sem, r2]
  go_region
  all_goals (
    (try go_wp2_with fail)
    (try simp only [Exit.inBlock, Exit.then])
    refine bodyPost_ret (by simp [results, Try.results17, go_sem, e0, e1, e2]; try rfl) rfl ?_
    exact ⟨g, rfl, by omega, ((FOwn.other (w := w2.drew) HO2.out (by show w.heap.size + 1 ≠ g; omega) _).other (by show w.heap.size + 1 ≠ g; omega) _).other (by show w.heap.size + 1 ≠ g; omega) _,
      ((HB2.out.drew.setCell (by show _ ≤ w.heap.size + 1; omega) _).setCell (by show _ ≤ w.heap.size + 1; omega) _).setCell (by show _ ≤ w.heap.size + 1; omega) _⟩)

set_option maxRecDepth 100000 in
set_option maxHeartbeats 1000000 in
theorem drawI_bad (r c seed : Int) (w : World) (h : (sideB r && sideB c && seedB seed) = false) : Calls Try.prog 17 #[.int .i64 r, .int .i64 c, .int .i64 seed] w fun e w' => e = .returned (.tuple #[.agg #[.int .i64 0, .int .i64 0, .slice none 0 0], .int .i64 0, .bool false]) ∧ Below w.heap.size w w' := by
  have b0 : (w.alloc (.cells #[.int .i64 seed] 2)).cell? ⟨w.heap.size, 0, none⟩ = some (.int .i64 seed) := by simp [go_sem]
  have HA : Hid (∀ w, Calls Try.prog 41 #[.int .i64 r] w fun e w' => e = .returned (.bool (sideB r)) ∧ w' = w) := fun w => isSide_any r w
  have HB : Hid (∀ w, Calls Try.prog 41 #[.int .i64 c] w fun e w' => e = .returned (.bool (sideB c)) ∧ w' = w) := fun w => isSide_any c w
  have HT : Hid (∀ w, Calls Try.prog 48 #[.int .i64 seed, .int .i64 0, .int .i64 2147483647] w fun e w' => e = .returned (.bool (seedB seed)) ∧ w' = w) := fun w => inS_impl seed w
  generalize sideB r = p at *
  generalize sideB c = q at *
  generalize seedB seed = s at *
  cases p with
  | false =>
    clear h
    go_enter Try.func17, Try.ntmps17
    go_wp2_with (go_at_call 41; (with_reducible refine (HA.out _).mono ?_); rintro e w' ⟨rfl, rfl⟩)
    (try simp only [Exit.inBlock, Exit.then])
    refine bodyPost_ret (by simp [results, Try.results17, go_sem]; try rfl) rfl ?_
    exact ⟨rfl, by go_grown⟩
  | true =>
    cases q with
    | false =>
      clear h
      go_enter Try.func17, Try.ntmps17
      go_wp2_with (go_at_call 41; first | ((with_reducible refine (HA.out _).mono ?_); rintro e w' ⟨rfl, rfl⟩) | ((with_reducible refine (HB.out _).mono ?_); rintro e w' ⟨rfl, rfl⟩))
      (try simp only [Exit.inBlock, Exit.then])
      refine bodyPost_ret (by simp [results, Try.results17, go_sem]; try rfl) rfl ?_
      exact ⟨rfl, by go_grown⟩
    | true =>
      obtain rfl : s = false := by simpa using h
      clear h
      go_enter Try.func17, Try.ntmps17
      go_wp2_with (first
        | (go_at_call 41; first | ((with_reducible refine (HA.out _).mono ?_); rintro e w' ⟨rfl, rfl⟩) | ((with_reducible refine (HB.out _).mono ?_); rintro e w' ⟨rfl, rfl⟩))
        | (go_at_call 48; (with_reducible refine (HT.out _).mono ?_); rintro e w' ⟨rfl, rfl⟩))
      (try simp only [Exit.inBlock, Exit.then])
      refine bodyPost_ret (by simp [results, Try.results17, go_sem]; try rfl) rfl ?_
      exact ⟨rfl, by go_grown⟩

end Go.Proofs.Yteblbalciemkiaa
