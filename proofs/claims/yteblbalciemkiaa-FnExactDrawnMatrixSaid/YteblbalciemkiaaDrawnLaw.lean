/- The walk of the law of DrawnMatrix. -/
import Derived.Test.YteblbalciemkiaaDrawnI
namespace Go.Proofs.Yteblbalciemkiaa
open Go.RowKit Opn

set_option maxRecDepth 100000 in
set_option maxHeartbeats 4000000 in
theorem drawLaw_ok (r c : Nat) (seed : Int) (w : World) (hr0 : 1 ≤ r) (hr : r ≤ 12) (hc0 : 1 ≤ c) (hc : c ≤ 12) (hs0 : 0 ≤ seed) (hs1 : seed ≤ 2147483647) : Calls Try.prog 4 #[.int .i64 r, .int .i64 c, .int .i64 seed] w fun e w' => e = .returned (.bool true) ∧ Below w.heap.size w w' := by
  have hN : r * c ≤ 144 := Nat.mul_le_mul hr hc
  have HI : Hid (∀ w, Calls Try.prog 17 #[.int .i64 r, .int .i64 c, .int .i64 seed] w fun e w' => ∃ g, e = .returned (.tuple #[.agg #[.int .i64 r, .int .i64 c, .slice (some ⟨g, 0, none⟩) (r * c : Nat) (r * c : Nat)], .int .i64 (seedAt seed (r * c)), .bool true]) ∧ w.heap.size ≤ g ∧ FOwn w' g (r * c) ((List.range (r * c)).map (drawF seed)) ∧ Below w.heap.size w w') := fun w => drawI_ok r c seed w hr0 hr hc0 hc hs0 hs1
  have HSP : Hid (∀ w, Calls Try.prog 16 #[.int .i64 r, .int .i64 c, .int .i64 seed] w fun e w' => ∃ s, e = .returned (.tuple #[.agg #[.int .i64 r, .int .i64 c, s], .int .i64 (seedAt seed (r * c)), .bool true]) ∧ FRow w' s (r * c) ((List.range (r * c)).map (drawF seed)) ∧ Below w.heap.size w w') := fun w => drawS_ok r c seed w hr0 hr hc0 hc hs0 hs1
  have HZ : Hid (∀ z ∈ (List.range (r * c)).map (drawF seed), z < 4294967296) := fun z hz => by
    obtain ⟨p, -, rfl⟩ := List.mem_map.1 hz
    exact drawF_lt seed p
  generalize (List.range (r * c)).map (drawF seed) = zs at *
  generalize seedAt seed (r * c) = sd at *
  generalize r * c = N at *
  have hmx : N ≤ maxLen := show N ≤ 9223372036854775807 by omega
  have hN2 : N ≤ 1048576 := by omega
  go_enter Try.func4, Try.ntmps4
  go_wp2_with fail
  refine (HSP.out _).mono ?_
  rintro e w1 ⟨s, rfl, hF1, hb1⟩
  obtain ⟨ao, cp, hs⟩ := FRow.form hF1
  rw [hs] at hF1 ⊢
  clear hs
  -- box 3: what the reference gives
  obtain ⟨w2, hw2⟩ : ∃ w2, w2 = w1.alloc (Obj.cells #[.int .i64 r, .int .i64 c, .slice ao N cp] 24) := ⟨_, rfl⟩
  have HB2 : Hid (Below w.heap.size w w2) := by rw [hw2]; exact hb1.alloc hb1.size _
  have HF2 : Hid (FRow w2 (.slice ao N cp) N zs) := by rw [hw2]; exact hF1.below ((Below.refl _ _).alloc (Nat.le_refl _) _) (Nat.le_refl _)
  have HX2 : Hid (BoxW w2 w1.heap.size r c (.slice ao N cp)) := by rw [hw2]; exact BoxW.new _ _ _ _ _
  have HS2 : Hid (w2.heap.size = w1.heap.size + 1) := by show w2.heap.size = w1.heap.size + 1; rw [hw2]; simp
  have hs1 : w.heap.size ≤ w1.heap.size := hb1.size
  clear hb1 hF1
  go_wp2_with fail
  rw [← hw2]
  clear hw2
  refine (HI.out _).mono ?_
  rintro e w3 ⟨g, rfl, hg, ho, hb3⟩
  -- box 5: what the program gives
  obtain ⟨w4, hw4⟩ : ∃ w4, w4 = w3.alloc (Obj.cells #[.int .i64 r, .int .i64 c, .slice (some ⟨g, 0, none⟩) N N] 24) := ⟨_, rfl⟩
  have HB4 : Hid (Below w2.heap.size w2 w4) := by rw [hw4]; exact hb3.alloc hb3.size _
  have HO4 : Hid (FOwn w4 g N zs) := by rw [hw4]; exact ho.below ((Below.refl _ _).alloc (Nat.le_refl _) _) ho.2.1
  have HX4 : Hid (BoxW w4 w3.heap.size r c (.slice (some ⟨g, 0, none⟩) N N)) := by rw [hw4]; exact BoxW.new _ _ _ _ _
  have hgb : w3.heap.size ≠ g := by have := ho.2.1; omega
  have hs3 : w2.heap.size ≤ w3.heap.size := hb3.size
  have hs4 : w4.heap.size = w3.heap.size + 1 := by rw [hw4]; simp
  clear hb3 ho
  have HX3 : Hid (BoxW w4 w1.heap.size r c (.slice ao N cp)) := HX2.out.below HB4.out (by rw [HS2.out]; omega)
  obtain ⟨⟨p0, p1, p2⟩, -, -⟩ := HX3.out
  obtain ⟨⟨q0, q1, q2⟩, -, -⟩ := HX4.out
  rw [hw4] at p0 p1 p2 q0 q1 q2
  go_wp2_with fail
  rw [← hw4]
  rw [← hw4] at p0 p1 p2 q0 q1 q2
  clear hw4 p0 p1 p2 q0 q1 q2
  refine (eqM_any (r : Int) (c : Int) _ _ N zs w4 (HO4.out.row hmx HZ.out) (HF2.out.below HB4.out (Nat.le_refl _)) hN2).mono ?_
  rintro e w5 ⟨rfl, hb5⟩
  have HB5 : Hid (Below w4.heap.size w4 w5) := hb5
  clear hb5
  have HX5 : Hid (BoxW w5 w3.heap.size r c (.slice (some ⟨g, 0, none⟩) N N)) := HX4.out.below HB5.out HX4.out.2.2
  obtain ⟨⟨q0, q1, q2⟩, -, -⟩ := HX5.out
  go_wp2_with fail
  clear q0 q1 q2
  refine (markM_any (r : Int) (c : Int) g N zs 1 w5 (HO4.out.below HB5.out HO4.out.2.1) hN2 (by omega) (by omega)).mono ?_
  rintro e w6 ⟨rfl, ho6, hx6⟩
  have HO6 : Hid (FOwn w6 g N (marks 1 N)) := ho6
  have HX6 : Hid (BoxW w6 w3.heap.size r c (.slice (some ⟨g, 0, none⟩) N N)) := HX5.out.but hx6 hgb
  have HB6 : Hid (Below w2.heap.size w2 w6) := (HB4.out.trans (HB5.out.mono HB4.out.size)).trans (hx6.below hg (Nat.le_trans HB4.out.size HB5.out.size))
  clear ho6 hx6 HO4
  obtain ⟨⟨q0, q1, q2⟩, -, -⟩ := HX6.out
  go_wp2_with fail
  clear q0 q1 q2
  refine (heldM_any (r : Int) (c : Int) g N 1 w6 HO6.out hN2 (by omega) (by omega)).mono ?_
  rintro e w7 ⟨rfl, hb7⟩
  have HB7 : Hid (Below w6.heap.size w6 w7) := hb7
  clear hb7
  have hd : decide ((1 : Int) + (N : Int) < 0) = false := decide_eq_false (by omega)
  have HX7 : Hid (BoxW w7 w3.heap.size r c (.slice (some ⟨g, 0, none⟩) N N)) := HX6.out.below HB7.out HX6.out.2.2
  go_wp2_with fail
  refine (HI.out _).mono ?_
  rintro e w8 ⟨g', rfl, hg', ho8, hb8⟩
  obtain ⟨w9, hw9⟩ : ∃ w9, w9 = w8.alloc (Obj.cells #[.int .i64 r, .int .i64 c, .slice (some ⟨g', 0, none⟩) N N] 24) := ⟨_, rfl⟩
  have HB9 : Hid (Below w7.heap.size w7 w9) := by rw [hw9]; exact hb8.alloc hb8.size _
  have HO9 : Hid (FOwn w9 g' N zs) := by rw [hw9]; exact ho8.below ((Below.refl _ _).alloc (Nat.le_refl _) _) ho8.2.1
  have HX9 : Hid (BoxW w9 w8.heap.size r c (.slice (some ⟨g', 0, none⟩) N N)) := by rw [hw9]; exact BoxW.new _ _ _ _ _
  have HBz : Hid (Below w2.heap.size w2 w9) := (HB6.out.trans (HB7.out.mono HB6.out.size)).trans (HB9.out.mono (Nat.le_trans HB6.out.size HB7.out.size))
  clear hb8 ho8
  have HX3 : Hid (BoxW w9 w1.heap.size r c (.slice ao N cp)) := HX2.out.below HBz.out (by rw [HS2.out]; omega)
  obtain ⟨⟨p0, p1, p2⟩, -, -⟩ := HX3.out
  obtain ⟨⟨q0, q1, q2⟩, -, -⟩ := HX9.out
  rw [hw9] at p0 p1 p2 q0 q1 q2
  go_wp2_with fail
  rw [← hw9]
  clear hw9 p0 p1 p2 q0 q1 q2
  refine (eqM_any (r : Int) (c : Int) _ _ N zs w9 (HO9.out.row hmx HZ.out) (HF2.out.below HBz.out (Nat.le_refl _)) hN2).mono ?_
  rintro e w10 ⟨rfl, hb10⟩
  have HBt : Hid (Below w7.heap.size w7 w10) := HB9.out.trans (hb10.mono HB9.out.size)
  clear hb10
  have HX10 : Hid (BoxW w10 w3.heap.size r c (.slice (some ⟨g, 0, none⟩) N N)) := HX7.out.below HBt.out HX7.out.2.2
  have HO10 : Hid (FOwn w10 g N (marks 1 N)) := (HO6.out.below HB7.out HO6.out.2.1).below HBt.out (HO6.out.below HB7.out HO6.out.2.1).2.1
  obtain ⟨⟨q0, q1, q2⟩, -, -⟩ := HX10.out
  go_wp2_with fail
  clear q0 q1 q2
  refine (heldM_any (r : Int) (c : Int) g N 1 w10 HO10.out hN2 (by omega) (by omega)).mono ?_
  rintro e w11 ⟨rfl, hb11⟩
  have HE : Hid (Below w.heap.size w w11) := by
    have h1 : Below w2.heap.size w2 w10 := (HB6.out.trans (HB7.out.mono HB6.out.size)).trans (HBt.out.mono (Nat.le_trans HB6.out.size HB7.out.size))
    have h2 : Below w2.heap.size w2 w11 := h1.trans (hb11.mono h1.size)
    exact HB2.out.trans (h2.mono HB2.out.size)
  clear hb11
  go_wp2_with fail
  go_ret
  exact ⟨rfl, HE.out⟩

set_option maxRecDepth 100000 in
set_option maxHeartbeats 4000000 in
theorem drawLaw_bad (r c seed : Int) (w : World) (hn : (sideB r && sideB c && seedB seed) = false) : Calls Try.prog 4 #[.int .i64 r, .int .i64 c, .int .i64 seed] w fun e w' => e = .returned (.bool true) ∧ Below w.heap.size w w' := by
  have HI : Hid (∀ w, Calls Try.prog 17 #[.int .i64 r, .int .i64 c, .int .i64 seed] w fun e w' => e = .returned (.tuple #[.agg #[.int .i64 0, .int .i64 0, .slice none 0 0], .int .i64 0, .bool false]) ∧ Below w.heap.size w w') := fun w => drawI_bad r c seed w hn
  have HSP : Hid (∀ w, Calls Try.prog 16 #[.int .i64 r, .int .i64 c, .int .i64 seed] w fun e w' => e = .returned (.tuple #[.agg #[.int .i64 0, .int .i64 0, .slice none 0 0], .int .i64 0, .bool false]) ∧ Below w.heap.size w w') := fun w => drawS_bad r c seed w hn
  clear hn
  go_enter Try.func4, Try.ntmps4
  go_wp2_with fail
  refine (HSP.out _).mono ?_
  rintro e w1 ⟨rfl, hb1⟩
  obtain ⟨w2, hw2⟩ : ∃ w2, w2 = w1.alloc (Obj.cells #[.int .i64 0, .int .i64 0, .slice none 0 0] 24) := ⟨_, rfl⟩
  have HB2 : Hid (Below w.heap.size w w2) := by rw [hw2]; exact hb1.alloc hb1.size _
  have HX2 : Hid (BoxW w2 w1.heap.size 0 0 (.slice none 0 0)) := by rw [hw2]; exact BoxW.new _ _ _ _ _
  clear hb1
  go_wp2_with fail
  rw [← hw2]
  clear hw2
  refine (HI.out _).mono ?_
  rintro e w3 ⟨rfl, hb3⟩
  obtain ⟨w4, hw4⟩ : ∃ w4, w4 = w3.alloc (Obj.cells #[.int .i64 0, .int .i64 0, .slice none 0 0] 24) := ⟨_, rfl⟩
  have HB4 : Hid (Below w2.heap.size w2 w4) := by rw [hw4]; exact hb3.alloc hb3.size _
  have HX4 : Hid (BoxW w4 w3.heap.size 0 0 (.slice none 0 0)) := by rw [hw4]; exact BoxW.new _ _ _ _ _
  have HX3 : Hid (BoxW w4 w1.heap.size 0 0 (.slice none 0 0)) := HX2.out.below HB4.out HX2.out.2.2
  clear hb3
  obtain ⟨⟨p0, p1, p2⟩, -, -⟩ := HX3.out
  obtain ⟨⟨q0, q1, q2⟩, -, -⟩ := HX4.out
  rw [hw4] at p0 p1 p2 q0 q1 q2
  go_wp2_with fail
  rw [← hw4]
  clear hw4 p0 p1 p2 q0 q1 q2
  refine (eqM_any 0 0 _ _ 0 [] w4 (FRow.nil _) (FRow.nil _) (by omega)).mono ?_
  rintro e w5 ⟨rfl, hb5⟩
  have HB5 : Hid (Below w4.heap.size w4 w5) := hb5
  clear hb5
  have HX5 : Hid (BoxW w5 w3.heap.size 0 0 (.slice none 0 0)) := HX4.out.below HB5.out HX4.out.2.2
  obtain ⟨⟨q0, q1, q2⟩, -, -⟩ := HX5.out
  go_wp2_with fail
  clear q0 q1 q2
  refine (markN_any 0 0 1 w5).mono ?_
  rintro e w6 ⟨rfl, hb6⟩
  have HB6 : Hid (Below w5.heap.size w5 w6) := hb6
  clear hb6
  have HX6 : Hid (BoxW w6 w3.heap.size 0 0 (.slice none 0 0)) := HX5.out.below HB6.out HX5.out.2.2
  obtain ⟨⟨q0, q1, q2⟩, -, -⟩ := HX6.out
  go_wp2_with fail
  clear q0 q1 q2
  refine (heldN_any 0 0 1 w6 (by omega)).mono ?_
  rintro e w7 ⟨rfl, hb7⟩
  have HB7 : Hid (Below w6.heap.size w6 w7) := hb7
  clear hb7
  have HX7 : Hid (BoxW w7 w3.heap.size 0 0 (.slice none 0 0)) := HX6.out.below HB7.out HX6.out.2.2
  have HBy : Hid (Below w2.heap.size w2 w7) := ((HB4.out.trans (HB5.out.mono HB4.out.size)).trans (HB6.out.mono (Nat.le_trans HB4.out.size HB5.out.size))).trans (HB7.out.mono (Nat.le_trans (Nat.le_trans HB4.out.size HB5.out.size) HB6.out.size))
  go_wp2_with fail
  refine (HI.out _).mono ?_
  rintro e w8 ⟨rfl, hb8⟩
  obtain ⟨w9, hw9⟩ : ∃ w9, w9 = w8.alloc (Obj.cells #[.int .i64 0, .int .i64 0, .slice none 0 0] 24) := ⟨_, rfl⟩
  have HB9 : Hid (Below w7.heap.size w7 w9) := by rw [hw9]; exact hb8.alloc hb8.size _
  have HX9 : Hid (BoxW w9 w8.heap.size 0 0 (.slice none 0 0)) := by rw [hw9]; exact BoxW.new _ _ _ _ _
  have HBz : Hid (Below w2.heap.size w2 w9) := HBy.out.trans (HB9.out.mono HBy.out.size)
  clear hb8
  have HX3' : Hid (BoxW w9 w1.heap.size 0 0 (.slice none 0 0)) := HX2.out.below HBz.out HX2.out.2.2
  obtain ⟨⟨p0, p1, p2⟩, -, -⟩ := HX3'.out
  obtain ⟨⟨q0, q1, q2⟩, -, -⟩ := HX9.out
  rw [hw9] at p0 p1 p2 q0 q1 q2
  go_wp2_with fail
  rw [← hw9]
  clear hw9 p0 p1 p2 q0 q1 q2
  refine (eqM_any 0 0 _ _ 0 [] w9 (FRow.nil _) (FRow.nil _) (by omega)).mono ?_
  rintro e w10 ⟨rfl, hb10⟩
  have HBt : Hid (Below w7.heap.size w7 w10) := HB9.out.trans (hb10.mono HB9.out.size)
  clear hb10
  have HX10 : Hid (BoxW w10 w3.heap.size 0 0 (.slice none 0 0)) := HX7.out.below HBt.out HX7.out.2.2
  obtain ⟨⟨q0, q1, q2⟩, -, -⟩ := HX10.out
  go_wp2_with fail
  clear q0 q1 q2
  refine (heldN_any 0 0 1 w10 (by omega)).mono ?_
  rintro e w11 ⟨rfl, hb11⟩
  have HE : Hid (Below w.heap.size w w11) := by
    have h1 : Below w2.heap.size w2 w10 := HBy.out.trans (HBt.out.mono HBy.out.size)
    have h2 : Below w2.heap.size w2 w11 := h1.trans (hb11.mono h1.size)
    exact HB2.out.trans (h2.mono HB2.out.size)
  clear hb11
  go_wp2_with fail
  go_ret
  exact ⟨rfl, HE.out⟩

theorem drawLaw_walk (r c seed : Int) (w : World) (_ : (Lit.int .i64 r).wf = true) (_ : (Lit.int .i64 c).wf = true) (_ : (Lit.int .i64 seed).wf = true) : Calls Try.prog 4 #[.int .i64 r, .int .i64 c, .int .i64 seed] w fun e w' => e = .returned (.bool true) ∧ Below w.heap.size w w' := by
  cases h : (sideB r && sideB c && seedB seed)
  · exact drawLaw_bad r c seed w h
  · have hb : (1 ≤ r ∧ r ≤ 12) ∧ (1 ≤ c ∧ c ≤ 12) ∧ (0 ≤ seed ∧ seed ≤ 2147483647) := by unfold sideB seedB at h; simp at h; omega
    obtain ⟨m, rfl⟩ : ∃ m : Nat, r = (m : Int) := ⟨r.toNat, by omega⟩
    obtain ⟨k, rfl⟩ : ∃ k : Nat, c = (k : Int) := ⟨c.toNat, by omega⟩
    exact drawLaw_ok m k seed w (by omega) (by omega) (by omega) (by omega) (by omega) (by omega)

end Go.Proofs.Yteblbalciemkiaa
