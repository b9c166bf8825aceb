/- The contract of the reference's drawn matrix. -/
import Derived.Test.YteblbalciemkiaaMadeD
import Derived.Test.YteblbalciemkiaaHilbS
namespace Go.Proofs.Yteblbalciemkiaa
open Go.RowKit Opn
set_option linter.unusedSimpArgs false

def seedB (x : Int) : Bool := decide (0 ≤ x) && decide (x ≤ 2147483647)

theorem drawF_lt (seed : Int) (p : Nat) : drawF seed p < 4294967296 := by
  unfold drawF
  have := drawW_some (seedAt seed (p + 1))
  exact Flt.floatBits_lt this

theorem inS_spec (x : Int) (w : World) : Calls Try.prog 39 #[.int .i64 x, .int .i64 0, .int .i64 2147483647] w fun e w' => e = .returned (.bool (seedB x)) ∧ w' = w := by
  unfold seedB
  by_cases h1 : 0 ≤ x
  · by_cases h2 : x ≤ 2147483647
    · have e1 : decide (0 ≤ x) = true := decide_eq_true h1
      have e2 : decide (x ≤ 2147483647) = true := decide_eq_true h2
      go_enter Try.func39, Try.ntmps39
      go_wp2
      go_ret
      exact ⟨by simp [e1, e2], rfl⟩
    · have e1 : decide (0 ≤ x) = true := decide_eq_true h1
      have e2 : decide (x ≤ 2147483647) = false := decide_eq_false h2
      go_enter Try.func39, Try.ntmps39
      go_wp2
      go_ret
      exact ⟨by simp [e1, e2], rfl⟩
  · have e1 : decide (0 ≤ x) = false := decide_eq_false h1
    go_enter Try.func39, Try.ntmps39
    go_wp2
    go_ret
    exact ⟨by simp [e1], rfl⟩

theorem inS_impl (x : Int) (w : World) : Calls Try.prog 48 #[.int .i64 x, .int .i64 0, .int .i64 2147483647] w fun e w' => e = .returned (.bool (seedB x)) ∧ w' = w := by
  unfold seedB
  by_cases h1 : 0 ≤ x
  · by_cases h2 : x ≤ 2147483647
    · have e1 : decide (0 ≤ x) = true := decide_eq_true h1
      have e2 : decide (x ≤ 2147483647) = true := decide_eq_true h2
      go_enter Try.func48, Try.ntmps48
      go_wp2
      go_ret
      exact ⟨by simp [e1, e2], rfl⟩
    · have e1 : decide (0 ≤ x) = true := decide_eq_true h1
      have e2 : decide (x ≤ 2147483647) = false := decide_eq_false h2
      go_enter Try.func48, Try.ntmps48
      go_wp2
      go_ret
      exact ⟨by simp [e1, e2], rfl⟩
  · have e1 : decide (0 ≤ x) = false := decide_eq_false h1
    go_enter Try.func48, Try.ntmps48
    go_wp2
    go_ret
    exact ⟨by simp [e1], rfl⟩

set_option maxRecDepth 100000 in
set_option maxHeartbeats 2000000 in
theorem drawS_ok (r c : Nat) (seed : Int) (w : World) (hr0 : 1 ≤ r) (hr : r ≤ 12) (hc0 : 1 ≤ c) (hc : c ≤ 12) (hs0 : 0 ≤ seed) (hs1 : seed ≤ 2147483647) : Calls Try.prog 16 #[.int .i64 r, .int .i64 c, .int .i64 seed] w fun e w' => ∃ s, e = .returned (.tuple #[.agg #[.int .i64 r, .int .i64 c, s], .int .i64 (seedAt seed (r * c)), .bool true]) ∧ FRow w' s (r * c) ((List.range (r * c)).map (drawF seed)) ∧ Below w.heap.size w w' := by
  have hN : r * c ≤ 144 := Nat.mul_le_mul hr hc
  have hNp : 1 ≤ r * c := Nat.mul_le_mul hr0 hc0
  obtain ⟨i0, hi0, hz0, hz1, hz2⟩ := info_parts info_f32
  have hsd : (sideB (r : Int) && sideB (c : Int)) = true := by unfold sideB; simp; omega
  have hse : seedB seed = true := by unfold seedB; simp; omega
  have HS : Hid (∀ w, Calls Try.prog 47 #[.int .i64 r, .int .i64 c] w fun e w' => e = .returned (.bool true) ∧ w' = w) := fun w => by have := sides_any (r : Int) (c : Int) w; rwa [hsd] at this
  have HT : Hid (∀ w, Calls Try.prog 39 #[.int .i64 seed, .int .i64 0, .int .i64 2147483647] w fun e w' => e = .returned (.bool true) ∧ w' = w) := fun w => by have := inS_spec seed w; rwa [hse] at this
  clear hsd hse
  obtain ⟨N, hNN⟩ : ∃ N, N = r * c := ⟨_, rfl⟩
  have hw1 : wrap64 ((r : Int) * (c : Int)) = (N : Int) := by
    have : (r : Int) * (c : Int) = (N : Int) := by rw [hNN]; simp
    rw [this]; unfold wrap64; omega
  rw [← hNN] at hN hNp ⊢
  have HSD : Hid (∀ p, 0 ≤ seedAt seed p ∧ seedAt seed p ≤ 2147483647) := seedAt_bd seed hs0 hs1
  have HD : Hid (∀ p, drawF seed p = drawW (seedAt seed (p + 1))) := fun _ => rfl
  have HSS : Hid (∀ p, (1103515245 * seedAt seed p + 12345) % 2147483648 = seedAt seed (p + 1)) := fun _ => rfl
  have HL : Hid (∀ p, drawF seed p < 4294967296) := drawF_lt seed
  clear hNN hs0 hs1
  go_enter Try.func16, Try.ntmps16
  go_wp2_with (first
    | (go_at_call 47; (with_reducible refine (HS.out _).mono ?_); rintro e w' ⟨rfl, rfl⟩)
    | (go_at_call 39; (with_reducible refine (HT.out _).mono ?_); rintro e w' ⟨rfl, rfl⟩))
  refine (blank_any r c _).mono ?_
  rintro e w1 ⟨g, rfl, hg, hgl, ho, hb⟩
  have hg1 : w.heap.size + 2 ≤ g := by simpa using hg
  have ho1 : w1.ownsRow (w.heap.size + 2) 55 1 (.slice (some ⟨g, 0, none⟩) 0 0) 0 [] := by simpa using ho
  clear hg ho
  go_wp2_with fail
  have HO1 : Hid (World.ownsRow (w1.alloc (Obj.cells #[.int .i64 r, .int .i64 c, .slice (some ⟨g, 0, none⟩) 0 0] 24)) (w.heap.size + 2) 55 1 (.slice (some ⟨g, 0, none⟩) 0 0) 0 []) := ho1.alloc _
  have HB1 : Hid (BoxW (w1.alloc (Obj.cells #[.int .i64 r, .int .i64 c, .slice (some ⟨g, 0, none⟩) 0 0] 24)) w1.heap.size r c (.slice (some ⟨g, 0, none⟩) 0 0)) := BoxW.new _ _ _ _ _
  have HR1 : Hid (BoxW (w1.alloc (Obj.cells #[.int .i64 r, .int .i64 c, .slice (some ⟨g, 0, none⟩) 0 0] 24)) w.heap.size 0 0 (.slice none 0 0)) :=
    ((BoxW.new w 0 0 (.slice none 0 0) 24).below hb (by simp)).below ((Below.refl _ _).alloc (Nat.le_refl _) _) (Nat.lt_of_lt_of_le (by simp) hb.size)
  have HK1 : Hid (Below w.heap.size w (w1.alloc (Obj.cells #[.int .i64 r, .int .i64 c, .slice (some ⟨g, 0, none⟩) 0 0] 24))) := ((Below.refl _ w).alloc (Nat.le_refl _) _).trans ((hb.mono (by simp)).alloc (Nat.le_trans (by simp) hb.size) _)
  have hgb : g ≠ w1.heap.size := by omega
  have hbs : w.heap.size + 2 ≤ w1.heap.size := by omega
  have hg2 : w.heap.size + 2 ≤ g := hg1
  generalize w1.alloc (Obj.cells #[.int .i64 r, .int .i64 c, .slice (some ⟨g, 0, none⟩) 0 0] 24) = w2 at *
  have HW1 : Hid (wrap64 ((r : Int) * (c : Int)) = (N : Int)) := hw1
  clear ho1 hb hg1 hgl hw1
  generalize w1.heap.size = b at *
  go_loopw [2, 10] (fun ss is wr => ∃ p g cp : Nat, p ≤ N ∧ ss = .int .i64 (seedAt seed p) ∧ is = .int .i64 ((N : Int) - (p : Int)) ∧ g ≠ b ∧ w.heap.size + 2 ≤ g ∧ Hid (BoxW wr b r c (.slice (some ⟨g, 0, none⟩) p cp)) ∧ Hid (World.ownsRow wr (w.heap.size + 2) 55 1 (.slice (some ⟨g, 0, none⟩) p cp) p ((List.range p).map fun q => Value.float .f32 (drawF seed q))) ∧ Hid (BoxW wr w.heap.size 0 0 (.slice none 0 0)) ∧ Hid (Below w.heap.size w wr)) (fun _ is _ => (intOf is).toNat)
  case atStart => exact ⟨0, g, 0, Nat.zero_le _, rfl, by simp; exact HW1.out, hgb, hg2, HB1, HO1, HR1, HK1⟩
  case round =>
    clear HO1 HB1 HR1 HK1 hgb hg2
    obtain ⟨p, q, cp, hp, rfl, rfl, hgb, hq2, HB, HO, HR, HK⟩ := hrel
    by_cases hlt : p < N
    · obtain ⟨s0, s1⟩ := HSD.out p
      obtain ⟨t0, t1⟩ := HSD.out (p + 1)
      have hs' := HSS.out p
      have HF : Hid (drawF seed p = drawW (seedAt seed (p + 1))) := HD.out p
      obtain ⟨q1, q2⟩ := draw_step (seedAt seed (p + 1))
      have HT1 : Hid (Value.int IntKind.i64 (seedAt seed (p + 1)) = Value.int IntKind.i64 (seedAt seed (p + 1))) := rfl
      have q3 : ∀ w : World, w.drewN (Flt.fN .quo .f32 (floatOfInt .f32 (seedAt seed (p + 1) / 65536 - 16384)) 1182793728) = w := fun w => by rw [q2]; rfl
      clear q2
      generalize drawW (seedAt seed (p + 1)) = z at *
      obtain ⟨t, ht⟩ : ∃ t, t = seedAt seed (p + 1) := ⟨_, rfl⟩
      rw [← ht] at t0 t1 hs' q1 q3
      obtain ⟨s, hss⟩ : ∃ s, s = seedAt seed p := ⟨_, rfl⟩
      rw [← hss] at s0 s1 hs' ⊢
      have HTT : Hid (t = seedAt seed (p + 1)) := ht
      clear ht hss
      have hbl := HB.out.2.2
      obtain ⟨⟨b0, b1, b2⟩, ⟨bf0, bf1, bf2⟩, -⟩ := HB.out
      go_wp2_with (at_builtin; refine wpList_append_lies _ rfl _ _ _ rfl (w.heap.size + 2) 55 i0 _ 1 4 Try.underlying22 hi0 hz0 hz1 hz2 rfl (by omega) (.slice (some ⟨q, 0, none⟩) p cp) p ((List.range p).map fun q => Value.float .f32 (drawF seed q)) rfl (HO.out.alloc _) ⟨wr.heap.size, 0, none⟩ 1 1 [.float .f32 z] rfl rfl (World.news_of_block (cs := #[.float .f32 z]) (t := 55) (fr := (0, 0)) (heap_alloc_new wr _)) (by simp [Value.oneCell']) (by omega) (by show p + 1 ≤ 9223372036854775807; omega) (by omega) (by have := HK.out.size; simp; omega) (wr.heap.size + 1) (by simp) ?_; intro gg cap wn hown1 hgrow hat hlg; have HBn : Hid _ := (HB.out.below ((Below.refl _ wr).alloc (Nat.le_refl _) (Obj.cells #[.float .f32 z] 55)) hbl).grown hgrow (by simp [Value.ownBlock]; omega); obtain ⟨⟨d0, d1, d2⟩, ⟨df0, df1, df2⟩, -⟩ := HBn.out)
      have hform := hown1.form (by omega)
      obtain ⟨g9, c9, hv9, hg9, -⟩ := hform
      obtain ⟨rfl, rfl⟩ : gg = g9 ∧ cap = c9 := by simpa using hv9
      have hgb9 : gg ≠ b := by
        rcases hat with h | h
        · simp [Value.ownBlock] at h; omega
        · omega
      have R1 : Hid (BoxW (wn.setCell ⟨b, 2, none⟩ (.slice (some ⟨gg, 0, none⟩) (p + 1) cap)) b r c (.slice (some ⟨gg, 0, none⟩) (p + 1) cap)) := BoxW.put2 HBn.out
      have R2 : Hid (World.ownsRow (wn.setCell ⟨b, 2, none⟩ (.slice (some ⟨gg, 0, none⟩) (p + 1) cap)) (w.heap.size + 2) 55 1 (.slice (some ⟨gg, 0, none⟩) (p + 1) cap) (p + 1) ((List.range (p + 1)).map fun q => Value.float .f32 (drawF seed q))) := by
        have := hown1.kept (grownBy_set wn ⟨b, 2, none⟩ (.slice (some ⟨gg, 0, none⟩) (p + 1) cap)) (.inr (by simp [Value.ownBlock]; omega))
        rw [List.range_succ, List.map_append]
        show World.ownsRow _ _ _ _ _ _ (_ ++ [Value.float .f32 (drawF seed p)])
        rw [HF.out]
        exact this
      have R3 : Hid (BoxW (wn.setCell ⟨b, 2, none⟩ (.slice (some ⟨gg, 0, none⟩) (p + 1) cap)) w.heap.size 0 0 (.slice none 0 0)) :=
        ((HR.out.below ((Below.refl _ wr).alloc (Nat.le_refl _) (Obj.cells #[.float .f32 z] 55)) HR.out.2.2).grown hgrow (by simp [Value.ownBlock]; omega)).grown (grownBy_set wn ⟨b, 2, none⟩ _) (by simp; omega)
      have R4 : Hid (Below w.heap.size w (wn.setCell ⟨b, 2, none⟩ (.slice (some ⟨gg, 0, none⟩) (p + 1) cap))) :=
        ((HK.out.alloc HK.out.size _).grown hgrow (by have := HK.out.size; simp; omega) (by simp [Value.ownBlock]; omega)).setCell (p := ⟨b, 2, none⟩) (by show w.heap.size ≤ b; omega) _
      clear hown1 hgrow hat hv9 d0 d1 d2 df0 df1 df2 HBn b0 b1 b2 bf0 bf1 bf2 q1 q3
      go_wp2_with fail
      go_roundw
      case rel => exact ⟨p + 1, gg, cap, by omega, by rw [HTT.out], by go_num, hgb9, hg9, R1, R2, R3, R4⟩
      case measure => simp [intOf]; omega
    · have hp0 : 0 < p := by omega
      have HI : Hid (p = N) := show p = N by omega
      have R1 : Hid (FRow wr (.slice (some ⟨q, 0, none⟩) p cp) p ((List.range p).map (drawF seed))) := frow_of_own HO.out hp0 (by omega) HL.out
      have hd : decide ((0 : Int) < (N : Int) - (p : Int)) = false := decide_eq_false (by omega)
      clear HO
      obtain ⟨⟨c0, c1, c2⟩, -, -⟩ := HB.out
      obtain ⟨⟨r0, r1, r2⟩, ⟨f0, f1, f2⟩, -⟩ := HR.out
      obtain ⟨⟨e0, e1, e2⟩, -, -⟩ := HR.out.put (x' := (r : Int)) (y' := (c : Int)) (s' := .slice (some ⟨q, 0, none⟩) p cp)
      go_wp2_with fail
      (try simp only [Exit.inBlock, Exit.then])
      refine bodyPost_ret (by simp [results, Try.results16, go_sem, e0, e1, e2]; try rfl) rfl ?_
      rw [← HI.out]
      refine ⟨_, rfl, ?_, ((HK.out.setCell (Nat.le_refl _) _).setCell (Nat.le_refl _) _).setCell (Nat.le_refl _) _⟩
      exact FRow.other (FRow.other (FRow.other R1.out (by show w.heap.size ≠ q; omega) _) (by show w.heap.size ≠ q; omega) _) (by show w.heap.size ≠ q; omega) _

set_option maxRecDepth 100000 in
set_option maxHeartbeats 1000000 in
theorem drawS_bad (r c seed : Int) (w : World) (h : (sideB r && sideB c && seedB seed) = false) : Calls Try.prog 16 #[.int .i64 r, .int .i64 c, .int .i64 seed] w fun e w' => e = .returned (.tuple #[.agg #[.int .i64 0, .int .i64 0, .slice none 0 0], .int .i64 0, .bool false]) ∧ Below w.heap.size w w' := by
  obtain ⟨⟨r0, r1, r2⟩, ⟨f0, f1, f2⟩, -⟩ := BoxW.new w 0 0 (.slice none 0 0) 24
  cases hs : (sideB r && sideB c) with
  | false =>
    have HS : Hid (∀ w, Calls Try.prog 47 #[.int .i64 r, .int .i64 c] w fun e w' => e = .returned (.bool false) ∧ w' = w) := fun w => by have := sides_any r c w; rwa [hs] at this
    clear hs h
    go_enter Try.func16, Try.ntmps16
    go_wp2_with (go_at_call 47; (with_reducible refine (HS.out _).mono ?_); rintro e w' ⟨rfl, rfl⟩)
    (try simp only [Exit.inBlock, Exit.then])
    refine bodyPost_ret (by simp [results, Try.results16, go_sem]; try rfl) rfl ?_
    exact ⟨rfl, by go_grown⟩
  | true =>
    rw [hs, Bool.true_and] at h
    have HS : Hid (∀ w, Calls Try.prog 47 #[.int .i64 r, .int .i64 c] w fun e w' => e = .returned (.bool true) ∧ w' = w) := fun w => by have := sides_any r c w; rwa [hs] at this
    have HT : Hid (∀ w, Calls Try.prog 39 #[.int .i64 seed, .int .i64 0, .int .i64 2147483647] w fun e w' => e = .returned (.bool false) ∧ w' = w) := fun w => by have := inS_spec seed w; rwa [h] at this
    clear hs h
    go_enter Try.func16, Try.ntmps16
    go_wp2_with (first
      | (go_at_call 47; (with_reducible refine (HS.out _).mono ?_); rintro e w' ⟨rfl, rfl⟩)
      | (go_at_call 39; (with_reducible refine (HT.out _).mono ?_); rintro e w' ⟨rfl, rfl⟩))
    (try simp only [Exit.inBlock, Exit.then])
    refine bodyPost_ret (by simp [results, Try.results16, go_sem]; try rfl) rfl ?_
    exact ⟨rfl, by go_grown⟩

end Go.Proofs.Yteblbalciemkiaa
