/- The walk of the law of circles. -/
import Derived.Test.YtdomcjiiilbajaaCirF
import Derived.Test.YtdomcjiiilbajaaCirG
import Derived.WalkSmall
namespace Go.Proofs.Ytdomcjiiilbajaa
open Go.RowKit Opn

set_option maxRecDepth 100000 in
set_option maxHeartbeats 4000000 in
theorem circles_walk (v : Value) (n : Nat) (zs : List Int) (v' : Value) (n' : Nat) (zs' : List Int) (w : World) (h : IRow .u8 w v n zs) (h' : IRow .u8 w v' n' zs') : Calls Try.prog 6 #[v, v'] w fun e w' => e = .returned (.bool true) ∧ Below w.heap.size w w' := by
  obtain ⟨ao, cap, hv⟩ := IRow.formB h
  obtain ⟨ao', cap', hv'⟩ := IRow.formB h'
  have HA0 : Hid (Calls Try.prog 16 #[v, .int .i64 0, .int .i64 256] w (AtR 256 w)) := at_any v n zs w 0 256 h (by omega) (by omega) (by omega)
  have HA1 : Hid (Calls Try.prog 16 #[v, .int .i64 1, .int .i64 256] w (AtR 256 w)) := at_any v n zs w 1 256 h (by omega) (by omega) (by omega)
  have HB0 : Hid (∀ m, Calls Try.prog 16 #[v', .int .i64 0, .int .i64 200] (w.drewN m) (AtR 200 (w.drewN m))) := fun m => at_any v' n' zs' (w.drewN m) 0 200 h' (by omega) (by omega) (by omega)
  have HB1 : Hid (∀ m, Calls Try.prog 16 #[v', .int .i64 1, .int .i64 200] (w.drewN m) (AtR 200 (w.drewN m))) := fun m => at_any v' n' zs' (w.drewN m) 1 200 h' (by omega) (by omega) (by omega)
  by_cases hlong : 1048576 < n ∨ 1048576 < n'
  · have HL : Hid (Calls Try.prog 15 #[v, v'] w fun e w' => e = .returned (.bool true) ∧ w' = w) := by have := long_any v v' n n' zs zs' w h h'; rwa [decide_eq_true hlong] at this
    subst hv hv'
    clear h h' hlong HA0 HA1 HB0 HB1
    go_enter Try.func6, Try.ntmps6
    go_wp2_with (go_at_call 15; refine Calls.mono HL.out ?_; rintro e w' ⟨rfl, rfl⟩)
    go_ret
    exact ⟨rfl, Below.refl _ _⟩
  · have HL : Hid (Calls Try.prog 15 #[v, v'] w fun e w' => e = .returned (.bool false) ∧ w' = w) := by have := long_any v v' n n' zs zs' w h h'; rwa [decide_eq_false hlong] at this
    subst hv hv'
    clear h h' hlong
    go_enter Try.func6, Try.ntmps6
    go_wp2_with (go_at_call 15; refine Calls.mono HL.out ?_; rintro e w' ⟨rfl, rfl⟩)
    refine Calls.mono HA0.out ?_
    rintro e w1 ⟨c, hc, rfl, rfl⟩
    go_wp2_with fail
    refine Calls.mono HA1.out ?_
    rintro e w2 ⟨d, hd, rfl, rfl⟩
    have P1 := ph_of (c + 128) (by omega)
    have P2 := ph_of (d + 128) (by omega)
    have P3 := ph_of (c + d) (by omega)
    have i1 : (c + 128) % 64 = c % 64 := by omega
    have i2 : (d + 128) % 64 = d % 64 := by omega
    have i3 : (c + d) % 64 = (c % 64 + d % 64) % 64 := by omega
    rw [i1] at P1
    rw [i2] at P2
    rw [i3] at P3
    obtain ⟨pw, ang, turn, s, g1, g2, g3, wh, A⟩ := an_of c hc
    obtain ⟨mr, mi, M⟩ := mu_of (c % 64) (d % 64) (Nat.mod_lt _ (by decide)) (Nat.mod_lt _ (by decide))
    have q1 : ∀ w, Flt.fB .quo .f64 (floatOfInt .f64 ((c : Int) - 128)) 4634204016564240384 w = yt (c + 128) := by have := P1.quo; rwa [show (((c + 128 : Nat) : Int) - 256) = (c : Int) - 128 by omega] at this
    have q2 : ∀ w, Flt.fB .quo .f64 (floatOfInt .f64 ((d : Int) - 128)) 4634204016564240384 w = yt (d + 128) := by have := P2.quo; rwa [show (((d + 128 : Nat) : Int) - 256) = (d : Int) - 128 by omega] at this
    have q3 : ∀ w, Flt.fB .quo .f64 (floatOfInt .f64 ((c : Int) - 128 + ((d : Int) - 128))) 4634204016564240384 w = yt (c + d) := by have := P3.quo; rwa [show (((c + d : Nat) : Int) - 256) = (c : Int) - 128 + ((d : Int) - 128) by omega] at this
    have C1 : Hid _ := P1.call
    have C2 : Hid _ := P2.call
    have C3 : Hid _ := P3.call
    have HA : Hid (AnF c (ret (c % 64)) (imt (c % 64)) (ant (c % 64)) pw ang turn s g1 g2 g3 wh) := A
    have HM : Hid (MuF (ret (c % 64)) (imt (c % 64)) (ret (d % 64)) (imt (d % 64)) (ret ((c % 64 + d % 64) % 64)) (imt ((c % 64 + d % 64) % 64)) mr mi) := M
    clear P1 P2 P3 A M i1 i2 i3
    generalize yt (c + 128) = y1 at *
    generalize yt (d + 128) = y2 at *
    generalize yt (c + d) = y3 at *
    generalize ret (c % 64) = re1 at *
    generalize imt (c % 64) = im1 at *
    generalize ret (d % 64) = re2 at *
    generalize imt (d % 64) = im2 at *
    generalize ret ((c % 64 + d % 64) % 64) = re3 at *
    generalize imt ((c % 64 + d % 64) % 64) = im3 at *
    generalize ant (c % 64) = an at *
    go_wp2_with fail
    refine Calls.mono (C1.out _) ?_
    rintro e w3 ⟨rfl, m3, rfl⟩
    go_wp2_with fail
    refine Calls.mono (C2.out _) ?_
    rintro e w4 ⟨rfl, m4, rfl⟩
    go_wp2_with fail
    refine Calls.mono (C3.out _) ?_
    rintro e w5 ⟨rfl, m5, rfl⟩
    go_wp2_with fail
    have fa := HA.out.fa
    have fm := HA.out.mul
    have fs := HA.out.sub
    have fd := HA.out.add
    have fw := HA.out.whole
    refine Calls.mono (HA.out.angle _) ?_
    rintro e w6 ⟨rfl, m6, rfl⟩
    go_wp2_with fail
    have lo := HA.out.lo
    have hi := HA.out.hi
    have fp := HA.out.fp
    have l1 := HA.out.le1
    have l2 := HA.out.le2
    have hrem := HA.out.rem
    have hrem1 : ((wh - 10000).tmod 64 == 0) = true := by rw [hrem]; rfl
    have hrem2 : ((wh - 10000).tmod 64 != 0) = false := by rw [hrem]; rfl
    have hrem3 : decide ((wh - 10000).tmod 64 = 0) = true := decide_eq_true hrem
    refine Calls.mono (HA.out.power _) ?_
    rintro e w7 ⟨rfl, m7, rfl⟩
    go_wp2_with fail
    refine Calls.mono (HA.out.gap1 _) ?_
    rintro e w8 ⟨rfl, m8, rfl⟩
    go_wp2_with fail
    refine Calls.mono (HM.out.mul _) ?_
    rintro e w9 ⟨rfl, m9, rfl⟩
    go_wp2_with fail
    refine Calls.mono (HM.out.near _) ?_
    rintro e w10 ⟨rfl, m10, rfl⟩
    go_wp2_with fail
    refine Calls.mono (HA.out.gap2 _) ?_
    rintro e w11 ⟨rfl, m11, rfl⟩
    by_cases hz : ((c : Int) - 128).tmod 16 = 0
    · have hz1 : (((c : Int) - 128).tmod 16 == 0) = true := by rw [hz]; rfl
      have hz2 : decide (((c : Int) - 128).tmod 16 = 0) = true := decide_eq_true hz
      have fr := HA.out.fr
      cases hg : (FloatKind.f64.format.order g3 0 != some .eq) with
      | false =>
        go_wp2_with fail
        refine Calls.mono (HA.out.gap3 _) ?_
        rintro e w12 ⟨rfl, m12, rfl⟩
        go_wp2_with fail
        refine Calls.mono (HB0.out _) ?_
        rintro e w13 ⟨e1, he, rfl, rfl⟩
        go_wp2_with fail
        refine Calls.mono (HB1.out _) ?_
        rintro e w14 ⟨f1, hf, rfl, rfl⟩
        obtain ⟨x, y, z, tm, tn, to, T⟩ := te_of e1 f1 he hf
        have HT : Hid (TeF e1 f1 x y z tm tn to) := T
        have qx := HT.out.qx
        have qy := HT.out.qy
        have qm := HT.out.mul
        clear T
        go_wp2_with fail
        refine Calls.mono (HT.out.cx _) ?_
        rintro e w15 ⟨rfl, m15, rfl⟩
        go_wp2_with fail
        refine Calls.mono (HT.out.cy _) ?_
        rintro e w16 ⟨rfl, m16, rfl⟩
        go_wp2_with fail
        refine Calls.mono (HT.out.cz _) ?_
        rintro e w17 ⟨rfl, m17, rfl⟩
        go_wp2_with fail
        refine Calls.mono (ten_call1 _) ?_
        rintro e w18 ⟨rfl, m18, rfl⟩
        have hm := HT.out.hm
        have hn := HT.out.hn
        have ho := HT.out.ho
        have hs1 := HT.out.l1
        have hs2 := HT.out.l2
        go_wp2_with fail
        refine Calls.mono (angle_quarter _) ?_
        rintro e w19 ⟨rfl, m19, rfl⟩
        go_wp2_with fail
        refine Calls.mono (same_quarter _) ?_
        rintro e w20 ⟨rfl, rfl⟩
        go_wp2_with fail
        go_ret
        exact ⟨rfl, by repeat (first | exact Below.refl _ _ | refine below_drewN ?_ _)⟩
      | true =>
        have hg2 : (FloatKind.f64.format.order g3 4607182418800017408 != some .eq) = false := by
          rcases HA.out.le3 with h | h | h
          · exact absurd hz h
          · rw [hg] at h; cases h
          · exact h
        go_wp2_with fail
        refine Calls.mono (HA.out.gap3 _) ?_
        rintro e w12 ⟨rfl, m12, rfl⟩
        go_wp2_with fail
        refine Calls.mono (HA.out.gap3 _) ?_
        rintro e w12 ⟨rfl, m12, rfl⟩
        go_wp2_with fail
        refine Calls.mono (HB0.out _) ?_
        rintro e w13 ⟨e1, he, rfl, rfl⟩
        go_wp2_with fail
        refine Calls.mono (HB1.out _) ?_
        rintro e w14 ⟨f1, hf, rfl, rfl⟩
        obtain ⟨x, y, z, tm, tn, to, T⟩ := te_of e1 f1 he hf
        have HT : Hid (TeF e1 f1 x y z tm tn to) := T
        have qx := HT.out.qx
        have qy := HT.out.qy
        have qm := HT.out.mul
        clear T
        go_wp2_with fail
        refine Calls.mono (HT.out.cx _) ?_
        rintro e w15 ⟨rfl, m15, rfl⟩
        go_wp2_with fail
        refine Calls.mono (HT.out.cy _) ?_
        rintro e w16 ⟨rfl, m16, rfl⟩
        go_wp2_with fail
        refine Calls.mono (HT.out.cz _) ?_
        rintro e w17 ⟨rfl, m17, rfl⟩
        go_wp2_with fail
        refine Calls.mono (ten_call1 _) ?_
        rintro e w18 ⟨rfl, m18, rfl⟩
        have hm := HT.out.hm
        have hn := HT.out.hn
        have ho := HT.out.ho
        have hs1 := HT.out.l1
        have hs2 := HT.out.l2
        go_wp2_with fail
        refine Calls.mono (angle_quarter _) ?_
        rintro e w19 ⟨rfl, m19, rfl⟩
        go_wp2_with fail
        refine Calls.mono (same_quarter _) ?_
        rintro e w20 ⟨rfl, rfl⟩
        go_wp2_with fail
        go_ret
        exact ⟨rfl, by repeat (first | exact Below.refl _ _ | refine below_drewN ?_ _)⟩
    · have hz1 : (((c : Int) - 128).tmod 16 == 0) = false := by rw [beq_eq_false_iff_ne]; exact hz
      have hz2 : decide (((c : Int) - 128).tmod 16 = 0) = false := decide_eq_false hz
      go_wp2_with fail
      refine Calls.mono (HB0.out _) ?_
      rintro e w13 ⟨e1, he, rfl, rfl⟩
      go_wp2_with fail
      refine Calls.mono (HB1.out _) ?_
      rintro e w14 ⟨f1, hf, rfl, rfl⟩
      obtain ⟨x, y, z, tm, tn, to, T⟩ := te_of e1 f1 he hf
      have HT : Hid (TeF e1 f1 x y z tm tn to) := T
      have qx := HT.out.qx
      have qy := HT.out.qy
      have qm := HT.out.mul
      clear T
      go_wp2_with fail
      refine Calls.mono (HT.out.cx _) ?_
      rintro e w15 ⟨rfl, m15, rfl⟩
      go_wp2_with fail
      refine Calls.mono (HT.out.cy _) ?_
      rintro e w16 ⟨rfl, m16, rfl⟩
      go_wp2_with fail
      refine Calls.mono (HT.out.cz _) ?_
      rintro e w17 ⟨rfl, m17, rfl⟩
      go_wp2_with fail
      refine Calls.mono (ten_call1 _) ?_
      rintro e w18 ⟨rfl, m18, rfl⟩
      have hm := HT.out.hm
      have hn := HT.out.hn
      have ho := HT.out.ho
      have hs1 := HT.out.l1
      have hs2 := HT.out.l2
      go_wp2_with fail
      refine Calls.mono (angle_quarter _) ?_
      rintro e w19 ⟨rfl, m19, rfl⟩
      go_wp2_with fail
      refine Calls.mono (same_quarter _) ?_
      rintro e w20 ⟨rfl, rfl⟩
      go_wp2_with fail
      go_ret
      exact ⟨rfl, by repeat (first | exact Below.refl _ _ | refine below_drewN ?_ _)⟩

end Go.Proofs.Ytdomcjiiilbajaa
