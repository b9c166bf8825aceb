/- The walk of the law of BackOrder. -/
import Derived.Test.YtjjcljdbmgjoeaaBack
namespace Go.Proofs.Ytjjcljdbmgjoeaa
open Go.RowKit Opn

set_option maxRecDepth 100000 in
set_option maxHeartbeats 4000000 in
theorem backLaw_ok (v : Value) (n : Nat) (zs : List Int) (w : World) (h : IRow .i64 w v n zs) (ho : ordB zs = true) : Calls Try.prog 5 #[v] w fun e w' => e = .returned (.bool true) ∧ Below w.heap.size w w' := by
  obtain ⟨ao, cap, hv⟩ := IRow.form h
  have hmx : n ≤ maxLen := h.2.1
  have HZ : Hid (∀ z ∈ zs, (Lit.int .i64 z).wf = true) := h.2.2.1
  have HR : Hid (IRow .i64 w v n zs) := h
  obtain ⟨⟨h1, h12⟩, -⟩ := ordB_iff ho
  have hl := h.1
  have hn12 : n ≤ 12 := by omega
  have hn : n ≤ 1048576 := by omega
  have HZ2 : Hid (∀ z ∈ backTo zs n, (Lit.int .i64 z).wf = true) := backTo_wf zs h12 n hn12
  have HS : Hid (∀ v w, IRow .i64 w v n zs → Calls Try.prog 12 #[v] w fun e w' => ∃ g, e = .returned (.tuple #[.slice (some ⟨g, 0, none⟩) n n, .bool true]) ∧ w.heap.size ≤ g ∧ IOwn w' g n (backTo zs n) ∧ Below w.heap.size w w') := fun v w h => backS_ok v n zs w h hn ho
  have HI : Hid (∀ v w, IRow .i64 w v n zs → Calls Try.prog 13 #[v] w fun e w' => ∃ g, e = .returned (.tuple #[.slice (some ⟨g, 0, none⟩) n n, .bool true]) ∧ w.heap.size ≤ g ∧ IOwn w' g n (backTo zs n) ∧ Below w.heap.size w w') := fun v w h => backI_ok v n zs w h hn ho
  generalize backTo zs n = rs at *
  subst hv
  clear h ho h1 h12 hl
  go_enter Try.func5, Try.ntmps5
  go_wp2_with fail
  refine (toI_any _ n zs _ HR.out hn).mono ?_
  rintro e w1 ⟨g1, rfl, hg1, ho1, hb1⟩
  have HB1 : Hid (Below w.heap.size w w1) := hb1
  have HO1 : Hid (IRow .i64 w1 (.slice (some ⟨g1, 0, none⟩) n n) n zs) := ho1.row hmx HZ.out
  clear hg1 ho1 hb1
  go_wp2_with fail
  refine (HS.out _ _ HO1.out).mono ?_
  rintro e w2 ⟨gs, rfl, hgs, hos, hb2⟩
  have HB2 : Hid (Below w.heap.size w w2) := HB1.out.trans (hb2.mono HB1.out.size)
  have HW2 : Hid (IOwn w2 gs n rs) := hos
  have hgs2 : gs < w2.heap.size := hos.2.1
  clear hb2 hos hgs HO1 HB1
  go_wp2_with fail
  refine (toI_any _ n zs _ (HR.out.below HB2.out (Nat.le_refl _)) hn).mono ?_
  rintro e w3 ⟨gx, rfl, hgx, hox, hb3⟩
  have HB3 : Hid (Below w.heap.size w w3) := HB2.out.trans (hb3.mono HB2.out.size)
  have HW3 : Hid (IOwn w3 gs n rs) := HW2.out.below hb3 hgs2
  have HX3 : Hid (IOwn w3 gx n zs) := hox
  have hgx2 : gx < w3.heap.size := hox.2.1
  have hsx : gs ≠ gx := by omega
  have hgx0 : w.heap.size ≤ gx := Nat.le_trans HB2.out.size hgx
  have hs23 : w2.heap.size ≤ w3.heap.size := hb3.size
  clear hox hb3 HW2
  go_wp2_with fail
  refine (HI.out _ _ (HX3.out.row hmx HZ.out)).mono ?_
  rintro e w4 ⟨gi, rfl, hgi, hoi, hb4⟩
  have HB4 : Hid (Below w.heap.size w w4) := HB3.out.trans (hb4.mono HB3.out.size)
  have HW4 : Hid (IOwn w4 gs n rs) := HW3.out.below hb4 (by omega)
  have HX4 : Hid (IOwn w4 gx n zs) := HX3.out.below hb4 hgx2
  have HI4 : Hid (IOwn w4 gi n rs) := hoi
  have hgi2 : gi < w4.heap.size := hoi.2.1
  have hix : gi ≠ gx := by omega
  have his : gi ≠ gs := by omega
  have hs34 : w3.heap.size ≤ w4.heap.size := hb4.size
  clear hoi hb4 HW3 HX3 HB2
  go_wp2_with fail
  refine (eqI_any _ _ n rs _ (HI4.out.row hmx HZ2.out) (HW4.out.row hmx HZ2.out) hn).mono ?_
  rintro e w5 ⟨rfl, m5, hw5⟩
  have hb5 : Below w4.heap.size w4 w5 := by rw [hw5]; exact below_drewN (Below.refl _ _) _
  have HB5 : Hid (Below w.heap.size w w5) := HB4.out.trans (hb5.mono HB4.out.size)
  have HW5 : Hid (IOwn w5 gs n rs) := HW4.out.below hb5 (by omega)
  have HX5 : Hid (IOwn w5 gx n zs) := HX4.out.below hb5 (by omega)
  have HI5 : Hid (IOwn w5 gi n rs) := HI4.out.below hb5 (by omega)
  clear hb5 hw5 HW4 HX4 HI4 HB4
  go_wp2_with fail
  refine (toI_any _ n zs _ (HR.out.below HB5.out (Nat.le_refl _)) hn).mono ?_
  rintro e w6 ⟨gt, rfl, hgt, hot, hb6⟩
  have HB6 : Hid (Below w.heap.size w w6) := HB5.out.trans (hb6.mono HB5.out.size)
  have HW6 : Hid (IOwn w6 gs n rs) := HW5.out.below hb6 HW5.out.2.1
  have HX6 : Hid (IOwn w6 gx n zs) := HX5.out.below hb6 HX5.out.2.1
  have HI6 : Hid (IOwn w6 gi n rs) := HI5.out.below hb6 HI5.out.2.1
  have HT6 : Hid (IOwn w6 gt n zs) := hot
  clear hot hb6 HW5 HX5 HI5 HB5 hgt
  go_wp2_with fail
  refine (eqI_any _ _ n zs _ (HX6.out.row hmx HZ.out) (HT6.out.row hmx HZ.out) hn).mono ?_
  rintro e w7 ⟨rfl, m7, hw7⟩
  have hb7 : Below w6.heap.size w6 w7 := by rw [hw7]; exact below_drewN (Below.refl _ _) _
  have HB7 : Hid (Below w.heap.size w w7) := HB6.out.trans (hb7.mono HB6.out.size)
  have HW7 : Hid (IOwn w7 gs n rs) := HW6.out.below hb7 HW6.out.2.1
  have HX7 : Hid (IOwn w7 gx n zs) := HX6.out.below hb7 HX6.out.2.1
  have HI7 : Hid (IOwn w7 gi n rs) := HI6.out.below hb7 HI6.out.2.1
  clear hb7 hw7 HW6 HX6 HI6 HB6 HT6
  go_wp2_with fail
  refine (markI_any gx n zs 1 w7 HX7.out hn (by omega) (by omega)).mono ?_
  rintro e w8 ⟨rfl, -, hx8⟩
  have HB8 : Hid (Below w.heap.size w w8) := HB7.out.trans ((hx8.below hgx0))
  have HW8 : Hid (IOwn w8 gs n rs) := HW7.out.only hx8 hsx
  have HI8 : Hid (IOwn w8 gi n rs) := HI7.out.only hx8 hix
  have hd : decide ((1 : Int) + (n : Int) < 0) = false := decide_eq_false (by omega)
  clear hx8 HW7 HX7 HI7 HB7
  go_wp2_with fail
  refine (eqI_any _ _ n rs _ (HI8.out.row hmx HZ2.out) (HW8.out.row hmx HZ2.out) hn).mono ?_
  rintro e w9 ⟨rfl, m9, hw9⟩
  have hb9 : Below w8.heap.size w8 w9 := by rw [hw9]; exact below_drewN (Below.refl _ _) _
  have HB9 : Hid (Below w.heap.size w w9) := HB8.out.trans (hb9.mono HB8.out.size)
  have HW9 : Hid (IOwn w9 gs n rs) := HW8.out.below hb9 HW8.out.2.1
  have HI9 : Hid (IOwn w9 gi n rs) := HI8.out.below hb9 HI8.out.2.1
  clear hb9 hw9 HW8 HI8 HB8
  go_wp2_with fail
  refine (markI_any gi n rs 1 w9 HI9.out hn (by omega) (by omega)).mono ?_
  rintro e w10 ⟨rfl, hm10, hx10⟩
  have HB10 : Hid (Below w.heap.size w w10) := HB9.out.trans (hx10.below (by have := HB3.out.size; omega))
  have HW10 : Hid (IOwn w10 gs n rs) := HW9.out.only hx10 his.symm
  have HM10 : Hid (IOwn w10 gi n (imarks 1 n)) := hm10
  clear hx10 hm10 HW9 HI9 HB9
  go_wp2_with fail
  refine (heldI_any gi n 1 w10 HM10.out hn (by omega) (by omega)).mono ?_
  rintro e w11 ⟨rfl, rfl⟩
  go_wp2_with fail
  refine (toI_any _ n zs _ (HR.out.below HB10.out (Nat.le_refl _)) hn).mono ?_
  rintro e w12 ⟨gy, rfl, hgy, hoy, hb12⟩
  have HB12 : Hid (Below w.heap.size w w12) := HB10.out.trans (hb12.mono HB10.out.size)
  have HW12 : Hid (IOwn w12 gs n rs) := HW10.out.below hb12 HW10.out.2.1
  have HM12 : Hid (IOwn w12 gi n (imarks 1 n)) := HM10.out.below hb12 HM10.out.2.1
  have HY12 : Hid (IRow .i64 w12 (.slice (some ⟨gy, 0, none⟩) n n) n zs) := hoy.row hmx HZ.out
  clear hoy hb12 HW10 HM10 HB10 hgy
  go_wp2_with fail
  refine (HI.out _ _ HY12.out).mono ?_
  rintro e w13 ⟨gj, rfl, hgj, hoj, hb13⟩
  have HB13 : Hid (Below w.heap.size w w13) := HB12.out.trans (hb13.mono HB12.out.size)
  have HW13 : Hid (IOwn w13 gs n rs) := HW12.out.below hb13 HW12.out.2.1
  have HM13 : Hid (IOwn w13 gi n (imarks 1 n)) := HM12.out.below hb13 HM12.out.2.1
  have HJ13 : Hid (IOwn w13 gj n rs) := hoj
  clear hoj hb13 HW12 HM12 HB12 HY12 hgj
  go_wp2_with fail
  refine (eqI_any _ _ n rs _ (HJ13.out.row hmx HZ2.out) (HW13.out.row hmx HZ2.out) hn).mono ?_
  rintro e w14 ⟨rfl, m14, hw14⟩
  have hb14 : Below w13.heap.size w13 w14 := by rw [hw14]; exact below_drewN (Below.refl _ _) _
  have HB14 : Hid (Below w.heap.size w w14) := HB13.out.trans (hb14.mono HB13.out.size)
  have HM14 : Hid (IOwn w14 gi n (imarks 1 n)) := HM13.out.below hb14 HM13.out.2.1
  clear hb14 hw14 HW13 HM13 HB13 HJ13
  go_wp2_with fail
  refine (heldI_any gi n 1 w14 HM14.out hn (by omega) (by omega)).mono ?_
  rintro e w15 ⟨rfl, rfl⟩
  go_wp2_with fail
  go_ret
  exact ⟨rfl, HB14.out⟩

set_option maxRecDepth 100000 in
set_option maxHeartbeats 4000000 in
theorem backLaw_bad (v : Value) (n : Nat) (zs : List Int) (w : World) (h : IRow .i64 w v n zs) (hn : n ≤ 1048576) (ho : ordB zs = false) : Calls Try.prog 5 #[v] w fun e w' => e = .returned (.bool true) ∧ Below w.heap.size w w' := by
  obtain ⟨ao, cap, hv⟩ := IRow.form h
  have hmx : n ≤ maxLen := h.2.1
  have hmx2 : n ≤ 9223372036854775807 := hmx
  have HZ : Hid (∀ z ∈ zs, (Lit.int .i64 z).wf = true) := h.2.2.1
  have HR : Hid (IRow .i64 w v n zs) := h
  have HS : Hid (∀ v w, IRow .i64 w v n zs → Calls Try.prog 12 #[v] w fun e w' => e = .returned (.tuple #[.slice none 0 0, .bool false]) ∧ Below w.heap.size w w') := fun v w h => backS_bad v n zs w h hn ho
  have HI : Hid (∀ v w, IRow .i64 w v n zs → Calls Try.prog 13 #[v] w fun e w' => e = .returned (.tuple #[.slice none 0 0, .bool false]) ∧ Below w.heap.size w w') := fun v w h => backI_bad v n zs w h hn ho
  subst hv
  clear h ho
  go_enter Try.func5, Try.ntmps5
  go_wp2_with fail
  refine (toI_any _ n zs _ HR.out hn).mono ?_
  rintro e w1 ⟨g1, rfl, hg1, ho1, hb1⟩
  have HB1 : Hid (Below w.heap.size w w1) := hb1
  have HO1 : Hid (IRow .i64 w1 (.slice (some ⟨g1, 0, none⟩) n n) n zs) := ho1.row hmx HZ.out
  clear hg1 ho1 hb1
  go_wp2_with fail
  refine (HS.out _ _ HO1.out).mono ?_
  rintro e w2 ⟨rfl, hb2⟩
  have HB2 : Hid (Below w.heap.size w w2) := HB1.out.trans (hb2.mono HB1.out.size)
  clear hb2 HO1 HB1
  go_wp2_with fail
  refine (toI_any _ n zs _ (HR.out.below HB2.out (Nat.le_refl _)) hn).mono ?_
  rintro e w3 ⟨gx, rfl, hgx, hox, hb3⟩
  have HB3 : Hid (Below w.heap.size w w3) := HB2.out.trans (hb3.mono HB2.out.size)
  have HX3 : Hid (IOwn w3 gx n zs) := hox
  have hgx0 : w.heap.size ≤ gx := Nat.le_trans HB2.out.size hgx
  clear hox hb3
  go_wp2_with fail
  refine (HI.out _ _ (HX3.out.row hmx HZ.out)).mono ?_
  rintro e w4 ⟨rfl, hb4⟩
  have HB4 : Hid (Below w.heap.size w w4) := HB3.out.trans (hb4.mono HB3.out.size)
  have HX4 : Hid (IOwn w4 gx n zs) := HX3.out.below hb4 HX3.out.2.1
  clear hb4 HX3 HB2
  go_wp2_with fail
  refine (eqI_any _ _ 0 [] _ (IRow.nil _) (IRow.nil _) (by omega)).mono ?_
  rintro e w5 ⟨rfl, m5, hw5⟩
  have hb5 : Below w4.heap.size w4 w5 := by rw [hw5]; exact below_drewN (Below.refl _ _) _
  have HB5 : Hid (Below w.heap.size w w5) := HB4.out.trans (hb5.mono HB4.out.size)
  have HX5 : Hid (IOwn w5 gx n zs) := HX4.out.below hb5 HX4.out.2.1
  clear hb5 hw5 HX4 HB4
  go_wp2_with fail
  refine (toI_any _ n zs _ (HR.out.below HB5.out (Nat.le_refl _)) hn).mono ?_
  rintro e w6 ⟨gt, rfl, hgt, hot, hb6⟩
  have HB6 : Hid (Below w.heap.size w w6) := HB5.out.trans (hb6.mono HB5.out.size)
  have HX6 : Hid (IOwn w6 gx n zs) := HX5.out.below hb6 HX5.out.2.1
  have HT6 : Hid (IOwn w6 gt n zs) := hot
  clear hot hb6 HX5 HB5 hgt
  go_wp2_with fail
  refine (eqI_any _ _ n zs _ (HX6.out.row hmx HZ.out) (HT6.out.row hmx HZ.out) hn).mono ?_
  rintro e w7 ⟨rfl, m7, hw7⟩
  have hb7 : Below w6.heap.size w6 w7 := by rw [hw7]; exact below_drewN (Below.refl _ _) _
  have HB7 : Hid (Below w.heap.size w w7) := HB6.out.trans (hb7.mono HB6.out.size)
  have HX7 : Hid (IOwn w7 gx n zs) := HX6.out.below hb7 HX6.out.2.1
  clear hb7 hw7 HX6 HB6 HT6
  go_wp2_with fail
  refine (markI_any gx n zs 1 w7 HX7.out hn (by omega) (by omega)).mono ?_
  rintro e w8 ⟨rfl, -, hx8⟩
  have HB8 : Hid (Below w.heap.size w w8) := HB7.out.trans ((hx8.below hgx0))
  have hd : decide ((1 : Int) + (n : Int) < 0) = false := decide_eq_false (by omega)
  clear hx8 HX7 HB7
  go_wp2_with fail
  refine (eqI_any _ _ 0 [] _ (IRow.nil _) (IRow.nil _) (by omega)).mono ?_
  rintro e w9 ⟨rfl, m9, hw9⟩
  have hb9 : Below w8.heap.size w8 w9 := by rw [hw9]; exact below_drewN (Below.refl _ _) _
  have HB9 : Hid (Below w.heap.size w w9) := HB8.out.trans (hb9.mono HB8.out.size)
  clear hb9 hw9 HB8
  go_wp2_with fail
  refine (markIN_any 1 w9).mono ?_
  rintro e w10 ⟨rfl, rfl⟩
  go_wp2_with fail
  refine (heldIN_any 1 w10).mono ?_
  rintro e w11 ⟨rfl, rfl⟩
  go_wp2_with fail
  refine (toI_any _ n zs _ (HR.out.below HB9.out (Nat.le_refl _)) hn).mono ?_
  rintro e w12 ⟨gy, rfl, hgy, hoy, hb12⟩
  have HB12 : Hid (Below w.heap.size w w12) := HB9.out.trans (hb12.mono HB9.out.size)
  have HY12 : Hid (IRow .i64 w12 (.slice (some ⟨gy, 0, none⟩) n n) n zs) := hoy.row hmx HZ.out
  clear hoy hb12 hgy
  go_wp2_with fail
  refine (HI.out _ _ HY12.out).mono ?_
  rintro e w13 ⟨rfl, hb13⟩
  have HB13 : Hid (Below w.heap.size w w13) := HB12.out.trans (hb13.mono HB12.out.size)
  clear hb13 HB12 HY12
  go_wp2_with fail
  refine (eqI_any _ _ 0 [] _ (IRow.nil _) (IRow.nil _) (by omega)).mono ?_
  rintro e w14 ⟨rfl, m14, hw14⟩
  have hb14 : Below w13.heap.size w13 w14 := by rw [hw14]; exact below_drewN (Below.refl _ _) _
  have HB14 : Hid (Below w.heap.size w w14) := HB13.out.trans (hb14.mono HB13.out.size)
  clear hb14 hw14 HB13
  go_wp2_with fail
  refine (heldIN_any 1 w14).mono ?_
  rintro e w15 ⟨rfl, rfl⟩
  go_wp2_with fail
  go_ret
  exact ⟨rfl, HB14.out⟩

theorem backOrder_walk (v : Value) (n : Nat) (zs : List Int) (w : World) (h : IRow .i64 w v n zs) : Calls Try.prog 5 #[v] w fun e w' => e = .returned (.bool true) ∧ Below w.heap.size w w' := by
  by_cases hn : n ≤ 1048576
  · cases ho : ordB zs with
    | true => exact backLaw_ok v n zs w h ho
    | false => exact backLaw_bad v n zs w h hn ho
  · obtain ⟨ao, cap, hv⟩ := IRow.form h
    have hmx2 : n ≤ 9223372036854775807 := h.2.1
    subst hv
    clear h
    have hd : decide ((1048576 : Int) < (n : Int)) = true := decide_eq_true (by omega)
    go_enter Try.func5, Try.ntmps5
    go_wp2_with fail
    go_ret
    exact ⟨rfl, Below.refl _ _⟩

end Go.Proofs.Ytjjcljdbmgjoeaa
