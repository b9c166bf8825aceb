/- Contracts of CarrySum on both sides, and the walk of its law. -/
import Derived.Test.YtailiaipljfnpaaDotVec
namespace Go.Proofs.Ytailiaipljfnpaa
open Go.RowKit Opn

def carS (p : Option Nat × Option Nat) (z : Nat) : Option Nat × Option Nat :=
  (Flt.fop .add .f32 p.1 (Flt.fop .sub .f32 (Flt.cls .f32 z) p.2),
   Flt.fop .sub .f32 (Flt.fop .sub .f32 (Flt.fop .add .f32 p.1 (Flt.fop .sub .f32 (Flt.cls .f32 z) p.2)) p.1) (Flt.fop .sub .f32 (Flt.cls .f32 z) p.2))
def carF (zs : List Nat) : Option Nat × Option Nat := zs.foldl carS (some 0, some 0)
def carB (n : Nat) (zs : List Nat) : Bool := vecB n zs && (finF (carF zs).1 && finF (carF zs).2)

theorem car_step {zs : List Nat} {k : Nat} (hk : k < zs.length) : carF (zs.take (k + 1)) = carS (carF (zs.take k)) (zs.getD k 0) := by
  have : zs.getD k 0 = zs[k] := by simp [List.getD, hk]
  rw [this]
  unfold carF
  rw [List.take_succ_eq_append_getElem hk, List.foldl_append]; rfl

theorem fop32 {op : BinOp} {k : FloatKind} {a b : Option Nat} {x y : Nat} (hx : Flt.Fl k a x) (hy : Flt.Fl k b y) (w : World) : Flt.Fl k (Flt.fop op k a b) (Flt.fB op k x y w) := by
  have := Flt.fB_Fl op k x y w
  rwa [hx.cls, hy.cls] at this

theorem frow_pair (w : World) (r q E : Nat) (hr : r < 4294967296) (hq : q < 4294967296) : FRow (w.alloc (.cells #[.float .f32 r, .float .f32 q] E)) (.slice (some ⟨w.heap.size, 0, none⟩) 2 2) 2 [r, q] := by
  refine ⟨rfl, by unfold maxLen; decide, by simp; exact ⟨hr, hq⟩, .inr ⟨by decide, w.heap.size, 0, 2, rfl, Nat.le_refl _, by unfold maxLen; decide, by simp, fun i hi => ?_⟩⟩
  rw [Nat.zero_add, World.cell?_alloc_at _ _ _ _ rfl]
  match i, hi with
  | 0, _ => rfl
  | 1, _ => rfl

theorem fl_arg {z : Nat} (hz : z < 4294967296) : Flt.Fl .f32 (Flt.cls .f32 z) z := ⟨rfl, hz⟩

set_option maxHeartbeats 2000000 in
theorem car_spec (v : Value) (n : Nat) (zs : List Nat) (w : World) (h : FRow w v n zs) (hn : n ≤ 1048576) : Calls Try.prog 19 #[v] w fun e w' => ∃ r q, e = .returned (.tuple #[.float .f32 r, .float .f32 q, .bool (carB n zs)]) ∧ Flt.Fl .f32 (if carB n zs then (carF zs).1 else some 0) r ∧ Flt.Fl .f32 (if carB n zs then (carF zs).2 else some 0) q ∧ Below w.heap.size w w' := by
  generalize hB : carB n zs = B
  have HB : Hid _ := hB
  clear hB
  cases hv : vecB n zs with
  | false =>
    have hB : B = false := by rw [← HB.out]; unfold carB; rw [hv]; rfl
    subst hB
    simp only [Bool.false_eq_true, if_false]
    obtain ⟨ao, cap, he⟩ := h.form
    subst he
    go_enter Try.func19, Try.ntmps19
    go_wp2_with fail
    refine (isVec_spec _ _ _ _ h hn).mono ?_
    rw [hv]
    rintro e w' ⟨rfl, m, rfl⟩
    go_wp2_with fail
    go_ret3
    exact ⟨_, _, rfl, fl_zero, fl_zero, below_drewN (Below.refl _ _) _⟩
  | true =>
    have HV : Hid _ := hv
    have hpos : 1 ≤ n ∧ n ≤ 256 := by
      unfold vecB at hv
      simp only [Bool.and_eq_true, decide_eq_true_eq] at hv
      exact hv.1
    clear hv
    have hfull := h
    obtain ⟨h1, h2, h3, h4⟩ := h
    rcases h4 with ⟨h0, _⟩ | ⟨h0, b, off, cap, hv, hc, hm, hlt, hcell⟩
    · omega
    subst hv
    have hz3 : ∀ k, k < n → zs.getD k 0 < 4294967296 := fun k hk => by
      have : zs.getD k 0 = zs[k]'(by omega) := by simp [List.getD, show k < zs.length by omega]
      rw [this]; exact h3 _ (List.getElem_mem _)
    clear h3
    go_enter Try.func19, Try.ntmps19
    go_wp2_with fail
    refine (isVec_spec _ _ _ _ hfull hn).mono ?_
    rw [HV.out]
    rintro e w' ⟨rfl, m, rfl⟩
    go_wp2_with fail
    go_loopw [5, 6, 7] (fun ss cs i wr => ∃ k r q : Nat, k ≤ n ∧ i = .int .i64 k ∧ ss = .float .f32 r ∧ cs = .float .f32 q ∧ Hid (Flt.Fl .f32 (carF (zs.take k)).1 r ∧ Flt.Fl .f32 (carF (zs.take k)).2 q) ∧ ∃ m, wr = w.drewN m) (fun _ _ i _ => n - (intOf i).toNat)
    case atStart => exact ⟨0, 0, 0, by omega, rfl, rfl, rfl, ⟨fl_zero, fl_zero⟩, _, rfl⟩
    case round =>
      obtain ⟨k, r, q, hk, rfl, rfl, rfl, HR, m, hwr⟩ := hrel
      have HX : Hid (∃ m, wr = w.drewN m) := ⟨m, hwr⟩
      by_cases hlt : k < n
      · have g1 : wr.cell? ⟨b, off + k, none⟩ = some (.float .f32 (zs.getD k 0)) := by rw [hwr]; exact hcell k hlt
        have g2 : Hid _ := hz3 k hlt
        have HS : Hid _ := car_step (zs := zs) (k := k) (by omega)
        clear hcell hwr hz3 hfull
        generalize zs.getD k 0 = z at *
        go_wp2
        go_roundw
        case rel => exact ⟨k + 1, _, _, by omega, by go_num, rfl, rfl, by
            show _ ∧ _
            rw [HS.out]
            exact ⟨fop32 HR.out.1 (fop32 (fl_arg g2.out) HR.out.2 _) _, fop32 (fop32 (fop32 HR.out.1 (fop32 (fl_arg g2.out) HR.out.2 _) _) HR.out.1 _) (fop32 (fl_arg g2.out) HR.out.2 _) _⟩, by repeat (first | exact HX.out | refine drewN_ex ?_ _)⟩
        case measure => simp [intOf]; omega
      · obtain rfl : k = n := by omega
        have HW : Hid (Below w.heap.size w wr) := by rw [hwr]; exact below_drewN (Below.refl _ _) _
        rw [List.take_of_length_le (by omega)] at HR
        clear hcell hwr hz3 hfull hlt
        cases f1 : finF (carF zs).1 with
        | false =>
          have hB : B = false := by rw [← HB.out]; unfold carB; rw [f1]; simp
          subst hB
          go_wp2_with fail
          refine (isFinite_spec _ _).mono ?_
          rw [fin_Fl HR.out.1, f1]
          rintro e w' ⟨rfl, m', rfl⟩
          go_wp2_with fail
          go_ret3
          exact ⟨_, _, rfl, fl_zero, fl_zero, by repeat (first | exact HW.out | refine below_drewN ?_ _)⟩
        | true =>
          cases f2 : finF (carF zs).2 with
          | false =>
            have hB : B = false := by rw [← HB.out]; unfold carB; rw [f2]; simp
            subst hB
            go_wp2_with fail
            refine (isFinite_spec _ _).mono ?_
            rw [fin_Fl HR.out.1, f1]
            rintro e w' ⟨rfl, m', rfl⟩
            go_wp2_with fail
            refine (isFinite_spec _ _).mono ?_
            rw [fin_Fl HR.out.2, f2]
            rintro e w' ⟨rfl, m'', rfl⟩
            go_wp2_with fail
            go_ret3
            exact ⟨_, _, rfl, fl_zero, fl_zero, by repeat (first | exact HW.out | refine below_drewN ?_ _)⟩
          | true =>
            have hB : B = true := by rw [← HB.out]; unfold carB; rw [f1, f2, HV.out]; rfl
            subst hB
            go_wp2_with fail
            refine (isFinite_spec _ _).mono ?_
            rw [fin_Fl HR.out.1, f1]
            rintro e w' ⟨rfl, m', rfl⟩
            go_wp2_with fail
            refine (isFinite_spec _ _).mono ?_
            rw [fin_Fl HR.out.2, f2]
            rintro e w' ⟨rfl, m'', rfl⟩
            go_wp2_with fail
            go_ret3
            exact ⟨_, _, rfl, HR.out.1, HR.out.2, by repeat (first | exact HW.out | refine below_drewN ?_ _)⟩

set_option maxHeartbeats 2000000 in
theorem car_impl (v : Value) (n : Nat) (zs : List Nat) (w : World) (h : FRow w v n zs) (hn : n ≤ 1048576) : Calls Try.prog 20 #[v] w fun e w' => ∃ r q, e = .returned (.tuple #[.float .f32 r, .float .f32 q, .bool (carB n zs)]) ∧ Flt.Fl .f32 (if carB n zs then (carF zs).1 else some 0) r ∧ Flt.Fl .f32 (if carB n zs then (carF zs).2 else some 0) q ∧ Below w.heap.size w w' := by
  generalize hB : carB n zs = B
  have HB : Hid _ := hB
  clear hB
  cases hv : vecB n zs with
  | false =>
    have hB : B = false := by rw [← HB.out]; unfold carB; rw [hv]; rfl
    subst hB
    simp only [Bool.false_eq_true, if_false]
    obtain ⟨ao, cap, he⟩ := h.form
    subst he
    go_enter Try.func20, Try.ntmps20
    go_wp2_with fail
    refine (isVec_impl _ _ _ _ h hn).mono ?_
    rw [hv]
    rintro e w' ⟨rfl, m, rfl⟩
    go_wp2_with fail
    go_ret3
    exact ⟨_, _, rfl, fl_zero, fl_zero, below_drewN (Below.refl _ _) _⟩
  | true =>
    have HV : Hid _ := hv
    have hpos : 1 ≤ n ∧ n ≤ 256 := by
      unfold vecB at hv
      simp only [Bool.and_eq_true, decide_eq_true_eq] at hv
      exact hv.1
    clear hv
    have hfull := h
    obtain ⟨h1, h2, h3, h4⟩ := h
    rcases h4 with ⟨h0, _⟩ | ⟨h0, b, off, cap, hv, hc, hm, hlt, hcell⟩
    · omega
    subst hv
    have hz3 : ∀ k, k < n → zs.getD k 0 < 4294967296 := fun k hk => by
      have : zs.getD k 0 = zs[k]'(by omega) := by simp [List.getD, show k < zs.length by omega]
      rw [this]; exact h3 _ (List.getElem_mem _)
    clear h3
    go_enter Try.func20, Try.ntmps20
    go_wp2_with fail
    refine (isVec_impl _ _ _ _ hfull hn).mono ?_
    rw [HV.out]
    rintro e w' ⟨rfl, m, rfl⟩
    go_wp2_with fail
    go_loopw [5, 6, 16] (fun ss cs i wr => ∃ k r q : Nat, k ≤ n ∧ i = .int .i64 k ∧ ss = .float .f32 r ∧ cs = .float .f32 q ∧ Hid (Flt.Fl .f32 (carF (zs.take k)).1 r ∧ Flt.Fl .f32 (carF (zs.take k)).2 q) ∧ ∃ m, wr = w.drewN m) (fun _ _ i _ => n - (intOf i).toNat)
    case atStart => exact ⟨0, 0, 0, by omega, rfl, rfl, rfl, ⟨fl_zero, fl_zero⟩, _, rfl⟩
    case round =>
      obtain ⟨k, r, q, hk, rfl, rfl, rfl, HR, m, hwr⟩ := hrel
      have HX : Hid (∃ m, wr = w.drewN m) := ⟨m, hwr⟩
      by_cases hlt : k < n
      · have g1 : wr.cell? ⟨b, off + k, none⟩ = some (.float .f32 (zs.getD k 0)) := by rw [hwr]; exact hcell k hlt
        have g2 : Hid _ := hz3 k hlt
        have HS : Hid _ := car_step (zs := zs) (k := k) (by omega)
        clear hcell hwr hz3 hfull
        generalize zs.getD k 0 = z at *
        go_wp2
        go_roundw
        case rel => exact ⟨k + 1, _, _, by omega, by go_num, rfl, rfl, by
            show _ ∧ _
            rw [HS.out]
            exact ⟨fop32 HR.out.1 (fop32 (fl_arg g2.out) HR.out.2 _) _, fop32 (fop32 (fop32 HR.out.1 (fop32 (fl_arg g2.out) HR.out.2 _) _) HR.out.1 _) (fop32 (fl_arg g2.out) HR.out.2 _) _⟩, by repeat (first | exact HX.out | refine drewN_ex ?_ _)⟩
        case measure => simp [intOf]; omega
      · obtain rfl : k = n := by omega
        have HW : Hid (Below w.heap.size w wr) := by rw [hwr]; exact below_drewN (Below.refl _ _) _
        rw [List.take_of_length_le (by omega)] at HR
        clear hcell hwr hz3 hfull hlt
        have hA : Hid (allF [r, q] = (finF (carF zs).1 && finF (carF zs).2)) := by
          show allF [r, q] = _
          unfold allF; simp only [List.all_cons, List.all_nil, Bool.and_true]
          rw [fin_Fl HR.out.1, fin_Fl HR.out.2]
        go_wp2_with fail
        refine (allF_impl _ 2 [r, q] _ (frow_pair _ _ _ _ HR.out.1.lt HR.out.2.lt) (by omega)).mono ?_
        rw [hA.out]
        have hA2 : Hid (B = (finF (carF zs).1 && finF (carF zs).2)) := by
          show B = _
          rw [← HB.out]; unfold carB; rw [HV.out]; rfl
        rintro e w' ⟨rfl, m', rfl⟩
        cases f1 : (finF (carF zs).1 && finF (carF zs).2) with
        | false =>
          have hB : B = false := hA2.out.trans f1
          subst hB
          go_wp2_with fail
          go_ret3
          exact ⟨_, _, rfl, fl_zero, fl_zero, below_drewN (HW.out.alloc HW.out.size _) _⟩
        | true =>
          have hB : B = true := hA2.out.trans f1
          subst hB
          go_wp2_with fail
          go_ret3
          exact ⟨_, _, rfl, HR.out.1, HR.out.2, below_drewN (HW.out.alloc HW.out.size _) _⟩

set_option maxHeartbeats 1000000 in
theorem carry_walk (v : Value) (n : Nat) (zs : List Nat) (w : World) (hF : FRow w v n zs) :
    Calls Try.prog 6 #[v] w fun e w' => e = .returned (.bool true) ∧ Below w.heap.size w w' := by
  obtain ⟨ao, cap, hv⟩ := hF.form
  subst hv
  have hmx := hF.mx
  have hz : Hid _ := hF.lt
  have hmm : n ≤ 9223372036854775807 := hmx
  generalize hB : carB n zs = B
  have HB : Hid _ := hB
  clear hB
  by_cases hn : n ≤ 1048576
  · have hd : decide ((1048576 : Int) < (n : Int)) = false := decide_eq_false (by omega)
    go_enter Try.func6, Try.ntmps6
    go_wp2_with fail
    refine (toF_any _ _ _ _ hF hn).mono ?_
    rintro e w1 ⟨g1, rfl, hg1, ho1, hb1⟩
    have hF1 := hF.below hb1 (Nat.le_refl _)
    have hR1 := ho1.row hmx hz.out
    go_wp2_with fail
    refine (car_spec _ _ _ _ hR1 hn).mono ?_
    rw [HB.out]
    rintro e w2 ⟨r1, q1, rfl, hr1, hq1, hb2⟩
    have hF2 := hF1.below hb2 (Nat.le_refl _)
    have hB2 := hb1.trans (hb2.mono hb1.size)
    go_wp2_with fail
    refine (toF_any _ _ _ _ hF2 hn).mono ?_
    rintro e w3 ⟨g2, rfl, hg2, ho2, hb3⟩
    have hF3 := hF2.below hb3 (Nat.le_refl _)
    have hB3 := hB2.trans (hb3.mono hB2.size)
    have hR2 := ho2.row hmx hz.out
    go_wp2_with fail
    refine (car_impl _ _ _ _ hR2 hn).mono ?_
    rw [HB.out]
    rintro e w4 ⟨r2, q2, rfl, hr2, hq2, hb4⟩
    have hF4 := hF3.below hb4 (Nat.le_refl _)
    have hB4 := hB3.trans (hb4.mono hB3.size)
    have hR4 := hR2.below hb4 (Nat.le_refl _)
    go_wp2_with fail
    refine (sameFloat_any _ _ _ _ (wid_of hr2 _) (wid_of hr1 _)).mono ?_
    rintro e w5 ⟨rfl, rfl⟩
    go_wp2_with fail
    refine (sameFloat_any _ _ _ _ (wid_of hq2 _) (wid_of hq1 _)).mono ?_
    rintro e w5 ⟨rfl, rfl⟩
    go_wp2_with fail
    refine (toF_any _ _ _ _ (by exact hF4) hn).mono ?_
    rintro e w6 ⟨g3, rfl, hg3, ho3, hb6⟩
    have hR3 := ho3.row hmx hz.out
    have hR5 := Opn.FRow.below (hR4.drewN _) hb6 (Nat.le_refl _)
    have hB6 := (below_drewN hB4 _).trans (hb6.mono (by have := hB4.size; simpa using this))
    go_wp2_with fail
    refine (eqF_any _ _ _ _ _ hR5 hR3 hn).mono ?_
    rintro e w7 ⟨rfl, m3, rfl⟩
    go_wp2_with fail
    go_ret
    exact ⟨rfl, below_drewN hB6 _⟩
  · have hd : decide ((1048576 : Int) < (n : Int)) = true := decide_eq_true (by omega)
    go_enter Try.func6, Try.ntmps6
    go_wp2
    go_ret
    exact ⟨rfl, Below.refl _ _⟩

end Go.Proofs.Ytailiaipljfnpaa
