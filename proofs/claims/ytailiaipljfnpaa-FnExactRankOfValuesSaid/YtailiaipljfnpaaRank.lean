/- Contracts of RankOfValues on both sides, and the walk of its law. -/
import Derived.Test.YtailiaipljfnpaaVecLaw
namespace Go.Proofs.Ytailiaipljfnpaa
open Go.RowKit Opn

def gtB (l z : Nat) : Bool := FloatKind.f32.format.order z l == some .gt
def rankI (zs : List Nat) (l : Nat) : Nat := (zs.filter (gtB l)).length
def rankB (n : Nat) (zs : List Nat) (l : Nat) : Bool := (decide (1 ≤ n ∧ n ≤ 12) && allF zs) && finB l

theorem rank_le (zs : List Nat) (l : Nat) : rankI zs l ≤ zs.length := List.length_filter_le _ _
theorem rank_step {zs : List Nat} {k l : Nat} (hk : k < zs.length) : rankI (zs.take (k + 1)) l = rankI (zs.take k) l + (if gtB l (zs.getD k 0) then 1 else 0) := by
  have : zs.getD k 0 = zs[k] := by simp [List.getD, hk]
  rw [this]
  unfold rankI
  rw [List.take_succ_eq_append_getElem hk, List.filter_append, List.length_append]
  congr 1
  cases h : gtB l zs[k] <;> simp [h]

set_option maxHeartbeats 1000000 in
theorem rank_spec (v : Value) (n : Nat) (zs : List Nat) (l : Nat) (w : World) (h : FRow w v n zs) (hn : n ≤ 1048576) : Calls Try.prog 25 #[v, .float .f32 l] w fun e w' => e = .returned (.tuple #[.int .i64 (if rankB n zs l then (rankI zs l : Int) else 0), .bool (rankB n zs l)]) ∧ ∃ m, w' = w.drewN m := by
  by_cases h1 : 1 ≤ n ∧ n ≤ 12
  · cases h2 : allF zs with
    | false =>
      have hB : rankB n zs l = false := by unfold rankB; rw [h2]; simp
      rw [hB]
      simp only [Bool.false_eq_true, if_false]
      clear hB
      obtain ⟨ao, cap, hv⟩ := h.form
      subst hv
      have d1 : decide ((n : Int) < 1) = false := decide_eq_false (by omega)
      have d2 : decide ((12 : Int) < (n : Int)) = false := decide_eq_false (by omega)
      have d3 : decide (1 ≤ (n : Int)) = true := decide_eq_true (by omega)
      have d4 : decide ((n : Int) ≤ 12) = true := decide_eq_true (by omega)
      clear h1
      go_enter Try.func25, Try.ntmps25
      go_wp2_with (first | (go_at_call 45; refine (allF_spec _ _ _ _ (by exact h) (by omega)).mono ?_; rw [h2]; rintro e w' ⟨rfl, m, rfl⟩) | go_in)
      go_ret2
      exact ⟨rfl, _, rfl⟩
    | true =>
      cases h3 : finB l with
      | false =>
        have hB : rankB n zs l = false := by unfold rankB; rw [h3]; simp
        rw [hB]
        simp only [Bool.false_eq_true, if_false]
        clear hB
        obtain ⟨ao, cap, hv⟩ := h.form
        subst hv
        have d1 : decide ((n : Int) < 1) = false := decide_eq_false (by omega)
        have d2 : decide ((12 : Int) < (n : Int)) = false := decide_eq_false (by omega)
        have d3 : decide (1 ≤ (n : Int)) = true := decide_eq_true (by omega)
        have d4 : decide ((n : Int) ≤ 12) = true := decide_eq_true (by omega)
        clear h1
        go_enter Try.func25, Try.ntmps25
        go_wp2_with (first | (go_at_call 45; refine (allF_spec _ _ _ _ (by exact h) (by omega)).mono ?_; rw [h2]; rintro e w' ⟨rfl, m, rfl⟩) | (go_at_call 37; refine (isFinite_spec _ _).mono ?_; rw [h3]; rintro e w' ⟨rfl, m2, rfl⟩) | go_in)
        go_ret2
        exact ⟨rfl, by repeat (first | exact ⟨_, rfl⟩ | exact ⟨_, by rw [World.drewN_drewN]⟩)⟩
      | true =>
        have hB : rankB n zs l = true := by unfold rankB; rw [h2, h3, decide_eq_true h1]; rfl
        rw [hB]
        simp only [if_true]
        clear hB
        have hlen := h.1
        have hfull : Hid (∀ wr m, wr = w.drewN m → FRow wr v n zs) := fun wr m hm => by rw [hm]; exact h.drewN m
        generalize hR : rankI zs l = R
        have HR : Hid _ := hR
        clear hR
        rcases h.2.2.2 with ⟨h0, _⟩ | ⟨h0, b, off, cap, hv, hc, hm, hlt, hcell⟩
        · omega
        subst hv
        clear hfull
        have d1 : decide ((n : Int) < 1) = false := decide_eq_false (by omega)
        have d2 : decide ((12 : Int) < (n : Int)) = false := decide_eq_false (by omega)
        have d3 : decide (1 ≤ (n : Int)) = true := decide_eq_true (by omega)
        have d4 : decide ((n : Int) ≤ 12) = true := decide_eq_true (by omega)
        go_enter Try.func25, Try.ntmps25
        go_wp2_with (first | (go_at_call 45; refine (allF_spec _ _ _ _ (by exact h) (by omega)).mono ?_; rw [h2]; rintro e w' ⟨rfl, m, rfl⟩) | (go_at_call 37; refine (isFinite_spec _ _).mono ?_; rw [h3]; rintro e w' ⟨rfl, m2, rfl⟩) | go_in)
        go_loopw [6, 7] (fun c i wr => ∃ k q : Nat, k ≤ n ∧ i = .int .i64 k ∧ c = .int .i64 q ∧ q ≤ k ∧ Hid (q = rankI (zs.take k) l) ∧ ∃ m, wr = w.drewN m) (fun _ i _ => n - (intOf i).toNat)
        case atStart => exact ⟨0, 0, by omega, rfl, rfl, by omega, rfl, by repeat (first | exact ⟨_, rfl⟩ | exact ⟨_, by rw [World.drewN_drewN]⟩)⟩
        case round =>
          obtain ⟨k, q, hk, rfl, rfl, hq, HQ, m, hwr⟩ := hrel
          have HW : Hid (∃ m, wr = w.drewN m) := ⟨m, hwr⟩
          by_cases hlt : k < n
          · have g1 : wr.cell? ⟨b, off + k, none⟩ = some (.float .f32 (zs.getD k 0)) := by rw [hwr]; exact hcell k hlt
            have HS : Hid _ := rank_step (zs := zs) (k := k) (l := l) (by omega)
            clear hcell hwr h
            cases hg : gtB l (zs.getD k 0) with
            | true =>
              rw [hg] at HS
              have hg' : (FloatKind.f32.format.order (zs.getD k 0) l == some .gt) = true := hg
              clear hg
              generalize zs.getD k 0 = z at *
              go_wp2
              go_roundw
              case rel => exact ⟨k + 1, q + 1, by omega, by go_num, by go_num, by omega, by have := HS.out; have := HQ.out; simp only [if_true] at *; show q + 1 = _; omega, HW.out⟩
              case measure => simp [intOf]; omega
            | false =>
              rw [hg] at HS
              have hg' : (FloatKind.f32.format.order (zs.getD k 0) l == some .gt) = false := hg
              clear hg
              generalize zs.getD k 0 = z at *
              go_wp2
              go_roundw
              case rel => exact ⟨k + 1, q, by omega, by go_num, rfl, by omega, by have := HS.out; have := HQ.out; simp only [Bool.false_eq_true, if_false] at *; show q = _; omega, HW.out⟩
              case measure => simp [intOf]; omega
          · obtain rfl : k = n := by omega
            have hq' : R = q := by
              have := HQ.out
              rw [List.take_of_length_le (by omega)] at this
              rw [this]; exact HR.out.symm
            subst hq'
            clear hcell hwr h
            go_wp2
            go_ret2
            exact ⟨rfl, HW.out⟩
  · have hB : rankB n zs l = false := by unfold rankB; rw [decide_eq_false h1]; simp
    rw [hB]
    simp only [Bool.false_eq_true, if_false]
    clear hB
    obtain ⟨ao, cap, hv⟩ := h.form
    subst hv
    by_cases h0 : 1 ≤ n
    · have d1 : decide ((n : Int) < 1) = false := decide_eq_false (by omega)
      have d2 : decide ((12 : Int) < (n : Int)) = true := decide_eq_true (by omega)
      have d3 : decide (1 ≤ (n : Int)) = true := decide_eq_true (by omega)
      have d4 : decide ((n : Int) ≤ 12) = false := decide_eq_false (by omega)
      clear h1 h0
      go_enter Try.func25, Try.ntmps25
      go_wp2_with go_in
      go_ret2
      exact ⟨rfl, 0, rfl⟩
    · have d1 : decide ((n : Int) < 1) = true := decide_eq_true (by omega)
      have d3 : decide (1 ≤ (n : Int)) = false := decide_eq_false (by omega)
      clear h1 h0
      go_enter Try.func25, Try.ntmps25
      go_wp2_with go_in
      go_ret2
      exact ⟨rfl, 0, rfl⟩

set_option maxHeartbeats 1000000 in
theorem rank_impl (v : Value) (n : Nat) (zs : List Nat) (l : Nat) (w : World) (h : FRow w v n zs) (hn : n ≤ 1048576) : Calls Try.prog 26 #[v, .float .f32 l] w fun e w' => e = .returned (.tuple #[.int .i64 (if rankB n zs l then (rankI zs l : Int) else 0), .bool (rankB n zs l)]) ∧ ∃ m, w' = w.drewN m := by
  by_cases h1 : 1 ≤ n ∧ n ≤ 12
  · cases h2 : allF zs with
    | false =>
      have hB : rankB n zs l = false := by unfold rankB; rw [h2]; simp
      rw [hB]
      simp only [Bool.false_eq_true, if_false]
      clear hB
      obtain ⟨ao, cap, hv⟩ := h.form
      subst hv
      have d1 : decide ((n : Int) < 1) = false := decide_eq_false (by omega)
      have d2 : decide ((12 : Int) < (n : Int)) = false := decide_eq_false (by omega)
      have d3 : decide (1 ≤ (n : Int)) = true := decide_eq_true (by omega)
      have d4 : decide ((n : Int) ≤ 12) = true := decide_eq_true (by omega)
      clear h1
      go_enter Try.func26, Try.ntmps26
      go_wp2_with (first | (go_at_call 36; refine (allF_impl _ _ _ _ (by exact h) (by omega)).mono ?_; rw [h2]; rintro e w' ⟨rfl, m, rfl⟩) | go_in)
      go_ret2
      exact ⟨rfl, _, rfl⟩
    | true =>
      cases h3 : finB l with
      | false =>
        have hB : rankB n zs l = false := by unfold rankB; rw [h3]; simp
        rw [hB]
        simp only [Bool.false_eq_true, if_false]
        clear hB
        obtain ⟨ao, cap, hv⟩ := h.form
        subst hv
        have d1 : decide ((n : Int) < 1) = false := decide_eq_false (by omega)
        have d2 : decide ((12 : Int) < (n : Int)) = false := decide_eq_false (by omega)
        have d3 : decide (1 ≤ (n : Int)) = true := decide_eq_true (by omega)
        have d4 : decide ((n : Int) ≤ 12) = true := decide_eq_true (by omega)
        clear h1
        go_enter Try.func26, Try.ntmps26
        go_wp2_with (first | (go_at_call 36; refine (allF_impl _ _ _ _ (by exact h) (by omega)).mono ?_; rw [h2]; rintro e w' ⟨rfl, m, rfl⟩) | (go_at_call 47; refine (isFinite_impl _ _).mono ?_; rw [h3]; rintro e w' ⟨rfl, m2, rfl⟩) | go_in)
        go_ret2
        exact ⟨rfl, by repeat (first | exact ⟨_, rfl⟩ | exact ⟨_, by rw [World.drewN_drewN]⟩)⟩
      | true =>
        have hB : rankB n zs l = true := by unfold rankB; rw [h2, h3, decide_eq_true h1]; rfl
        rw [hB]
        simp only [if_true]
        clear hB
        have hlen := h.1
        have hfull : Hid (∀ wr m, wr = w.drewN m → FRow wr v n zs) := fun wr m hm => by rw [hm]; exact h.drewN m
        generalize hR : rankI zs l = R
        have HR : Hid _ := hR
        clear hR
        rcases h.2.2.2 with ⟨h0, _⟩ | ⟨h0, b, off, cap, hv, hc, hm, hlt, hcell⟩
        · omega
        subst hv
        clear hfull
        have d1 : decide ((n : Int) < 1) = false := decide_eq_false (by omega)
        have d2 : decide ((12 : Int) < (n : Int)) = false := decide_eq_false (by omega)
        have d3 : decide (1 ≤ (n : Int)) = true := decide_eq_true (by omega)
        have d4 : decide ((n : Int) ≤ 12) = true := decide_eq_true (by omega)
        go_enter Try.func26, Try.ntmps26
        go_wp2_with (first | (go_at_call 36; refine (allF_impl _ _ _ _ (by exact h) (by omega)).mono ?_; rw [h2]; rintro e w' ⟨rfl, m, rfl⟩) | (go_at_call 47; refine (isFinite_impl _ _).mono ?_; rw [h3]; rintro e w' ⟨rfl, m2, rfl⟩) | go_in)
        go_loopw [6, 25] (fun c i wr => ∃ k q : Nat, k ≤ n ∧ i = .int .i64 k ∧ c = .int .i64 q ∧ q ≤ k ∧ Hid (q = rankI (zs.take k) l) ∧ ∃ m, wr = w.drewN m) (fun _ i _ => n - (intOf i).toNat)
        case atStart => exact ⟨0, 0, by omega, rfl, rfl, by omega, rfl, by repeat (first | exact ⟨_, rfl⟩ | exact ⟨_, by rw [World.drewN_drewN]⟩)⟩
        case round =>
          obtain ⟨k, q, hk, rfl, rfl, hq, HQ, m, hwr⟩ := hrel
          have HW : Hid (∃ m, wr = w.drewN m) := ⟨m, hwr⟩
          by_cases hlt : k < n
          · have g1 : wr.cell? ⟨b, off + k, none⟩ = some (.float .f32 (zs.getD k 0)) := by rw [hwr]; exact hcell k hlt
            have HS : Hid _ := rank_step (zs := zs) (k := k) (l := l) (by omega)
            clear hcell hwr h
            cases hg : gtB l (zs.getD k 0) with
            | true =>
              rw [hg] at HS
              have hg' : (FloatKind.f32.format.order (zs.getD k 0) l == some .gt) = true := hg
              clear hg
              generalize zs.getD k 0 = z at *
              go_wp2
              go_roundw
              case rel => exact ⟨k + 1, q + 1, by omega, by go_num, by go_num, by omega, by have := HS.out; have := HQ.out; simp only [if_true] at *; show q + 1 = _; omega, HW.out⟩
              case measure => simp [intOf]; omega
            | false =>
              rw [hg] at HS
              have hg' : (FloatKind.f32.format.order (zs.getD k 0) l == some .gt) = false := hg
              clear hg
              generalize zs.getD k 0 = z at *
              go_wp2
              go_roundw
              case rel => exact ⟨k + 1, q, by omega, by go_num, rfl, by omega, by have := HS.out; have := HQ.out; simp only [Bool.false_eq_true, if_false] at *; show q = _; omega, HW.out⟩
              case measure => simp [intOf]; omega
          · obtain rfl : k = n := by omega
            have hq' : R = q := by
              have := HQ.out
              rw [List.take_of_length_le (by omega)] at this
              rw [this]; exact HR.out.symm
            subst hq'
            clear hcell hwr h
            go_wp2
            go_ret2
            exact ⟨rfl, HW.out⟩
  · have hB : rankB n zs l = false := by unfold rankB; rw [decide_eq_false h1]; simp
    rw [hB]
    simp only [Bool.false_eq_true, if_false]
    clear hB
    obtain ⟨ao, cap, hv⟩ := h.form
    subst hv
    by_cases h0 : 1 ≤ n
    · have d1 : decide ((n : Int) < 1) = false := decide_eq_false (by omega)
      have d2 : decide ((12 : Int) < (n : Int)) = true := decide_eq_true (by omega)
      have d3 : decide (1 ≤ (n : Int)) = true := decide_eq_true (by omega)
      have d4 : decide ((n : Int) ≤ 12) = false := decide_eq_false (by omega)
      clear h1 h0
      go_enter Try.func26, Try.ntmps26
      go_wp2_with go_in
      go_ret2
      exact ⟨rfl, 0, rfl⟩
    · have d1 : decide ((n : Int) < 1) = true := decide_eq_true (by omega)
      have d3 : decide (1 ≤ (n : Int)) = false := decide_eq_false (by omega)
      clear h1 h0
      go_enter Try.func26, Try.ntmps26
      go_wp2_with go_in
      go_ret2
      exact ⟨rfl, 0, rfl⟩

set_option maxHeartbeats 1000000 in
theorem rank_walk (v : Value) (n : Nat) (zs : List Nat) (l : Nat) (w : World) (hF : FRow w v n zs) (_hl : (Lit.float .f32 l).wf = true) :
    Calls Try.prog 9 #[v, .float .f32 l] w fun e w' => e = .returned (.bool true) ∧ Below w.heap.size w w' := by
  obtain ⟨ao, cap, hv⟩ := hF.form
  subst hv
  have hmx := hF.mx
  have hz : Hid _ := hF.lt
  have hmm : n ≤ 9223372036854775807 := hmx
  clear _hl
  generalize hA : (if rankB n zs l = true then (rankI zs l : Int) else 0) = A
  have HA : Hid _ := hA
  clear hA
  generalize hB : rankB n zs l = B at HA
  have HB : Hid _ := hB
  clear hB
  by_cases hn : n ≤ 1048576
  · have hd : decide ((1048576 : Int) < (n : Int)) = false := decide_eq_false (by omega)
    go_enter Try.func9, Try.ntmps9
    go_wp2_with fail
    refine (toF_any _ _ _ _ hF hn).mono ?_
    rintro e w1 ⟨g1, rfl, hg1, ho1, hb1⟩
    have hF1 := hF.below hb1 (Nat.le_refl _)
    have hR1 := ho1.row hmx hz.out
    go_wp2_with fail
    refine (rank_spec _ _ _ _ _ hR1 hn).mono ?_
    rw [HB.out, HA.out]
    rintro e w2 ⟨rfl, m1, rfl⟩
    go_wp2_with fail
    refine (toF_any _ _ _ _ (hF1.drewN m1) hn).mono ?_
    rintro e w3 ⟨g2, rfl, hg2, ho2, hb2⟩
    have hF2 := (hF1.drewN m1).below hb2 (Nat.le_refl _)
    have hR2 := ho2.row hmx hz.out
    go_wp2_with fail
    refine (rank_impl _ _ _ _ _ hR2 hn).mono ?_
    rw [HB.out, HA.out]
    rintro e w4 ⟨rfl, m2, rfl⟩
    go_wp2_with fail
    refine (toF_any _ _ _ _ (by exact hF2) hn).mono ?_
    rintro e w6 ⟨g3, rfl, hg3, ho3, hb3⟩
    have hR3 := ho3.row hmx hz.out
    have hR2' := Opn.FRow.below (by exact hR2) hb3 (Nat.le_refl _)
    go_wp2_with fail
    refine (eqF_any _ _ _ _ _ hR2' hR3 hn).mono ?_
    rintro e w7 ⟨rfl, m3, rfl⟩
    go_wp2_with fail
    go_ret
    refine ⟨rfl, below_drewN ?_ _⟩
    refine Below.trans ?_ (hb3.mono ?_)
    · repeat refine below_drewN ?_ _
      refine Below.trans ?_ (hb2.mono ?_)
      · exact below_drewN hb1 _
      · have := hb1.size; simpa using this
    · have := hb1.size; have := hb2.size; simp at *; omega
  · have hd : decide ((1048576 : Int) < (n : Int)) = true := decide_eq_true (by omega)
    go_enter Try.func9, Try.ntmps9
    go_wp2
    go_ret
    exact ⟨rfl, Below.refl _ _⟩

end Go.Proofs.Ytailiaipljfnpaa
