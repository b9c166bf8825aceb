/- Contracts of the tests whether all numbers of a slice are finite, and of isSide, inRange and the like by walking in. -/
import Derived.Test.YteblbalciemkiaaVec
import Derived.Test.YteblbalciemkiaaFin
namespace Go.Proofs.Yteblbalciemkiaa
open Go.RowKit Opn

def allF (zs : List Nat) : Bool := zs.all finB

theorem allF_bad {zs : List Nat} {k : Nat} (hk : k < zs.length) (h : finB (zs.getD k 0) = false) : allF zs = false := by
  unfold allF
  rw [List.all_eq_false]
  refine ⟨zs[k], List.getElem_mem _, ?_⟩
  have : zs.getD k 0 = zs[k] := by simp [List.getD, hk]
  rw [← this, h]; simp
theorem allF_step {zs : List Nat} {k : Nat} (hk : k < zs.length) (h : allF (zs.take k) = true) (h' : finB (zs.getD k 0) = true) : allF (zs.take (k + 1)) = true := by
  unfold allF at *
  rw [List.take_succ_eq_append_getElem hk, List.all_append, h]
  have : zs.getD k 0 = zs[k] := by simp [List.getD, hk]
  rw [this] at h'
  simp [h']

theorem notFin (x : Nat) (w : World) : Calls Try.prog 79 #[.float .f32 x] w fun e w' => e = .returned (.bool (!finB x)) ∧ ∃ m, w' = w.drewN m := by
  go_enter Try.func79, Try.ntmps79
  go_wp2_with (go_at_call 80; refine (isFinite_impl _ _).mono ?_; rintro e w' ⟨rfl, m, rfl⟩)
  go_ret
  exact ⟨rfl, m, rfl⟩

set_option maxHeartbeats 1000000 in
theorem allF_spec (v : Value) (n : Nat) (zs : List Nat) (w : World) (h : FRow w v n zs) (hn : n ≤ 1048576) : Calls Try.prog 77 #[v] w fun e w' => e = .returned (.bool (allF zs)) ∧ ∃ m, w' = w.drewN m := by
  obtain ⟨h1, h2, h3, h4⟩ := h
  clear h3
  rcases h4 with ⟨h0, ao, cap, hv⟩ | ⟨h0, b, off, cap, hv, hc, hm, hlt, hcell⟩
  · subst hv
    have hz : zs = [] := List.eq_nil_of_length_eq_zero (by omega)
    subst hz h0
    clear h1
    have ha : allF [] = true := rfl
    rw [ha]
    clear ha
    go_enter Try.func77, Try.ntmps77
    go_wp2
    go_loop [3] (fun i => i = .int .i64 0) (fun _ => 0)
    case atStart => rfl
    case round =>
      subst hrel
      go_wp2
      go_ret
      exact ⟨rfl, 0, rfl⟩
  · subst hv
    generalize hA : allF zs = A
    have HA : Hid _ := hA
    clear hA
    go_enter Try.func77, Try.ntmps77
    go_wp2
    go_loopw [3] (fun i wr => ∃ k : Nat, k ≤ n ∧ i = .int .i64 k ∧ Hid (allF (zs.take k) = true) ∧ ∃ m, wr = w.drewN m) (fun i _ => n - (intOf i).toNat)
    case atStart => exact ⟨0, Nat.zero_le _, rfl, rfl, 0, rfl⟩
    case round =>
      obtain ⟨k, hk, rfl, hall, m, hwr⟩ := hrel
      have HW : Hid (∃ m, wr = w.drewN m) := ⟨m, hwr⟩
      by_cases hlt : k < n
      · have g1 : wr.cell? ⟨b, off + k, none⟩ = some (.float .f32 (zs.getD k 0)) := by rw [hwr]; exact hcell k hlt
        clear hcell hwr
        cases hf : finB (zs.getD k 0) with
        | true =>
          have HS : Hid _ := allF_step (by omega) hall.out hf
          generalize zs.getD k 0 = z at *
          go_wp2_with (first | (go_at_call 81; refine (isFinite_spec _ _).mono ?_; rw [hf]; rintro e w' ⟨rfl, m, rfl⟩))
          go_roundw
          case rel => exact ⟨k + 1, by omega, by go_num, HS, by repeat (first | exact HW.out | refine drewN_ex ?_ _)⟩
          case measure => simp [intOf]; omega
        | false =>
          have HS : Hid _ := allF_bad (by omega) hf
          have hA' : A = false := HA.out.symm.trans HS.out
          subst hA'
          generalize zs.getD k 0 = z at *
          go_wp2_with (first | (go_at_call 81; refine (isFinite_spec _ _).mono ?_; rw [hf]; rintro e w' ⟨rfl, m, rfl⟩))
          go_ret
          exact ⟨rfl, by repeat (first | exact HW.out | refine drewN_ex ?_ _)⟩
      · obtain rfl : k = n := by omega
        have hA' : A = true := by rw [← HA.out]; have := hall.out; rwa [List.take_of_length_le (by omega)] at this
        subst hA'
        clear hcell hwr
        go_wp2
        go_ret
        exact ⟨rfl, HW.out⟩

set_option maxHeartbeats 1000000 in
theorem allF_impl (v : Value) (n : Nat) (zs : List Nat) (w : World) (h : FRow w v n zs) (hn : n ≤ 1048576) : Calls Try.prog 59 #[v] w fun e w' => e = .returned (.bool (allF zs)) ∧ ∃ m, w' = w.drewN m := by
  obtain ⟨h1, h2, h3, h4⟩ := h
  clear h3
  rcases h4 with ⟨h0, ao, cap, hv⟩ | ⟨h0, b, off, cap, hv, hc, hm, hlt, hcell⟩
  · subst hv
    have hz : zs = [] := List.eq_nil_of_length_eq_zero (by omega)
    subst hz h0
    clear h1
    have ha : allF [] = true := rfl
    rw [ha]
    clear ha
    go_enter Try.func59, Try.ntmps59
    go_wp2_with go_in
    go_loop [8] (fun i => i = .int .i64 0) (fun _ => 0)
    case atStart => rfl
    case round =>
      subst hrel
      go_wp2_with go_in
      go_ret
      exact ⟨rfl, 0, rfl⟩
  · subst hv
    generalize hA : allF zs = A
    have HA : Hid _ := hA
    clear hA
    go_enter Try.func59, Try.ntmps59
    go_wp2_with go_in
    go_loopw [8] (fun i wr => ∃ k : Nat, k ≤ n ∧ i = .int .i64 k ∧ Hid (allF (zs.take k) = true) ∧ ∃ m, wr = w.drewN m) (fun i _ => n - (intOf i).toNat)
    case atStart => exact ⟨0, Nat.zero_le _, rfl, rfl, 0, rfl⟩
    case round =>
      obtain ⟨k, hk, rfl, hall, m, hwr⟩ := hrel
      have HW : Hid (∃ m, wr = w.drewN m) := ⟨m, hwr⟩
      by_cases hlt : k < n
      · have g1 : wr.cell? ⟨b, off + k, none⟩ = some (.float .f32 (zs.getD k 0)) := by rw [hwr]; exact hcell k hlt
        clear hcell hwr
        cases hf : finB (zs.getD k 0) with
        | true =>
          have HS : Hid _ := allF_step (by omega) hall.out hf
          generalize zs.getD k 0 = z at *
          go_wp2_with (first | (go_at_call 79; refine (notFin _ _).mono ?_; rw [hf]; rintro e w' ⟨rfl, m, rfl⟩) | go_in)
          go_roundw
          case rel => exact ⟨k + 1, by omega, by go_num, HS, by repeat (first | exact HW.out | refine drewN_ex ?_ _)⟩
          case measure => simp [intOf]; omega
        | false =>
          have HS : Hid _ := allF_bad (by omega) hf
          have hA' : A = false := HA.out.symm.trans HS.out
          subst hA'
          generalize zs.getD k 0 = z at *
          go_wp2_with (first | (go_at_call 79; refine (notFin _ _).mono ?_; rw [hf]; rintro e w' ⟨rfl, m, rfl⟩) | go_in)
          go_ret
          exact ⟨rfl, by repeat (first | exact HW.out | refine drewN_ex ?_ _)⟩
      · obtain rfl : k = n := by omega
        have hA' : A = true := by rw [← HA.out]; have := hall.out; rwa [List.take_of_length_le (by omega)] at this
        subst hA'
        clear hcell hwr
        go_wp2_with go_in
        go_ret
        exact ⟨rfl, HW.out⟩

end Go.Proofs.Yteblbalciemkiaa
