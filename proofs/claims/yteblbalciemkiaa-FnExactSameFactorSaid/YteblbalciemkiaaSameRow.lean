/- Contracts of the sameness of two rows of float32 on both sides. -/
import Derived.Test.YteblbalciemkiaaSameNum
namespace Go.Proofs.Yteblbalciemkiaa
open Go.RowKit Opn

noncomputable def sameL (zs ys : List Nat) : Bool := @decide (zs.length = ys.length ∧ ∀ i, i < zs.length → sameB (zs.getD i 0) (ys.getD i 0) = true) (Classical.propDecidable _)
theorem sameL_len {zs ys : List Nat} (h : zs.length ≠ ys.length) : sameL zs ys = false := by
  unfold sameL; exact @decide_eq_false _ (Classical.propDecidable _) (fun e => h e.1)
theorem sameL_bad {zs ys : List Nat} {k : Nat} (hk : k < zs.length) (h : sameB (zs.getD k 0) (ys.getD k 0) = false) : sameL zs ys = false := by
  unfold sameL; exact @decide_eq_false _ (Classical.propDecidable _) (fun e => by rw [e.2 k hk] at h; cases h)
theorem sameL_all {zs ys : List Nat} (h : zs.length = ys.length) (ha : ∀ i, i < zs.length → sameB (zs.getD i 0) (ys.getD i 0) = true) : sameL zs ys = true := by
  unfold sameL; exact @decide_eq_true _ (Classical.propDecidable _) ⟨h, ha⟩

theorem FRow.shape {w : World} {v : Value} {n : Nat} {zs : List Nat} (h : FRow w v n zs) : ∃ ao cap, v = .slice ao n cap := by
  rcases h.2.2.2 with ⟨h0, ao, cap, hv⟩ | ⟨h0, b, off, cap, hv, _⟩
  · exact ⟨ao, cap, by rw [hv, h0]⟩
  · exact ⟨_, cap, hv⟩

theorem FRow.lt {w : World} {v : Value} {n : Nat} {zs : List Nat} (h : FRow w v n zs) : ∀ k, k < n → zs.getD k 0 < 4294967296 := fun k hk => by
  have hl := h.1
  have : zs.getD k 0 = zs[k]'(by omega) := by simp [List.getD, show k < zs.length by omega]
  rw [this]; exact h.2.2.1 _ (List.getElem_mem _)

set_option maxHeartbeats 1000000 in
theorem sameAll_spec (v v' : Value) (n n' : Nat) (zs ys : List Nat) (w : World) (h : FRow w v n zs) (h' : FRow w v' n' ys) (hn : n ≤ 1048576) (hn' : n' ≤ 1048576) : Calls Try.prog 74 #[v, v'] w fun e w' => e = .returned (.bool (sameL zs ys)) ∧ ∃ m, w' = w.drewN m := by
  by_cases hnn : n = n'
  · subst hnn
    have l1 := h.1
    have l2 := h'.1
    by_cases h0 : n = 0
    · obtain ⟨ao, cap, rfl⟩ := FRow.shape h
      obtain ⟨ao', cap', rfl⟩ := FRow.shape h'
      subst h0
      rw [sameL_all (by omega) (fun i hi => by omega)]
      clear h h' l1 l2 hn hn'
      go_enter Try.func74, Try.ntmps74
      go_wp2
      go_loop [5] (fun i => i = .int .i64 0) (fun _ => 0)
      case atStart => rfl
      case round =>
        subst hrel
        go_wp2
        go_ret
        exact ⟨rfl, 0, rfl⟩
    · have hz := FRow.lt h
      have hy := FRow.lt h'
      rcases h.2.2.2 with ⟨h0', _⟩ | ⟨_, b, off, cap, hv, hc, hm, hlt0, hcell⟩
      · omega
      rcases h'.2.2.2 with ⟨h0', _⟩ | ⟨_, b', off', cap', hv', hc', hm', hlt0', hcell'⟩
      · omega
      subst hv hv'
      clear h h'
      generalize hA : sameL zs ys = A
      have HA : Hid _ := hA
      clear hA
      go_enter Try.func74, Try.ntmps74
      go_wp2
      go_loopw [5] (fun i wr => ∃ k : Nat, k ≤ n ∧ i = .int .i64 k ∧ Hid (∀ j, j < k → sameB (zs.getD j 0) (ys.getD j 0) = true) ∧ ∃ m, wr = w.drewN m) (fun i _ => n - (intOf i).toNat)
      case atStart => exact ⟨0, Nat.zero_le _, rfl, fun j hj => by omega, 0, rfl⟩
      case round =>
        obtain ⟨k, hk, rfl, hall, m, hwr⟩ := hrel
        have HW : Hid (∃ m, wr = w.drewN m) := ⟨m, hwr⟩
        by_cases hlt : k < n
        · have g1 : wr.cell? ⟨b, off + k, none⟩ = some (.float .f32 (zs.getD k 0)) := by rw [hwr]; exact hcell k hlt
          have g2 : wr.cell? ⟨b', off' + k, none⟩ = some (.float .f32 (ys.getD k 0)) := by rw [hwr]; exact hcell' k hlt
          have i0 : (0 : Int) ≤ (k : Int) := Int.natCast_nonneg _
          have i1 : (k : Int) < (n : Int) := by omega
          have HC : Hid (∀ w, Calls Try.prog 86 #[.float .f32 (zs.getD k 0), .float .f32 (ys.getD k 0)] w fun e w' => e = .returned (.bool (sameB (zs.getD k 0) (ys.getD k 0))) ∧ w' = w) := fun w => l01Same_any _ _ w (hz k hlt) (hy k hlt)
          cases hf : sameB (zs.getD k 0) (ys.getD k 0) with
          | true =>
            rw [hf] at HC
            have HS : Hid (∀ j, j < k + 1 → sameB (zs.getD j 0) (ys.getD j 0) = true) := fun j hj => by
              by_cases e : j = k
              · rw [e]; exact hf
              · exact hall.out j (by omega)
            clear hcell hcell' hwr hz hy hf hall
            generalize zs.getD k 0 = z at *
            generalize ys.getD k 0 = y at *
            go_wp2
            go_quiet ((go_at_call 86; exact Calls.quiet_of_same (HC.out _)))
            go_wp2
            go_roundw
            case rel => exact ⟨k + 1, by omega, by go_num, HS, by repeat (first | exact HW.out | refine drewN_ex ?_ _ | refine drew_ex ?_)⟩
            case measure => simp [intOf]; omega
          | false =>
            rw [hf] at HC
            have hA' : A = false := HA.out.symm.trans (sameL_bad (by omega) hf)
            subst hA'
            clear hcell hcell' hwr hz hy hf hall HA
            generalize zs.getD k 0 = z at *
            generalize ys.getD k 0 = y at *
            go_wp2
            go_quiet ((go_at_call 86; exact Calls.quiet_of_same (HC.out _)))
            go_wp2
            go_ret
            exact ⟨rfl, by repeat (first | exact HW.out | refine drewN_ex ?_ _ | refine drew_ex ?_)⟩
        · obtain rfl : k = n := by omega
          have hA' : A = true := by rw [← HA.out]; exact sameL_all (by omega) (fun i hi => hall.out i (by omega))
          subst hA'
          clear hcell hcell' hwr hz hy HA hall
          go_wp2
          go_ret
          exact ⟨rfl, HW.out⟩
  · obtain ⟨ao, cap, rfl⟩ := FRow.shape h
    obtain ⟨ao', cap', rfl⟩ := FRow.shape h'
    rw [sameL_len (by rw [h.1, h'.1]; exact hnn)]
    have hne : ((n : Int) != (n' : Int)) = true := by rw [bne_iff_ne]; omega
    clear h h'
    go_enter Try.func74, Try.ntmps74
    go_wp2
    go_ret
    exact ⟨rfl, 0, rfl⟩

set_option maxHeartbeats 1000000 in
theorem sameAll_impl (v v' : Value) (n n' : Nat) (zs ys : List Nat) (w : World) (h : FRow w v n zs) (h' : FRow w v' n' ys) (hn : n ≤ 1048576) (hn' : n' ≤ 1048576) : Calls Try.prog 55 #[v, v'] w fun e w' => e = .returned (.bool (sameL zs ys)) ∧ ∃ m, w' = w.drewN m := by
  by_cases hnn : n = n'
  · subst hnn
    have l1 := h.1
    have l2 := h'.1
    by_cases h0 : n = 0
    · obtain ⟨ao, cap, rfl⟩ := FRow.shape h
      obtain ⟨ao', cap', rfl⟩ := FRow.shape h'
      subst h0
      rw [sameL_all (by omega) (fun i hi => by omega)]
      clear h h' l1 l2 hn hn'
      go_enter Try.func55, Try.ntmps55
      go_wp2_with go_in
      go_loop [17] (fun i => i = .int .i64 0) (fun _ => 0)
      case atStart => rfl
      case round =>
        subst hrel
        go_wp2_with go_in
        go_ret
        exact ⟨rfl, 0, rfl⟩
    · have hz := FRow.lt h
      have hy := FRow.lt h'
      rcases h.2.2.2 with ⟨h0', _⟩ | ⟨_, b, off, cap, hv, hc, hm, hlt0, hcell⟩
      · omega
      rcases h'.2.2.2 with ⟨h0', _⟩ | ⟨_, b', off', cap', hv', hc', hm', hlt0', hcell'⟩
      · omega
      subst hv hv'
      clear h h'
      generalize hA : sameL zs ys = A
      have HA : Hid _ := hA
      clear hA
      go_enter Try.func55, Try.ntmps55
      go_wp2_with go_in
      go_loopw [17] (fun i wr => ∃ k : Nat, k ≤ n ∧ i = .int .i64 k ∧ Hid (∀ j, j < k → sameB (zs.getD j 0) (ys.getD j 0) = true) ∧ ∃ m, wr = w.drewN m) (fun i _ => n - (intOf i).toNat)
      case atStart => exact ⟨0, Nat.zero_le _, rfl, fun j hj => by omega, 0, rfl⟩
      case round =>
        obtain ⟨k, hk, rfl, hall, m, hwr⟩ := hrel
        have HW : Hid (∃ m, wr = w.drewN m) := ⟨m, hwr⟩
        by_cases hlt : k < n
        · have g1 : wr.cell? ⟨b, off + k, none⟩ = some (.float .f32 (zs.getD k 0)) := by rw [hwr]; exact hcell k hlt
          have g2 : wr.cell? ⟨b', off' + k, none⟩ = some (.float .f32 (ys.getD k 0)) := by rw [hwr]; exact hcell' k hlt
          have HC : Hid (∀ w, Calls Try.prog 76 #[.float .f32 (zs.getD k 0), .float .f32 (ys.getD k 0)] w fun e w' => e = .returned (.bool (sameB (zs.getD k 0) (ys.getD k 0))) ∧ ∃ m, w' = w.drewN m) := fun w => sameNum_impl _ _ w (hz k hlt) (hy k hlt)
          cases hf : sameB (zs.getD k 0) (ys.getD k 0) with
          | true =>
            rw [hf] at HC
            have HS : Hid (∀ j, j < k + 1 → sameB (zs.getD j 0) (ys.getD j 0) = true) := fun j hj => by
              by_cases e : j = k
              · rw [e]; exact hf
              · exact hall.out j (by omega)
            clear hcell hcell' hwr hz hy hf hall
            generalize zs.getD k 0 = z at *
            generalize ys.getD k 0 = y at *
            go_wp2_with (first | (go_at_call 76; refine (HC.out _).mono ?_; rintro e w' ⟨rfl, m, rfl⟩) | go_in)
            go_roundw
            case rel => exact ⟨k + 1, by omega, by go_num, HS, by repeat (first | exact HW.out | refine drewN_ex ?_ _)⟩
            case measure => simp [intOf]; omega
          | false =>
            rw [hf] at HC
            have hA' : A = false := HA.out.symm.trans (sameL_bad (by omega) hf)
            subst hA'
            clear hcell hcell' hwr hz hy hf hall HA
            generalize zs.getD k 0 = z at *
            generalize ys.getD k 0 = y at *
            go_wp2_with (first | (go_at_call 76; refine (HC.out _).mono ?_; rintro e w' ⟨rfl, m, rfl⟩) | go_in)
            go_ret
            exact ⟨rfl, by repeat (first | exact HW.out | refine drewN_ex ?_ _)⟩
        · obtain rfl : k = n := by omega
          have hA' : A = true := by rw [← HA.out]; exact sameL_all (by omega) (fun i hi => hall.out i (by omega))
          subst hA'
          clear hcell hcell' hwr hz hy HA hall
          go_wp2_with go_in
          go_ret
          exact ⟨rfl, HW.out⟩
  · obtain ⟨ao, cap, rfl⟩ := FRow.shape h
    obtain ⟨ao', cap', rfl⟩ := FRow.shape h'
    rw [sameL_len (by rw [h.1, h'.1]; exact hnn)]
    have hne : ((n : Int) != (n' : Int)) = true := by rw [bne_iff_ne]; omega
    clear h h'
    go_enter Try.func55, Try.ntmps55
    go_wp2_with go_in
    go_ret
    exact ⟨rfl, 0, rfl⟩

end Go.Proofs.Yteblbalciemkiaa
