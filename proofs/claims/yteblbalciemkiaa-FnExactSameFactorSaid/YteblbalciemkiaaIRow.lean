/- Contracts of the sameness of two rows of int64 on both sides. -/
import Derived.Test.YteblbalciemkiaaIVec
namespace Go.Proofs.Yteblbalciemkiaa
open Go.RowKit Opn

theorem IRow.shape {w : World} {v : Value} {n : Nat} {zs : List Int} (h : IRow .i64 w v n zs) : ∃ ao cap, v = .slice ao n cap := by
  rcases h.2.2.2 with ⟨h0, ao, cap, hv⟩ | ⟨h0, b, off, cap, hv, _⟩
  · exact ⟨ao, cap, by rw [hv, h0]⟩
  · exact ⟨_, cap, hv⟩

theorem ext_getD {zs ys : List Int} (h : zs.length = ys.length) (ha : ∀ i, i < zs.length → zs.getD i 0 = ys.getD i 0) : zs = ys := by
  apply List.ext_getElem h
  intro i h1 h2
  have := ha i h1
  simpa [List.getD, h1, h2] using this

set_option maxHeartbeats 1000000 in
theorem sameI_spec (v v' : Value) (n n' : Nat) (zs ys : List Int) (w : World) (h : IRow .i64 w v n zs) (h' : IRow .i64 w v' n' ys) (_ : n ≤ 1048576) (_ : n' ≤ 1048576) : Calls Try.prog 61 #[v, v'] w fun e w' => e = .returned (.bool (decide (zs = ys))) ∧ ∃ m, w' = w.drewN m := by
  by_cases hnn : n = n'
  · subst hnn
    have l1 := h.1
    have l2 := h'.1
    by_cases h0 : n = 0
    · obtain ⟨ao, cap, rfl⟩ := IRow.shape h
      obtain ⟨ao', cap', rfl⟩ := IRow.shape h'
      subst h0
      rw [decide_eq_true (by rw [List.eq_nil_of_length_eq_zero l1, List.eq_nil_of_length_eq_zero l2])]
      clear h h' l1 l2
      go_enter Try.func61, Try.ntmps61
      go_wp2
      go_loop [5] (fun i => i = .int .i64 0) (fun _ => 0)
      case atStart => rfl
      case round =>
        subst hrel
        go_wp2
        go_ret
        exact ⟨rfl, 0, rfl⟩
    · rcases h.2.2.2 with ⟨h0', _⟩ | ⟨_, b, off, cap, hv, hc, hm, hlt0, hcell⟩
      · omega
      rcases h'.2.2.2 with ⟨h0', _⟩ | ⟨_, b', off', cap', hv', hc', hm', hlt0', hcell'⟩
      · omega
      subst hv hv'
      clear h h'
      generalize hA : decide (zs = ys) = A
      have HA : Hid _ := hA
      clear hA
      go_enter Try.func61, Try.ntmps61
      go_wp2
      go_loopw [5] (fun i wr => ∃ k : Nat, k ≤ n ∧ i = .int .i64 k ∧ Hid (∀ j, j < k → zs.getD j 0 = ys.getD j 0) ∧ ∃ m, wr = w.drewN m) (fun i _ => n - (intOf i).toNat)
      case atStart => exact ⟨0, Nat.zero_le _, rfl, fun j hj => by omega, 0, rfl⟩
      case round =>
        obtain ⟨k, hk, rfl, hall, m, hwr⟩ := hrel
        have HW : Hid (∃ m, wr = w.drewN m) := ⟨m, hwr⟩
        by_cases hlt : k < n
        · have g1 : wr.cell? ⟨b, off + k, none⟩ = some (.int .i64 (zs.getD k 0)) := by rw [hwr]; exact hcell k hlt
          have g2 : wr.cell? ⟨b', off' + k, none⟩ = some (.int .i64 (ys.getD k 0)) := by rw [hwr]; exact hcell' k hlt
          have i0 : (0 : Int) ≤ (k : Int) := Int.natCast_nonneg _
          have i1 : (k : Int) < (n : Int) := by omega
          by_cases hf : zs.getD k 0 = ys.getD k 0
          · have HS : Hid (∀ j, j < k + 1 → zs.getD j 0 = ys.getD j 0) := fun j hj => by
              by_cases e : j = k
              · rw [e]; exact hf
              · exact hall.out j (by omega)
            have hb : (zs.getD k 0 != ys.getD k 0) = false := by rw [bne, beq_iff_eq.2 hf]; rfl
            clear hcell hcell' hwr hall hf
            generalize zs.getD k 0 = z at *
            generalize ys.getD k 0 = y at *
            go_wp2
            go_quiet (fail)
            go_wp2
            go_roundw
            case rel => exact ⟨k + 1, by omega, by go_num, HS, by repeat (first | exact HW.out | refine drewN_exI ?_ _)⟩
            case measure => simp [intOf]; omega
          · have hA' : A = false := HA.out.symm.trans (decide_eq_false (fun e => hf (by rw [e])))
            subst hA'
            have hb : (zs.getD k 0 != ys.getD k 0) = true := bne_iff_ne.2 hf
            clear hcell hcell' hwr hall hf HA
            generalize zs.getD k 0 = z at *
            generalize ys.getD k 0 = y at *
            go_wp2
            go_quiet (fail)
            go_wp2
            go_ret
            exact ⟨rfl, by repeat (first | exact HW.out | refine drewN_exI ?_ _)⟩
        · obtain rfl : k = n := by omega
          have hA' : A = true := by rw [← HA.out]; exact decide_eq_true (ext_getD (by omega) (fun i hi => hall.out i (by omega)))
          subst hA'
          clear hcell hcell' hwr HA hall
          go_wp2
          go_ret
          exact ⟨rfl, HW.out⟩
  · obtain ⟨ao, cap, rfl⟩ := IRow.shape h
    obtain ⟨ao', cap', rfl⟩ := IRow.shape h'
    rw [decide_eq_false (fun e => hnn (by rw [← h.1, ← h'.1, e]))]
    have hne : ((n : Int) != (n' : Int)) = true := by rw [bne_iff_ne]; omega
    clear h h'
    go_enter Try.func61, Try.ntmps61
    go_wp2
    go_ret
    exact ⟨rfl, 0, rfl⟩

set_option maxHeartbeats 1000000 in
theorem sameI_impl (v v' : Value) (n n' : Nat) (zs ys : List Int) (w : World) (h : IRow .i64 w v n zs) (h' : IRow .i64 w v' n' ys) (_ : n ≤ 1048576) (_ : n' ≤ 1048576) : Calls Try.prog 63 #[v, v'] w fun e w' => e = .returned (.bool (decide (zs = ys))) ∧ ∃ m, w' = w.drewN m := by
  by_cases hnn : n = n'
  · subst hnn
    have l1 := h.1
    have l2 := h'.1
    by_cases h0 : n = 0
    · obtain ⟨ao, cap, rfl⟩ := IRow.shape h
      obtain ⟨ao', cap', rfl⟩ := IRow.shape h'
      subst h0
      rw [decide_eq_true (by rw [List.eq_nil_of_length_eq_zero l1, List.eq_nil_of_length_eq_zero l2])]
      clear h h' l1 l2
      go_enter Try.func63, Try.ntmps63
      go_wp2
      go_loop [13] (fun i => i = .int .i64 0) (fun _ => 0)
      case atStart => rfl
      case round =>
        subst hrel
        go_wp2
        go_ret
        exact ⟨rfl, 0, rfl⟩
    · rcases h.2.2.2 with ⟨h0', _⟩ | ⟨_, b, off, cap, hv, hc, hm, hlt0, hcell⟩
      · omega
      rcases h'.2.2.2 with ⟨h0', _⟩ | ⟨_, b', off', cap', hv', hc', hm', hlt0', hcell'⟩
      · omega
      subst hv hv'
      clear h h'
      generalize hA : decide (zs = ys) = A
      have HA : Hid _ := hA
      clear hA
      go_enter Try.func63, Try.ntmps63
      go_wp2
      go_loopw [13] (fun i wr => ∃ k : Nat, k ≤ n ∧ i = .int .i64 k ∧ Hid (∀ j, j < k → zs.getD j 0 = ys.getD j 0) ∧ ∃ m, wr = w.drewN m) (fun i _ => n - (intOf i).toNat)
      case atStart => exact ⟨0, Nat.zero_le _, rfl, fun j hj => by omega, 0, rfl⟩
      case round =>
        obtain ⟨k, hk, rfl, hall, m, hwr⟩ := hrel
        have HW : Hid (∃ m, wr = w.drewN m) := ⟨m, hwr⟩
        by_cases hlt : k < n
        · have g1 : wr.cell? ⟨b, off + k, none⟩ = some (.int .i64 (zs.getD k 0)) := by rw [hwr]; exact hcell k hlt
          have g2 : wr.cell? ⟨b', off' + k, none⟩ = some (.int .i64 (ys.getD k 0)) := by rw [hwr]; exact hcell' k hlt
          have i0 : (0 : Int) ≤ (k : Int) := Int.natCast_nonneg _
          have i1 : (k : Int) < (n : Int) := by omega
          by_cases hf : zs.getD k 0 = ys.getD k 0
          · have HS : Hid (∀ j, j < k + 1 → zs.getD j 0 = ys.getD j 0) := fun j hj => by
              by_cases e : j = k
              · rw [e]; exact hf
              · exact hall.out j (by omega)
            have hb : (zs.getD k 0 != ys.getD k 0) = false := by rw [bne, beq_iff_eq.2 hf]; rfl
            clear hcell hcell' hwr hall hf
            generalize zs.getD k 0 = z at *
            generalize ys.getD k 0 = y at *
            go_wp2
            go_quiet (fail)
            go_wp2
            go_roundw
            case rel => exact ⟨k + 1, by omega, by go_num, HS, by repeat (first | exact HW.out | refine drewN_exI ?_ _)⟩
            case measure => simp [intOf]; omega
          · have hA' : A = false := HA.out.symm.trans (decide_eq_false (fun e => hf (by rw [e])))
            subst hA'
            have hb : (zs.getD k 0 != ys.getD k 0) = true := bne_iff_ne.2 hf
            clear hcell hcell' hwr hall hf HA
            generalize zs.getD k 0 = z at *
            generalize ys.getD k 0 = y at *
            go_wp2
            go_quiet (fail)
            go_wp2
            go_ret
            exact ⟨rfl, by repeat (first | exact HW.out | refine drewN_exI ?_ _)⟩
        · obtain rfl : k = n := by omega
          have hA' : A = true := by rw [← HA.out]; exact decide_eq_true (ext_getD (by omega) (fun i hi => hall.out i (by omega)))
          subst hA'
          clear hcell hcell' hwr HA hall
          go_wp2
          go_ret
          exact ⟨rfl, HW.out⟩
  · obtain ⟨ao, cap, rfl⟩ := IRow.shape h
    obtain ⟨ao', cap', rfl⟩ := IRow.shape h'
    rw [decide_eq_false (fun e => hnn (by rw [← h.1, ← h'.1, e]))]
    have hne : ((n : Int) != (n' : Int)) = true := by rw [bne_iff_ne]; omega
    clear h h'
    go_enter Try.func63, Try.ntmps63
    go_wp2
    go_ret
    exact ⟨rfl, 0, rfl⟩

end Go.Proofs.Yteblbalciemkiaa
