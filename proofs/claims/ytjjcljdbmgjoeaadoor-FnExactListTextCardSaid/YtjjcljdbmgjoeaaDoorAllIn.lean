/- Contracts of the tests whether all numbers of a list are within bounds. -/
import Derived.Test.YtjjcljdbmgjoeaaDoorIVec
import Derived.Test.YtjjcljdbmgjoeaaDoorRead
namespace Go.Proofs.YtjjcljdbmgjoeaaDoor
open Go.RowKit Opn

def inB (z : Int) : Bool := decide (-1000000000000000 ≤ z ∧ z ≤ 1000000000000000)
def allI (zs : List Int) : Bool := zs.all inB

theorem allI_bad {zs : List Int} {k : Nat} (hk : k < zs.length) (h : inB (zs.getD k 0) = false) : allI zs = false := by
  unfold allI
  rw [List.all_eq_false]
  refine ⟨zs[k], List.getElem_mem _, ?_⟩
  have : zs.getD k 0 = zs[k] := by simp [List.getD, hk]
  rw [← this, h]; simp
theorem allI_step {zs : List Int} {k : Nat} (hk : k < zs.length) (h : allI (zs.take k) = true) (h' : inB (zs.getD k 0) = true) : allI (zs.take (k + 1)) = true := by
  unfold allI at *
  rw [List.take_succ_eq_append_getElem hk, List.all_append, h]
  have : zs.getD k 0 = zs[k] := by simp [List.getD, hk]
  rw [this] at h'
  simp [h']

set_option maxHeartbeats 1000000 in
theorem allI_spec (v : Value) (n : Nat) (zs : List Int) (w : World) (h : IRow .i64 w v n zs) (hn : n ≤ 1048576) : Calls Tryd.prog 26 #[v] w fun e w' => e = .returned (.bool (allI zs && decide (n ≤ 64))) ∧ ∃ m, w' = w.drewN m := by
  obtain ⟨h1, h2, h3, h4⟩ := h
  clear h3
  rcases h4 with ⟨h0, ao, cap, hv⟩ | ⟨h0, b, off, cap, hv, hc, hm, hlt, hcell⟩
  · subst hv
    have hz : zs = [] := List.eq_nil_of_length_eq_zero (by omega)
    subst hz h0
    clear h1
    have ha : (allI [] && decide (0 ≤ 64)) = true := rfl
    rw [ha]
    clear ha
    go_enter Tryd.func26, Tryd.ntmps26
    go_wp2
    go_loop [3] (fun i => i = .int .i64 0) (fun _ => 0)
    case atStart => rfl
    case round =>
      subst hrel
      go_wp2
      go_ret
      exact ⟨rfl, 0, rfl⟩
  · subst hv
    generalize hA : allI zs = A
    have HA : Hid _ := hA
    clear hA
    go_enter Tryd.func26, Tryd.ntmps26
    go_wp2
    go_loopw [3] (fun i wr => ∃ k : Nat, k ≤ n ∧ i = .int .i64 k ∧ Hid (allI (zs.take k) = true) ∧ ∃ m, wr = w.drewN m) (fun i _ => n - (intOf i).toNat)
    case atStart => exact ⟨0, Nat.zero_le _, rfl, rfl, 0, rfl⟩
    case round =>
      obtain ⟨k, hk, rfl, hall, m, hwr⟩ := hrel
      have HW : Hid (∃ m, wr = w.drewN m) := ⟨m, hwr⟩
      by_cases hlt : k < n
      · have g1 : wr.cell? ⟨b, off + k, none⟩ = some (.int .i64 (zs.getD k 0)) := by rw [hwr]; exact hcell k hlt
        clear hcell hwr
        cases hf : inB (zs.getD k 0) with
        | true =>
          have HS : Hid _ := allI_step (by omega) hall.out hf
          generalize zs.getD k 0 = z at *
          have hf' : decide (-1000000000000000 ≤ z ∧ z ≤ 1000000000000000) = true := hf
          go_wp2_with (first | (go_at_call 31; refine (in_spec _ _ _ _).mono ?_; rw [hf']; rintro e w' ⟨rfl, rfl⟩))
          go_roundw
          case rel => exact ⟨k + 1, by omega, by go_num, HS, by repeat (first | exact HW.out | refine drewN_exI ?_ _)⟩
          case measure => simp [intOf]; omega
        | false =>
          have HS : Hid _ := allI_bad (by omega) hf
          have hA' : A = false := HA.out.symm.trans HS.out
          subst hA'
          generalize zs.getD k 0 = z at *
          have hf' : decide (-1000000000000000 ≤ z ∧ z ≤ 1000000000000000) = false := hf
          go_wp2_with (first | (go_at_call 31; refine (in_spec _ _ _ _).mono ?_; rw [hf']; rintro e w' ⟨rfl, rfl⟩))
          go_ret
          exact ⟨rfl, by repeat (first | exact HW.out | refine drewN_exI ?_ _)⟩
      · obtain rfl : k = n := by omega
        have hA' : A = true := by rw [← HA.out]; have := hall.out; rwa [List.take_of_length_le (by omega)] at this
        subst hA'
        clear hcell hwr
        have hd : decide ((k : Int) ≤ 64) = decide (k ≤ 64) := decide_eq_decide.2 (by omega)
        go_wp2
        go_ret
        exact ⟨by first | rfl | (rw [Bool.true_and, ← hd]; rfl) | simp, HW.out⟩

set_option maxHeartbeats 1000000 in
theorem allI_impl (v : Value) (n : Nat) (zs : List Int) (w : World) (h : IRow .i64 w v n zs) (hn : n ≤ 1048576) : Calls Tryd.prog 28 #[v, .int .i64 (-1000000000000000), .int .i64 1000000000000000] w fun e w' => e = .returned (.bool (allI zs)) ∧ Below w.heap.size w w' := by
  obtain ⟨h1, h2, h3, h4⟩ := h
  clear h3
  rcases h4 with ⟨h0, ao, cap, hv⟩ | ⟨h0, b, off, cap, hv, hc, hm, hlt, hcell⟩
  · subst hv
    have hz : zs = [] := List.eq_nil_of_length_eq_zero (by omega)
    subst hz h0
    clear h1
    have ha : allI [] = true := rfl
    rw [ha]
    clear ha
    go_enter Tryd.func28, Tryd.ntmps28
    go_wp2_with go_in
    go_loop [8] (fun i => i = .int .i64 0) (fun _ => 0)
    case atStart => rfl
    case round =>
      subst hrel
      go_wp2_with go_in
      go_ret
      exact ⟨rfl, by go_grown⟩
  · subst hv
    generalize hA : allI zs = A
    have HA : Hid _ := hA
    clear hA
    go_enter Tryd.func28, Tryd.ntmps28
    go_wp2_with go_in
    obtain ⟨W, hW⟩ : ∃ W, W = ((w.alloc (Obj.cells #[Value.int IntKind.i64 (-1000000000000000)] 2)).alloc (Obj.cells #[Value.int IntKind.i64 1000000000000000] 2)) := ⟨_, rfl⟩
    have e0 : (w.alloc (Obj.cells #[Value.int IntKind.i64 (-1000000000000000)] 2)).heap.size = w.heap.size + 1 := Array.size_push ..
    have q1 : W.cell? ⟨w.heap.size, 0, none⟩ = some (.int .i64 (-1000000000000000)) := by
      rw [hW, ((Below.refl _ _).alloc (Nat.le_refl _) _).cell (p := ⟨w.heap.size, 0, none⟩) (by rw [e0]; exact Nat.lt_succ_self _)]
      rw [cell_of_row _ _ 0 _ _ _ (heap_alloc_new w _)]; rfl
    have q2 : W.cell? ⟨w.heap.size + 1, 0, none⟩ = some (.int .i64 1000000000000000) := by
      have h := heap_alloc_new (w.alloc (Obj.cells #[Value.int IntKind.i64 (-1000000000000000)] 2)) (Obj.cells #[Value.int IntKind.i64 1000000000000000] 2)
      rw [e0] at h
      rw [hW, cell_of_row _ _ 0 _ _ _ h]; rfl
    have hBW : Below w.heap.size w W := by rw [hW]; go_grown
    have hcW : ∀ i, i < n → W.cell? ⟨b, off + i, none⟩ = some (.int .i64 (zs.getD i 0)) := fun i hi => by
      rw [hBW.cell (p := ⟨b, off + i, none⟩) hlt]; exact hcell i hi
    rw [← hW]
    clear hW e0 hcell
    go_loopw [5, 8] (fun _i is wr => ∃ k : Nat, k ≤ n ∧ is = .int .i64 k ∧ Hid (allI (zs.take k) = true) ∧ ∃ m, wr = W.drewN m) (fun _ is _ => n - (intOf is).toNat)
    case atStart => exact ⟨0, Nat.zero_le _, rfl, rfl, 0, rfl⟩
    case round =>
      obtain ⟨k, hk, rfl, hall, m, hwr⟩ := hrel
      have HW : Hid (∃ m, wr = W.drewN m) := ⟨m, hwr⟩
      have HBB : ∀ x : World, Hid (∃ m, x = W.drewN m) → Below w.heap.size w x := fun x hx => by
        obtain ⟨m, rfl⟩ := hx.out
        exact hBW.trans ⟨rfl, rfl, rfl, Nat.le_refl _, fun _ _ => rfl⟩
      have r1 : wr.cell? ⟨w.heap.size, 0, none⟩ = some (.int .i64 (-1000000000000000)) := by rw [hwr]; exact q1
      have r2 : wr.cell? ⟨w.heap.size + 1, 0, none⟩ = some (.int .i64 1000000000000000) := by rw [hwr]; exact q2
      by_cases hlt : k < n
      · have g1 : wr.cell? ⟨b, off + k, none⟩ = some (.int .i64 (zs.getD k 0)) := by rw [hwr]; exact hcW k hlt
        clear hcW hwr q1 q2
        cases hf : inB (zs.getD k 0) with
        | true =>
          have HS : Hid _ := allI_step (by omega) hall.out hf
          generalize zs.getD k 0 = z at *
          have hf' : decide (-1000000000000000 ≤ z ∧ z ≤ 1000000000000000) = true := hf
          go_wp2_with (first | (go_at_call 23; refine (in_impl _ _ _ _).mono ?_; rw [hf']; rintro e w' ⟨rfl, rfl⟩) | go_in)
          go_roundw
          case rel => exact ⟨k + 1, by omega, by go_num, HS, by repeat (first | exact HW.out | refine drewN_exI ?_ _)⟩
          case measure => simp [intOf]; omega
        | false =>
          have HS : Hid _ := allI_bad (by omega) hf
          have hA' : A = false := HA.out.symm.trans HS.out
          subst hA'
          generalize zs.getD k 0 = z at *
          have hf' : decide (-1000000000000000 ≤ z ∧ z ≤ 1000000000000000) = false := hf
          go_wp2_with (first | (go_at_call 23; refine (in_impl _ _ _ _).mono ?_; rw [hf']; rintro e w' ⟨rfl, rfl⟩) | go_in)
          go_ret
          exact ⟨rfl, HBB _ (by repeat (first | exact HW.out | refine drewN_exI ?_ _))⟩
      · obtain rfl : k = n := by omega
        have hA' : A = true := by rw [← HA.out]; have := hall.out; rwa [List.take_of_length_le (by omega)] at this
        subst hA'
        clear hcW hwr q1 q2
        go_wp2_with go_in
        go_ret
        exact ⟨rfl, HBB _ HW⟩

end Go.Proofs.YtjjcljdbmgjoeaaDoor
