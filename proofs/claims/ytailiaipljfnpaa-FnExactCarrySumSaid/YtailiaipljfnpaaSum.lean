/- Contracts of the sums of float32 slices and of the sums of their products. -/
import Derived.Test.YtailiaipljfnpaaVec
namespace Go.Proofs.Ytailiaipljfnpaa
open Go.RowKit Opn

/-- the class of the sum from left to right -/
def sumF (zs : List Nat) : Option Nat := zs.foldl (fun s z => Flt.fop .add .f32 s (Flt.cls .f32 z)) (some 0)
/-- the class of the sum of products -/
def dotF (zs ys : List Nat) : Option Nat := (zs.zip ys).foldl (fun s p => Flt.fop .add .f32 s (Flt.fop .mul .f32 (Flt.cls .f32 p.1) (Flt.cls .f32 p.2))) (some 0)

theorem take_one {α : Type} (l : List α) (k : Nat) (d : α) (h : k < l.length) : l.take (k + 1) = l.take k ++ [l.getD k d] := by
  rw [List.take_succ_eq_append_getElem h]; simp [List.getD, h]

theorem sumF_step {zs : List Nat} {k r : Nat} (hk : k < zs.length) (hr : Flt.Fl .f32 (sumF (zs.take k)) r) (w : World) : Flt.Fl .f32 (sumF (zs.take (k + 1))) (Flt.fB .add .f32 r (zs.getD k 0) w) := by
  have := Flt.fB_Fl .add .f32 r (zs.getD k 0) w
  rw [hr.cls] at this
  rw [take_one zs k 0 hk]
  unfold sumF at *
  rw [List.foldl_append]
  exact this

theorem zip_one {zs ys : List Nat} {k : Nat} (hk : k < zs.length) (hk' : k < ys.length) : (zs.take (k + 1)).zip (ys.take (k + 1)) = (zs.take k).zip (ys.take k) ++ [(zs.getD k 0, ys.getD k 0)] := by
  rw [take_one zs k 0 hk, take_one ys k 0 hk', List.zip_append (by simp; omega)]
  rfl

theorem dotF_step {zs ys : List Nat} {k r p : Nat} (hk : k < zs.length) (hk' : k < ys.length) (hr : Flt.Fl .f32 (dotF (zs.take k) (ys.take k)) r) (hp : Flt.Fl .f32 (Flt.fop .mul .f32 (Flt.cls .f32 (zs.getD k 0)) (Flt.cls .f32 (ys.getD k 0))) p) (w : World) :
    Flt.Fl .f32 (dotF (zs.take (k + 1)) (ys.take (k + 1))) (Flt.fB .add .f32 r p w) := by
  have := Flt.fB_Fl .add .f32 r p w
  rw [hr.cls, hp.cls] at this
  unfold dotF at *
  rw [zip_one hk hk', List.foldl_append]
  exact this

theorem fl_zero : Flt.Fl .f32 (some 0) 0 := ⟨by decide, by decide⟩

set_option maxHeartbeats 400000 in
theorem sum_spec (v : Value) (n : Nat) (zs : List Nat) (w : World) (h : FRow w v n zs) (hn : n ≤ 1048576) : Calls Try.prog 28 #[v] w fun e w' => ∃ r, e = .returned (.float .f32 r) ∧ Flt.Fl .f32 (sumF zs) r ∧ ∃ m, w' = w.drewN m := by
  obtain ⟨h1, h2, h3, h4⟩ := h
  clear h3
  rcases h4 with ⟨h0, ao, cap, hv⟩ | ⟨h0, b, off, cap, hv, hc, hm, hlt, hcell⟩
  · subst hv
    have hz : zs = [] := List.eq_nil_of_length_eq_zero (by omega)
    subst hz h0
    clear h1
    go_enter Try.func28, Try.ntmps28
    go_wp2
    go_loop [3, 4] (fun s i => s = .float .f32 0 ∧ i = .int .i64 0) (fun _ _ => 0)
    case atStart => exact ⟨rfl, rfl⟩
    case round =>
      obtain ⟨rfl, rfl⟩ := hrel
      go_wp2
      go_ret
      exact ⟨0, rfl, fl_zero, 0, rfl⟩
  · subst hv
    go_enter Try.func28, Try.ntmps28
    go_wp2
    go_loopw [3, 4] (fun s i wr => ∃ k r : Nat, k ≤ n ∧ i = .int .i64 k ∧ s = .float .f32 r ∧ Flt.Fl .f32 (sumF (zs.take k)) r ∧ ∃ m, wr = w.drewN m) (fun _ i _ => n - (intOf i).toNat)
    case atStart => exact ⟨0, 0, Nat.zero_le _, rfl, rfl, fl_zero, 0, rfl⟩
    case round =>
      obtain ⟨k, r, hk, rfl, rfl, hr, m, hwr⟩ := hrel
      have HW : Hid (∃ m, wr = w.drewN m) := ⟨m, hwr⟩
      by_cases hlt : k < n
      · have g1 : wr.cell? ⟨b, off + k, none⟩ = some (.float .f32 (zs.getD k 0)) := by rw [hwr]; exact hcell k hlt
        have HS : Hid (∀ w', Flt.Fl .f32 (sumF (zs.take (k + 1))) (Flt.fB .add .f32 r (zs.getD k 0) w')) := fun w' => sumF_step (by omega) hr w'
        clear hcell hwr hr
        generalize zs.getD k 0 = z at *
        go_wp2
        go_roundw
        case rel => exact ⟨k + 1, _, by omega, by go_num, rfl, HS.out _, drewN_ex HW.out _⟩
        case measure => simp [intOf]; omega
      · obtain rfl : k = n := by omega
        have HR : Hid _ := hr
        clear hcell hwr hr
        go_wp2
        go_ret
        exact ⟨r, rfl, by have := HR.out; rwa [List.take_of_length_le (by omega)] at this, HW.out⟩

set_option maxHeartbeats 400000 in
theorem sum_impl (v : Value) (n : Nat) (zs : List Nat) (w : World) (h : FRow w v n zs) (hn : n ≤ 1048576) : Calls Try.prog 30 #[v] w fun e w' => ∃ r, e = .returned (.float .f32 r) ∧ Flt.Fl .f32 (sumF zs) r ∧ ∃ m, w' = w.drewN m := by
  obtain ⟨h1, h2, h3, h4⟩ := h
  clear h3
  rcases h4 with ⟨h0, ao, cap, hv⟩ | ⟨h0, b, off, cap, hv, hc, hm, hlt, hcell⟩
  · subst hv
    have hz : zs = [] := List.eq_nil_of_length_eq_zero (by omega)
    subst hz h0
    clear h1
    go_enter Try.func30, Try.ntmps30
    go_wp2
    go_loop [3, 8] (fun s i => s = .float .f32 0 ∧ i = .int .i64 0) (fun _ _ => 0)
    case atStart => exact ⟨rfl, rfl⟩
    case round =>
      obtain ⟨rfl, rfl⟩ := hrel
      go_wp2
      go_ret
      exact ⟨0, rfl, fl_zero, 0, rfl⟩
  · subst hv
    go_enter Try.func30, Try.ntmps30
    go_wp2
    go_loopw [3, 8] (fun s i wr => ∃ k r : Nat, k ≤ n ∧ i = .int .i64 k ∧ s = .float .f32 r ∧ Flt.Fl .f32 (sumF (zs.take k)) r ∧ ∃ m, wr = w.drewN m) (fun _ i _ => n - (intOf i).toNat)
    case atStart => exact ⟨0, 0, Nat.zero_le _, rfl, rfl, fl_zero, 0, rfl⟩
    case round =>
      obtain ⟨k, r, hk, rfl, rfl, hr, m, hwr⟩ := hrel
      have HW : Hid (∃ m, wr = w.drewN m) := ⟨m, hwr⟩
      by_cases hlt : k < n
      · have g1 : wr.cell? ⟨b, off + k, none⟩ = some (.float .f32 (zs.getD k 0)) := by rw [hwr]; exact hcell k hlt
        have HS : Hid (∀ w', Flt.Fl .f32 (sumF (zs.take (k + 1))) (Flt.fB .add .f32 r (zs.getD k 0) w')) := fun w' => sumF_step (by omega) hr w'
        clear hcell hwr hr
        generalize zs.getD k 0 = z at *
        go_wp2
        go_roundw
        case rel => exact ⟨k + 1, _, by omega, by go_num, rfl, HS.out _, drewN_ex HW.out _⟩
        case measure => simp [intOf]; omega
      · obtain rfl : k = n := by omega
        have HR : Hid _ := hr
        clear hcell hwr hr
        go_wp2
        go_ret
        exact ⟨r, rfl, by have := HR.out; rwa [List.take_of_length_le (by omega)] at this, HW.out⟩

set_option maxHeartbeats 1000000 in
theorem dot_spec (v v' : Value) (n : Nat) (zs ys : List Nat) (w : World) (h : FRow w v n zs) (h' : FRow w v' n ys) (hn : n ≤ 1048576) : Calls Try.prog 31 #[v, v'] w fun e w' => ∃ r, e = .returned (.float .f32 r) ∧ Flt.Fl .f32 (dotF zs ys) r ∧ ∃ m, w' = w.drewN m := by
  obtain ⟨h1, h2, h3, h4⟩ := h
  obtain ⟨h1', h2', h3', h4'⟩ := h'
  clear h3 h3'
  rcases h4 with ⟨h0, ao, cap, hv⟩ | ⟨h0, b, off, cap, hv, hc, hm, hlt, hcell⟩
  · rcases h4' with ⟨h0', ao', cap', hv'⟩ | ⟨h0', _⟩
    · subst hv hv'
      have hz : zs = [] := List.eq_nil_of_length_eq_zero (by omega)
      subst hz h0
      clear h1 h1' h0'
      go_enter Try.func31, Try.ntmps31
      go_wp2
      go_loop [5, 6] (fun s i => s = .float .f32 0 ∧ i = .int .i64 0) (fun _ _ => 0)
      case atStart => exact ⟨rfl, rfl⟩
      case round =>
        obtain ⟨rfl, rfl⟩ := hrel
        go_wp2
        go_ret
        exact ⟨0, rfl, fl_zero, 0, rfl⟩
    · omega
  · rcases h4' with ⟨h0', _⟩ | ⟨h0', b', off', cap', hv', hc', hm', hlt', hcell'⟩
    · omega
    subst hv hv'
    go_enter Try.func31, Try.ntmps31
    go_wp2
    go_loopw [5, 6] (fun s i wr => ∃ k r : Nat, k ≤ n ∧ i = .int .i64 k ∧ s = .float .f32 r ∧ Flt.Fl .f32 (dotF (zs.take k) (ys.take k)) r ∧ ∃ m, wr = w.drewN m) (fun _ i _ => n - (intOf i).toNat)
    case atStart => exact ⟨0, 0, Nat.zero_le _, rfl, rfl, fl_zero, 0, rfl⟩
    case round =>
      obtain ⟨k, r, hk, rfl, rfl, hr, m, hwr⟩ := hrel
      have HW : Hid (∃ m, wr = w.drewN m) := ⟨m, hwr⟩
      by_cases hlt : k < n
      · have g1 : wr.cell? ⟨b, off + k, none⟩ = some (.float .f32 (zs.getD k 0)) := by rw [hwr]; exact hcell k hlt
        have g2 : wr.cell? ⟨b', off' + k, none⟩ = some (.float .f32 (ys.getD k 0)) := by rw [hwr]; exact hcell' k hlt
        have HS : Hid (∀ w' w'', Flt.Fl .f32 (dotF (zs.take (k + 1)) (ys.take (k + 1))) (Flt.fB .add .f32 r (Flt.fB .mul .f32 (zs.getD k 0) (ys.getD k 0) w') w'')) := fun w' w'' => dotF_step (by omega) (by omega) hr (Flt.fB_Fl _ _ _ _ _) w''
        clear hcell hcell' hwr hr
        generalize zs.getD k 0 = z at *
        generalize ys.getD k 0 = y at *
        go_wp2
        go_region
        all_goals
          go_wp2
          go_roundw
          case rel => exact ⟨k + 1, _, by omega, by go_num, rfl, HS.out _ _, by repeat (first | exact HW.out | refine drewN_ex ?_ _ | refine drew_ex ?_)⟩
          case measure => simp [intOf]; omega
      · obtain rfl : k = n := by omega
        have HR : Hid _ := hr
        clear hcell hcell' hwr hr
        go_wp2
        go_ret
        exact ⟨r, rfl, by have := HR.out; rwa [List.take_of_length_le (by omega), List.take_of_length_le (by omega)] at this, HW.out⟩

set_option maxHeartbeats 1000000 in
theorem dot2_spec (v v' : Value) (n : Nat) (zs ys : List Nat) (w : World) (h : FRow w v n zs) (h' : FRow w v' n ys) (hn : n ≤ 1048576) : Calls Try.prog 44 #[v, v'] w fun e w' => ∃ r, e = .returned (.float .f32 r) ∧ Flt.Fl .f32 (dotF zs ys) r ∧ ∃ m, w' = w.drewN m := by
  obtain ⟨h1, h2, h3, h4⟩ := h
  obtain ⟨h1', h2', h3', h4'⟩ := h'
  clear h3 h3'
  rcases h4 with ⟨h0, ao, cap, hv⟩ | ⟨h0, b, off, cap, hv, hc, hm, hlt, hcell⟩
  · rcases h4' with ⟨h0', ao', cap', hv'⟩ | ⟨h0', _⟩
    · subst hv hv'
      have hz : zs = [] := List.eq_nil_of_length_eq_zero (by omega)
      subst hz h0
      clear h1 h1' h0'
      go_enter Try.func44, Try.ntmps44
      go_wp2
      go_loop [5, 6] (fun s i => s = .float .f32 0 ∧ i = .int .i64 0) (fun _ _ => 0)
      case atStart => exact ⟨rfl, rfl⟩
      case round =>
        obtain ⟨rfl, rfl⟩ := hrel
        go_wp2
        go_ret
        exact ⟨0, rfl, fl_zero, 0, rfl⟩
    · omega
  · rcases h4' with ⟨h0', _⟩ | ⟨h0', b', off', cap', hv', hc', hm', hlt', hcell'⟩
    · omega
    subst hv hv'
    go_enter Try.func44, Try.ntmps44
    go_wp2
    go_loopw [5, 6] (fun s i wr => ∃ k r : Nat, k ≤ n ∧ i = .int .i64 k ∧ s = .float .f32 r ∧ Flt.Fl .f32 (dotF (zs.take k) (ys.take k)) r ∧ ∃ m, wr = w.drewN m) (fun _ i _ => n - (intOf i).toNat)
    case atStart => exact ⟨0, 0, Nat.zero_le _, rfl, rfl, fl_zero, 0, rfl⟩
    case round =>
      obtain ⟨k, r, hk, rfl, rfl, hr, m, hwr⟩ := hrel
      have HW : Hid (∃ m, wr = w.drewN m) := ⟨m, hwr⟩
      by_cases hlt : k < n
      · have g1 : wr.cell? ⟨b, off + k, none⟩ = some (.float .f32 (zs.getD k 0)) := by rw [hwr]; exact hcell k hlt
        have g2 : wr.cell? ⟨b', off' + k, none⟩ = some (.float .f32 (ys.getD k 0)) := by rw [hwr]; exact hcell' k hlt
        have HS : Hid (∀ w' w'', Flt.Fl .f32 (dotF (zs.take (k + 1)) (ys.take (k + 1))) (Flt.fB .add .f32 r (Flt.fB .mul .f32 (zs.getD k 0) (ys.getD k 0) w') w'')) := fun w' w'' => dotF_step (by omega) (by omega) hr (Flt.fB_Fl _ _ _ _ _) w''
        clear hcell hcell' hwr hr
        generalize zs.getD k 0 = z at *
        generalize ys.getD k 0 = y at *
        go_wp2
        go_region
        all_goals
          go_wp2
          go_roundw
          case rel => exact ⟨k + 1, _, by omega, by go_num, rfl, HS.out _ _, by repeat (first | exact HW.out | refine drewN_ex ?_ _ | refine drew_ex ?_)⟩
          case measure => simp [intOf]; omega
      · obtain rfl : k = n := by omega
        have HR : Hid _ := hr
        clear hcell hcell' hwr hr
        go_wp2
        go_ret
        exact ⟨r, rfl, by have := HR.out; rwa [List.take_of_length_le (by omega), List.take_of_length_le (by omega)] at this, HW.out⟩

set_option maxHeartbeats 1000000 in
theorem dot_impl (v v' : Value) (n : Nat) (zs ys : List Nat) (w : World) (h : FRow w v n zs) (h' : FRow w v' n ys) (hn : n ≤ 1048576) : Calls Try.prog 32 #[v, v'] w fun e w' => ∃ r, e = .returned (.float .f32 r) ∧ Flt.Fl .f32 (dotF zs ys) r ∧ ∃ m, w' = w.drewN m := by
  obtain ⟨h1, h2, h3, h4⟩ := h
  obtain ⟨h1', h2', h3', h4'⟩ := h'
  clear h3 h3'
  rcases h4 with ⟨h0, ao, cap, hv⟩ | ⟨h0, b, off, cap, hv, hc, hm, hlt, hcell⟩
  · rcases h4' with ⟨h0', ao', cap', hv'⟩ | ⟨h0', _⟩
    · subst hv hv'
      have hz : zs = [] := List.eq_nil_of_length_eq_zero (by omega)
      subst hz h0
      clear h1 h1' h0'
      go_enter Try.func32, Try.ntmps32
      go_wp2
      go_loop [5, 10] (fun s i => s = .float .f32 0 ∧ i = .int .i64 0) (fun _ _ => 0)
      case atStart => exact ⟨rfl, rfl⟩
      case round =>
        obtain ⟨rfl, rfl⟩ := hrel
        go_wp2
        go_ret
        exact ⟨0, rfl, fl_zero, 0, rfl⟩
    · omega
  · rcases h4' with ⟨h0', _⟩ | ⟨h0', b', off', cap', hv', hc', hm', hlt', hcell'⟩
    · omega
    subst hv hv'
    go_enter Try.func32, Try.ntmps32
    go_wp2
    go_loopw [5, 10] (fun s i wr => ∃ k r : Nat, k ≤ n ∧ i = .int .i64 k ∧ s = .float .f32 r ∧ Flt.Fl .f32 (dotF (zs.take k) (ys.take k)) r ∧ ∃ m, wr = w.drewN m) (fun _ i _ => n - (intOf i).toNat)
    case atStart => exact ⟨0, 0, Nat.zero_le _, rfl, rfl, fl_zero, 0, rfl⟩
    case round =>
      obtain ⟨k, r, hk, rfl, rfl, hr, m, hwr⟩ := hrel
      have HW : Hid (∃ m, wr = w.drewN m) := ⟨m, hwr⟩
      by_cases hlt : k < n
      · have g1 : wr.cell? ⟨b, off + k, none⟩ = some (.float .f32 (zs.getD k 0)) := by rw [hwr]; exact hcell k hlt
        have g2 : wr.cell? ⟨b', off' + k, none⟩ = some (.float .f32 (ys.getD k 0)) := by rw [hwr]; exact hcell' k hlt
        have HS : Hid (∀ w' w'', Flt.Fl .f32 (dotF (zs.take (k + 1)) (ys.take (k + 1))) (Flt.fB .add .f32 r (Flt.fB .mul .f32 (zs.getD k 0) (ys.getD k 0) w') w'')) := fun w' w'' => dotF_step (by omega) (by omega) hr (Flt.fB_Fl _ _ _ _ _) w''
        clear hcell hcell' hwr hr
        generalize zs.getD k 0 = z at *
        generalize ys.getD k 0 = y at *
        go_wp2_with go_in
        go_roundw
        case rel => exact ⟨k + 1, _, by omega, by go_num, rfl, HS.out _ _, by repeat (first | exact HW.out | refine drewN_ex ?_ _ | refine drew_ex ?_)⟩
        case measure => simp [intOf]; omega
      · obtain rfl : k = n := by omega
        have HR : Hid _ := hr
        clear hcell hcell' hwr hr
        go_wp2
        go_ret
        exact ⟨r, rfl, by have := HR.out; rwa [List.take_of_length_le (by omega), List.take_of_length_le (by omega)] at this, HW.out⟩

end Go.Proofs.Ytailiaipljfnpaa
