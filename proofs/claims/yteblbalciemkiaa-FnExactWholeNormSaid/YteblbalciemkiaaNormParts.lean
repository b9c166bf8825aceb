/- Contracts of the sums of products of two rows, and of the guards at a finite number. -/
import Derived.Test.YteblbalciemkiaaVec
import Derived.Test.YteblbalciemkiaaFin
namespace Go.Proofs.Yteblbalciemkiaa
open Go.RowKit Opn

/-- the class of the sum of products -/
def dotF (zs ys : List Nat) : Option Nat := (zs.zip ys).foldl (fun s p => Flt.fop .add .f32 s (Flt.fop .mul .f32 (Flt.cls .f32 p.1) (Flt.cls .f32 p.2))) (some 0)

theorem take_one {α : Type} (l : List α) (k : Nat) (d : α) (h : k < l.length) : l.take (k + 1) = l.take k ++ [l.getD k d] := by
  rw [List.take_succ_eq_append_getElem h]; simp [List.getD, h]

theorem zip_one {zs ys : List Nat} {k : Nat} (hk : k < zs.length) (hk' : k < ys.length) : (zs.take (k + 1)).zip (ys.take (k + 1)) = (zs.take k).zip (ys.take k) ++ [(zs.getD k 0, ys.getD k 0)] := by
  rw [take_one zs k 0 hk, take_one ys k 0 hk', List.zip_append (by simp; omega)]
  rfl

theorem dotF_step {zs ys : List Nat} {k r p : Nat} (hk : k < zs.length) (hk' : k < ys.length) (hr : Flt.Fl .f32 (dotF (zs.take k) (ys.take k)) r) (hp : Flt.Fl .f32 (Flt.fop .mul .f32 (Flt.cls .f32 (zs.getD k 0)) (Flt.cls .f32 (ys.getD k 0))) p) (w : World) :
    Flt.Fl .f32 (dotF (zs.take (k + 1)) (ys.take (k + 1))) (Flt.fB .add .f32 r p w) := by
  have := Flt.fB_Fl .add .f32 r p w
  rw [hr.cls, hp.cls] at this
  unfold dotF at *
  rw [zip_one hk hk', List.foldl_append]
  exact this

theorem fl_zero : Flt.Fl .f32 (some 0) 0 := ⟨by decide, by decide⟩

set_option maxHeartbeats 1000000 in
theorem dot2_spec (v v' : Value) (n : Nat) (zs ys : List Nat) (w : World) (h : FRow w v n zs) (h' : FRow w v' n ys) (hn : n ≤ 1048576) : Calls Try.prog 67 #[v, v'] w fun e w' => ∃ r, e = .returned (.float .f32 r) ∧ Flt.Fl .f32 (dotF zs ys) r ∧ ∃ m, w' = w.drewN m := by
  obtain ⟨h1, h2, h3, h4⟩ := h
  obtain ⟨h1', h2', h3', h4'⟩ := h'
  clear h3 h3'
  rcases h4 with ⟨h0, ao, cap, hv⟩ | ⟨h0, b, off, cap, hv, hc, hm, hlt, hcell⟩
  · rcases h4' with ⟨h0', ao', cap', hv'⟩ | ⟨h0', _⟩
    · subst hv hv'
      have hz : zs = [] := List.eq_nil_of_length_eq_zero (by omega)
      subst hz h0
      clear h1 h1' h0'
      go_enter Try.func67, Try.ntmps67
      go_wp2
      go_loop [5, 6] (fun s i => s = .float .f32 0 ∧ i = .int .i64 0) (fun _ _ => 0)
      case atStart => exact ⟨rfl, rfl⟩
      case round =>
        obtain ⟨rfl, rfl⟩ := hrel
        go_wp2
        go_ret
        exact ⟨0, rfl, fl_zero, 0, rfl⟩
    · omega
  · rcases h4' with ⟨h0', _⟩ | ⟨h0', b', off', cap', hv', hc', hm', hlt', hcell'⟩
    · omega
    subst hv hv'
    go_enter Try.func67, Try.ntmps67
    go_wp2
    go_loopw [5, 6] (fun s i wr => ∃ k r : Nat, k ≤ n ∧ i = .int .i64 k ∧ s = .float .f32 r ∧ Flt.Fl .f32 (dotF (zs.take k) (ys.take k)) r ∧ ∃ m, wr = w.drewN m) (fun _ i _ => n - (intOf i).toNat)
    case atStart => exact ⟨0, 0, Nat.zero_le _, rfl, rfl, fl_zero, 0, rfl⟩
    case round =>
      obtain ⟨k, r, hk, rfl, rfl, hr, m, hwr⟩ := hrel
      have HW : Hid (∃ m, wr = w.drewN m) := ⟨m, hwr⟩
      by_cases hlt : k < n
      · have g1 : wr.cell? ⟨b, off + k, none⟩ = some (.float .f32 (zs.getD k 0)) := by rw [hwr]; exact hcell k hlt
        have g2 : wr.cell? ⟨b', off' + k, none⟩ = some (.float .f32 (ys.getD k 0)) := by rw [hwr]; exact hcell' k hlt
        have HS : Hid (∀ w' w'', Flt.Fl .f32 (dotF (zs.take (k + 1)) (ys.take (k + 1))) (Flt.fB .add .f32 r (Flt.fB .mul .f32 (zs.getD k 0) (ys.getD k 0) w') w'')) := fun w' w'' => dotF_step (by omega) (by omega) hr (Flt.fB_Fl _ _ _ _ _) w''
        clear hcell hcell' hwr hr
        generalize zs.getD k 0 = z at *
        generalize ys.getD k 0 = y at *
        go_wp2
        go_region
        all_goals
          go_wp2
          go_roundw
          case rel => exact ⟨k + 1, _, by omega, by go_num, rfl, HS.out _ _, by repeat (first | exact HW.out | refine drewN_ex ?_ _ | refine drew_ex ?_)⟩
          case measure => simp [intOf]; omega
      · obtain rfl : k = n := by omega
        have HR : Hid _ := hr
        clear hcell hcell' hwr hr
        go_wp2
        go_ret
        exact ⟨r, rfl, by have := HR.out; rwa [List.take_of_length_le (by omega), List.take_of_length_le (by omega)] at this, HW.out⟩

set_option maxHeartbeats 1000000 in
theorem dot_impl (v v' : Value) (n : Nat) (zs ys : List Nat) (w : World) (h : FRow w v n zs) (h' : FRow w v' n ys) (hn : n ≤ 1048576) : Calls Try.prog 85 #[v, v'] w fun e w' => ∃ r, e = .returned (.float .f32 r) ∧ Flt.Fl .f32 (dotF zs ys) r ∧ ∃ m, w' = w.drewN m := by
  obtain ⟨h1, h2, h3, h4⟩ := h
  obtain ⟨h1', h2', h3', h4'⟩ := h'
  clear h3 h3'
  rcases h4 with ⟨h0, ao, cap, hv⟩ | ⟨h0, b, off, cap, hv, hc, hm, hlt, hcell⟩
  · rcases h4' with ⟨h0', ao', cap', hv'⟩ | ⟨h0', _⟩
    · subst hv hv'
      have hz : zs = [] := List.eq_nil_of_length_eq_zero (by omega)
      subst hz h0
      clear h1 h1' h0'
      go_enter Try.func85, Try.ntmps85
      go_wp2
      go_loop [5, 10] (fun s i => s = .float .f32 0 ∧ i = .int .i64 0) (fun _ _ => 0)
      case atStart => exact ⟨rfl, rfl⟩
      case round =>
        obtain ⟨rfl, rfl⟩ := hrel
        go_wp2
        go_ret
        exact ⟨0, rfl, fl_zero, 0, rfl⟩
    · omega
  · rcases h4' with ⟨h0', _⟩ | ⟨h0', b', off', cap', hv', hc', hm', hlt', hcell'⟩
    · omega
    subst hv hv'
    go_enter Try.func85, Try.ntmps85
    go_wp2
    go_loopw [5, 10] (fun s i wr => ∃ k r : Nat, k ≤ n ∧ i = .int .i64 k ∧ s = .float .f32 r ∧ Flt.Fl .f32 (dotF (zs.take k) (ys.take k)) r ∧ ∃ m, wr = w.drewN m) (fun _ i _ => n - (intOf i).toNat)
    case atStart => exact ⟨0, 0, Nat.zero_le _, rfl, rfl, fl_zero, 0, rfl⟩
    case round =>
      obtain ⟨k, r, hk, rfl, rfl, hr, m, hwr⟩ := hrel
      have HW : Hid (∃ m, wr = w.drewN m) := ⟨m, hwr⟩
      by_cases hlt : k < n
      · have g1 : wr.cell? ⟨b, off + k, none⟩ = some (.float .f32 (zs.getD k 0)) := by rw [hwr]; exact hcell k hlt
        have g2 : wr.cell? ⟨b', off' + k, none⟩ = some (.float .f32 (ys.getD k 0)) := by rw [hwr]; exact hcell' k hlt
        have HS : Hid (∀ w' w'', Flt.Fl .f32 (dotF (zs.take (k + 1)) (ys.take (k + 1))) (Flt.fB .add .f32 r (Flt.fB .mul .f32 (zs.getD k 0) (ys.getD k 0) w') w'')) := fun w' w'' => dotF_step (by omega) (by omega) hr (Flt.fB_Fl _ _ _ _ _) w''
        clear hcell hcell' hwr hr
        generalize zs.getD k 0 = z at *
        generalize ys.getD k 0 = y at *
        go_wp2_with go_in
        go_roundw
        case rel => exact ⟨k + 1, _, by omega, by go_num, rfl, HS.out _ _, by repeat (first | exact HW.out | refine drewN_ex ?_ _ | refine drew_ex ?_)⟩
        case measure => simp [intOf]; omega
      · obtain rfl : k = n := by omega
        have HR : Hid _ := hr
        clear hcell hcell' hwr hr
        go_wp2
        go_ret
        exact ⟨r, rfl, by have := HR.out; rwa [List.take_of_length_le (by omega), List.take_of_length_le (by omega)] at this, HW.out⟩


/-- is the class a finite number? -/
def finF (v : Option Nat) : Bool := match v with | some b => finB b | none => false
theorem fin_Fl {v : Option Nat} {r : Nat} (h : Flt.Fl .f32 v r) : finB r = finF v := by
  cases v with
  | none =>
    have := Flt.cls_none h.cls
    unfold finB finF; exact decide_eq_false (by omega)
  | some b =>
    have := (Flt.cls_some h.cls).1
    subst this; rfl

theorem num_spec (x : Nat) (w : World) : Calls Try.prog 65 #[.float .f32 x] w fun e w' => e = .returned (.tuple #[.float .f32 (if finB x then x else 0), .bool (finB x)]) ∧ ∃ m, w' = w.drewN m := by
  cases hf : finB x with
  | true =>
    simp only [if_true]
    go_enter Try.func65, Try.ntmps65
    go_wp2_with (go_at_call 81; refine (isFinite_spec _ _).mono ?_; rw [hf]; rintro e w' ⟨rfl, m, rfl⟩)
    go_ret2
    exact ⟨rfl, _, rfl⟩
  | false =>
    simp only [Bool.false_eq_true, if_false]
    go_enter Try.func65, Try.ntmps65
    go_wp2_with (go_at_call 81; refine (isFinite_spec _ _).mono ?_; rw [hf]; rintro e w' ⟨rfl, m, rfl⟩)
    go_ret2
    exact ⟨rfl, _, rfl⟩

theorem num_impl (x : Nat) (w : World) : Calls Try.prog 68 #[.float .f32 x] w fun e w' => e = .returned (.tuple #[.float .f32 (if finB x then x else 0), .bool (finB x)]) ∧ ∃ m, w' = w.drewN m := by
  cases hf : finB x with
  | true =>
    simp only [if_true]
    go_enter Try.func68, Try.ntmps68
    go_wp2_with (go_at_call 80; refine (isFinite_impl _ _).mono ?_; rw [hf]; rintro e w' ⟨rfl, m, rfl⟩)
    go_ret2
    exact ⟨rfl, _, rfl⟩
  | false =>
    simp only [Bool.false_eq_true, if_false]
    go_enter Try.func68, Try.ntmps68
    go_wp2_with (go_at_call 80; refine (isFinite_impl _ _).mono ?_; rw [hf]; rintro e w' ⟨rfl, m, rfl⟩)
    go_ret2
    exact ⟨rfl, _, rfl⟩

end Go.Proofs.Yteblbalciemkiaa
