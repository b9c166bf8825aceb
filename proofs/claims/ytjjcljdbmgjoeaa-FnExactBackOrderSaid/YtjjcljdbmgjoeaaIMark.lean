/- Contracts of the marks that the laws set into a row of integers, and of the look at them. -/
import Derived.Test.YtjjcljdbmgjoeaaIVec
namespace Go.Proofs.Ytjjcljdbmgjoeaa
open Go.RowKit Opn

/-- only block g may have changed -/
structure Only (g : Nat) (w w' : World) : Prop where
  os : w'.os = w.os
  tape : w'.tape = w.tape
  output : w'.output = w.output
  size : w'.heap.size = w.heap.size
  block : ∀ b, b ≠ g → w'.heap[b]? = w.heap[b]?

theorem Only.refl (g : Nat) (w : World) : Only g w w := ⟨rfl, rfl, rfl, rfl, fun _ _ => rfl⟩
theorem Only.setCell {g : Nat} {w w' : World} (h : Only g w w') {p : Addr} (hp : p.block = g) (u : Value) : Only g w (w'.setCell p u) :=
  ⟨h.os, h.tape, h.output, by rw [← h.size]; simp [World.setCell], fun b hb => by rw [Below.heap_setCell _ _ _ _ (by rw [hp]; exact hb)]; exact h.block b hb⟩
theorem Only.cell {g : Nat} {w w' : World} (h : Only g w w') {p : Addr} (hp : p.block ≠ g) : w'.cell? p = w.cell? p := World.cell?_of_block (w := w) (h.block p.block hp)
theorem Only.frozen {g : Nat} {w w' : World} (h : Only g w w') {p : Addr} (hp : p.block ≠ g) : w'.frozen? p = w.frozen? p := World.frozen?_of_block (w := w) (h.block p.block hp)
theorem Only.below {g B : Nat} {w w' : World} (h : Only g w w') (hB : B ≤ g) : Below B w w' := ⟨h.os, h.tape, h.output, by rw [h.size]; exact Nat.le_refl _, fun k hk => h.block k (by omega)⟩
theorem IOwn.only {g g' n : Nat} {zs : List Int} {w w' : World} (h : IOwn w g' n zs) (k : Only g w w') (hg : g' ≠ g) : IOwn w' g' n zs := by
  obtain ⟨h1, h2, h3⟩ := h
  refine ⟨h1, by rw [k.size]; exact h2, fun i hi => ?_⟩
  rw [k.cell (p := ⟨g', i, none⟩) hg, k.frozen (p := ⟨g', i, none⟩) hg]
  exact h3 i hi

/-- the marks from k on -/
def imarks (k : Int) (n : Nat) : List Int := (List.range n).map fun (i : Nat) => k + (i : Int)
theorem imarks_len (k : Int) (n : Nat) : (imarks k n).length = n := by simp [imarks]
theorem imarks_get (k : Int) (n i : Nat) (h : i < n) : (imarks k n).getD i 0 = k + (i : Int) := by simp [imarks, List.getD, h]
def imarkUp (k : Int) (zs : List Int) (j : Nat) : List Int := imarks k j ++ zs.drop j
theorem imarkUp_step (k : Int) (zs : List Int) (j : Nat) (h : j < zs.length) : (imarkUp k zs j).set j (k + (j : Int)) = imarkUp k zs (j + 1) := by
  unfold imarkUp
  rw [List.set_append_right _ _ (by rw [imarks_len]; exact Nat.le_refl _), imarks_len, Nat.sub_self, List.drop_eq_getElem_cons h, List.set_cons_zero]
  have : imarks k (j + 1) = imarks k j ++ [k + (j : Int)] := by simp [imarks, List.range_succ]
  rw [this, List.append_assoc]
  rfl

set_option maxHeartbeats 1000000 in
theorem markI_any (g n : Nat) (zs : List Int) (k : Int) (w : World) (h : IOwn w g n zs) (hn : n ≤ 1048576) (hk0 : 0 ≤ k) (hk1 : k ≤ 1048576) : Calls Try.prog 14 #[.slice (some ⟨g, 0, none⟩) n n, .int .i64 k] w fun e w' => e = .returned (.int .i64 (k + n)) ∧ IOwn w' g n (imarks k n) ∧ Only g w w' := by
  have hl := h.1
  have H0 : Hid (IOwn w g n (imarkUp k zs 0)) := h
  clear h
  go_enter Try.func14, Try.ntmps14
  go_wp2
  go_loopw [1, 5] (fun ms is wr => ∃ j : Nat, j ≤ n ∧ is = .int .i64 (j : Int) ∧ ms = .int .i64 (k + (j : Int)) ∧ Hid (IOwn wr g n (imarkUp k zs j)) ∧ Hid (Only g w wr)) (fun _ is _ => n - (intOf is).toNat)
  case atStart => exact ⟨0, Nat.zero_le _, rfl, by simp, H0, Only.refl _ _⟩
  case round =>
    obtain ⟨j, hj, rfl, rfl, HO, HW⟩ := hrel
    by_cases hlt : j < n
    · have c1 := HO.out.cell hlt
      have c2 := HO.out.free hlt
      have HS : Hid (IOwn (wr.setCell ⟨g, j, none⟩ (.int .i64 (k + (j : Int)))) g n (imarkUp k zs (j + 1))) := by
        have := HO.out.set hlt (k + (j : Int))
        rwa [imarkUp_step k zs j (by omega)] at this
      have HX : Hid (Only g w (wr.setCell ⟨g, j, none⟩ (.int .i64 (k + (j : Int))))) := HW.out.setCell rfl _
      clear HO HW
      go_wp2
      go_roundw
      case rel => exact ⟨j + 1, by omega, by go_num, by go_num, HS, HX⟩
      case measure => simp [intOf]; omega
    · obtain rfl : j = n := by omega
      have HE : Hid (IOwn wr g j (imarks k j)) := by
        have := HO.out
        unfold imarkUp at this
        rwa [List.drop_of_length_le (by omega), List.append_nil] at this
      go_wp2
      go_ret
      exact ⟨rfl, HE.out, HW.out⟩

set_option maxHeartbeats 1000000 in
theorem heldI_any (g n : Nat) (k : Int) (w : World) (h : IOwn w g n (imarks k n)) (hn : n ≤ 1048576) (hk0 : 0 ≤ k) (hk1 : k ≤ 1048576) : Calls Try.prog 15 #[.slice (some ⟨g, 0, none⟩) n n, .int .i64 k] w fun e w' => e = .returned (.int .i64 (k + n)) ∧ w' = w := by
  have H : Hid (IOwn w g n (imarks k n)) := h
  clear h
  go_enter Try.func15, Try.ntmps15
  go_wp2
  go_loop [1, 5] (fun ms is => ∃ j : Nat, j ≤ n ∧ is = .int .i64 (j : Int) ∧ ms = .int .i64 (k + (j : Int))) (fun _ is => n - (intOf is).toNat)
  case atStart => exact ⟨0, Nat.zero_le _, rfl, by simp⟩
  case round =>
    obtain ⟨j, hj, rfl, rfl⟩ := hrel
    by_cases hlt : j < n
    · have c1 := H.out.cell hlt
      rw [imarks_get k n j hlt] at c1
      have c2 : (k + (j : Int) != k + (j : Int)) = false := by simp
      go_wp2
      go_round
      case rel => exact ⟨j + 1, by omega, by go_num, by go_num⟩
      case measure => simp [intOf]; omega
    · obtain rfl : j = n := by omega
      go_wp2
      go_ret
      exact ⟨rfl, rfl⟩

theorem markIN_any (k : Int) (w : World) : Calls Try.prog 14 #[.slice none 0 0, .int .i64 k] w fun e w' => e = .returned (.int .i64 k) ∧ w' = w := by
  go_enter Try.func14, Try.ntmps14
  go_wp2
  go_loop [1, 5] (fun ms is => is = .int .i64 0 ∧ ms = .int .i64 k) (fun _ _ => 0)
  case atStart => exact ⟨rfl, rfl⟩
  case round =>
    obtain ⟨rfl, rfl⟩ := hrel
    go_wp2
    go_ret
    exact ⟨rfl, rfl⟩
theorem heldIN_any (k : Int) (w : World) : Calls Try.prog 15 #[.slice none 0 0, .int .i64 k] w fun e w' => e = .returned (.int .i64 k) ∧ w' = w := by
  go_enter Try.func15, Try.ntmps15
  go_wp2
  go_loop [1, 5] (fun ms is => is = .int .i64 0 ∧ ms = .int .i64 k) (fun _ _ => 0)
  case atStart => exact ⟨rfl, rfl⟩
  case round =>
    obtain ⟨rfl, rfl⟩ := hrel
    go_wp2
    go_ret
    exact ⟨rfl, rfl⟩
theorem IRow.nil (w : World) : IRow .i64 w (.slice none 0 0) 0 [] := ⟨rfl, Nat.zero_le _, by simp, .inl ⟨rfl, _, _, rfl⟩⟩

end Go.Proofs.Ytjjcljdbmgjoeaa
