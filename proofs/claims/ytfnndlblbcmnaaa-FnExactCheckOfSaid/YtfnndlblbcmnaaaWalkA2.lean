/- The walks of the laws on names and check numbers. -/
import Derived.Test.YtfnndlblbcmnaaaChecked
import Derived.WalkKit
import Derived.WalkLawsBesides
import Derived.Outline
namespace Go.Proofs.Ytfnndlblbcmnaaa
open Go.RowKit

def okB (c : UInt8) : Bool := 97 ≤ c.toNat && c.toNat ≤ 122
def nameB (l : List UInt8) : Bool := l.all okB && decide (1 ≤ l.length ∧ l.length ≤ 8)
def chk (n : Int) (l : List UInt8) : Int := l.foldl (fun n c => (863 * n + (c.toNat : Int) + 157) % 65003) n

theorem take_snoc (s : ByteArray) (k : Nat) (h : k < s.size) : s.data.toList.take (k + 1) = s.data.toList.take k ++ [s[k]] := by
  rw [List.take_succ_eq_append_getElem (by simpa using h)]; rfl

theorem all_snoc (s : ByteArray) (k : Nat) (h : k < s.size) (hk : (s.data.toList.take k).all okB = true) (h1 : 97 ≤ (s[k].toNat : Int)) (h2 : (s[k].toNat : Int) ≤ 122) : (s.data.toList.take (k + 1)).all okB = true := by
  rw [take_snoc s k h, List.all_append, hk]
  simp [okB]; omega

theorem name_bad (s : ByteArray) (k : Nat) (h : k < s.size) (h1 : (s[k].toNat : Int) < 97 ∨ 122 < (s[k].toNat : Int)) : nameB s.data.toList = false := by
  have hm : s[k] ∈ s.data.toList := by
    have : s[k] = s.data.toList[k]'(by simpa using h) := rfl
    rw [this]; exact List.getElem_mem _
  have : s.data.toList.all okB = false := by
    rw [List.all_eq_false]
    exact ⟨_, hm, by simp [okB]; omega⟩
  simp [nameB, this]

theorem name_end (s : ByteArray) (k : Nat) (h : s.size ≤ k) (hk : (s.data.toList.take k).all okB = true) : nameB s.data.toList = decide (1 ≤ s.size ∧ s.size ≤ 8) := by
  rw [List.take_of_length_le (by simpa using h)] at hk
  simp [nameB, hk]

theorem ret_bool {a b : Bool} (h : a = b) : Ending.returned (.bool a) = .returned (.bool b) := by rw [h]
theorem ret_int {a b : Int} (h : a = b) : Ending.returned (.int .i64 a) = .returned (.int .i64 b) := by rw [h]

theorem chk_bd (n : Int) (l : List UInt8) (h0 : 0 ≤ n) (h1 : n ≤ 65002) : 0 ≤ chk n l ∧ chk n l ≤ 65002 := by
  unfold chk
  induction l generalizing n with
  | nil => exact ⟨h0, h1⟩
  | cons c l ih => exact ih _ (by show 0 ≤ (863 * n + (c.toNat : Int) + 157) % 65003; omega) (by show (863 * n + (c.toNat : Int) + 157) % 65003 ≤ 65002; omega)

theorem chk_snoc (n : Int) (s : ByteArray) (k : Nat) (h : k < s.size) : chk n (s.data.toList.take (k + 1)) = (863 * chk n (s.data.toList.take k) + (s[k].toNat : Int) + 157) % 65003 := by
  rw [take_snoc s k h]; simp [chk]

theorem isName_spec (s : ByteArray) (w : World) (hs : s.size ≤ 1048576) : Calls Try.prog 15 #[.string s] w fun e w' => e = .returned (.bool (nameB s.data.toList)) ∧ w' = w := by
  go_enter Try.func15, Try.ntmps15
  go_wp2
  go_loop [3] (fun i => ∃ k : Nat, k ≤ s.size ∧ i = .int .i64 k ∧ (s.data.toList.take k).all okB = true) (fun i => s.size - (intOf i).toNat)
  case atStart => exact ⟨0, Nat.zero_le _, rfl, rfl⟩
  case round =>
    obtain ⟨k, hk, rfl, hall⟩ := hrel
    have Hall : Hid _ := hall
    clear hall
    by_cases hlt : k < s.size
    · go_wp2
      all_goals first
        | (go_ret; exact ⟨ret_bool (name_bad s k hlt (by omega)).symm, rfl⟩)
        | (go_round
           case rel => exact ⟨k + 1, by omega, by go_num, all_snoc s k hlt Hall.out (by omega) (by omega)⟩
           case measure => simp [intOf]; omega)
    · go_wp2
      all_goals (go_ret; exact ⟨ret_bool (by rw [name_end s k (by omega) Hall.out, Bool.eq_iff_iff]; simp; try omega), rfl⟩)

theorem isName_impl (s : ByteArray) (w : World) (hs : s.size ≤ 1048576) : Calls Try.prog 16 #[.string s] w fun e w' => e = .returned (.bool (nameB s.data.toList)) ∧ w' = w := by
  go_enter Try.func16, Try.ntmps16
  go_wp2
  go_loop [6] (fun i => ∃ k : Nat, k ≤ s.size ∧ i = .int .i64 k ∧ (s.data.toList.take k).all okB = true) (fun i => s.size - (intOf i).toNat)
  case atStart => exact ⟨0, Nat.zero_le _, rfl, rfl⟩
  case round =>
    obtain ⟨k, hk, rfl, hall⟩ := hrel
    have Hall : Hid _ := hall
    clear hall
    by_cases hlt : k < s.size
    · go_wp2
      all_goals first
        | (go_ret; exact ⟨ret_bool (name_bad s k hlt (by omega)).symm, rfl⟩)
        | (go_round
           case rel => exact ⟨k + 1, by omega, by go_num, all_snoc s k hlt Hall.out (by omega) (by omega)⟩
           case measure => simp [intOf]; omega)
    · go_wp2
      all_goals (go_ret; exact ⟨ret_bool (by rw [name_end s k (by omega) Hall.out, Bool.eq_iff_iff]; simp; try omega), rfl⟩)

theorem check_spec (n : Int) (s : ByteArray) (w : World) (h0 : 0 ≤ n) (h1 : n ≤ 65002) (hs : s.size ≤ 1048576) : Calls Try.prog 32 #[.int .i64 n, .string s] w fun e w' => e = .returned (.int .i64 (chk n s.data.toList)) ∧ w' = w := by
  go_enter Try.func32, Try.ntmps32
  go_wp2
  go_loop [0, 5] (fun m i => ∃ k : Nat, k ≤ s.size ∧ i = .int .i64 k ∧ m = .int .i64 (chk n (s.data.toList.take k))) (fun _ i => s.size - (intOf i).toNat)
  case atStart => exact ⟨0, Nat.zero_le _, rfl, rfl⟩
  case round =>
    obtain ⟨k, hk, rfl, rfl⟩ := hrel
    have hb := chk_bd n (s.data.toList.take k) h0 h1
    by_cases hlt : k < s.size
    · have HS : Hid _ := chk_snoc n s k hlt
      have hc : (s[k].toNat : Int) < 256 := by have := s[k].toNat_lt; omega
      generalize chk n (s.data.toList.take k) = m at *
      go_wp2
      go_round
      case rel => exact ⟨k + 1, by omega, by go_num, by rw [HS.out]⟩
      case measure => simp [intOf]; omega
    · go_wp2
      go_ret
      exact ⟨ret_int (by rw [List.take_of_length_le (by simp; omega)]), rfl⟩

theorem check_impl (n : Int) (s : ByteArray) (w : World) (h0 : 0 ≤ n) (h1 : n ≤ 65002) (hs : s.size ≤ 1048576) : Calls Try.prog 33 #[.int .i64 n, .string s] w fun e w' => e = .returned (.int .i64 (chk n s.data.toList)) ∧ w' = w := by
  go_enter Try.func33, Try.ntmps33
  go_wp2
  go_loop [0, 8] (fun m i => ∃ k : Nat, k ≤ s.size ∧ i = .int .i64 k ∧ m = .int .i64 (chk n (s.data.toList.take k))) (fun _ i => s.size - (intOf i).toNat)
  case atStart => exact ⟨0, Nat.zero_le _, rfl, rfl⟩
  case round =>
    obtain ⟨k, hk, rfl, rfl⟩ := hrel
    have hb := chk_bd n (s.data.toList.take k) h0 h1
    by_cases hlt : k < s.size
    · have HS : Hid _ := chk_snoc n s k hlt
      have hc : (s[k].toNat : Int) < 256 := by have := s[k].toNat_lt; omega
      generalize chk n (s.data.toList.take k) = m at *
      go_wp2
      go_round
      case rel => exact ⟨k + 1, by omega, by go_num, by rw [HS.out]⟩
      case measure => simp [intOf]; omega
    · go_wp2
      go_ret
      exact ⟨ret_int (by rw [List.take_of_length_le (by simp; omega)]), rfl⟩


theorem isName_walk (s : ByteArray) (w : World) (hs0 : s.size ≤ maxLen) :
    Calls Try.prog 6 #[.string s] w fun e w' => e = .returned (.bool true) ∧ Below w.heap.size w w' := by
  unfold maxLen at hs0
  by_cases hs : s.size ≤ 1048576
  · have hd : decide ((1048576 : Int) < (s.size : Int)) = false := decide_eq_false (by omega)
    generalize hn : nameB s.data.toList = b
    have Hn : Hid _ := hn
    clear hn
    go_enter Try.func6, Try.ntmps6
    go_wp2_with (first | (go_at_call 15; refine (isName_spec _ _ hs).mono ?_; rw [Hn.out]; rintro e w' ⟨rfl, rfl⟩) | (go_at_call 16; refine (isName_impl _ _ hs).mono ?_; rw [Hn.out]; rintro e w' ⟨rfl, rfl⟩))
    go_ret
    exact ⟨rfl, Below.refl _ _⟩
  · have hd : decide ((1048576 : Int) < (s.size : Int)) = true := decide_eq_true (by omega)
    go_enter Try.func6, Try.ntmps6
    go_wp2
    go_ret
    exact ⟨rfl, Below.refl _ _⟩

set_option maxHeartbeats 1000000 in
theorem checkOf_walk (n : Int) (s : ByteArray) (w : World) (_hn : (Lit.int .i64 n).wf = true) (hs0 : s.size ≤ maxLen) :
    Calls Try.prog 9 #[.int .i64 n, .string s] w fun e w' => e = .returned (.bool true) ∧ Below w.heap.size w w' := by
  unfold maxLen at hs0
  by_cases hs : s.size ≤ 1048576
  · have hd : decide ((1048576 : Int) < (s.size : Int)) = false := decide_eq_false (by omega)
    by_cases h0 : 0 ≤ n
    · by_cases h1 : n ≤ 65002
      · go_enter Try.func9, Try.ntmps9
        go_wp2_with (first | (go_at_call 32; refine (check_spec _ _ _ h0 h1 hs).mono ?_; rintro e w' ⟨rfl, rfl⟩) | (go_at_call 33; refine (check_impl _ _ _ h0 h1 hs).mono ?_; rintro e w' ⟨rfl, rfl⟩) | go_in)
        go_ret
        exact ⟨rfl, Below.refl _ _⟩
      · have h2 : decide (n ≤ 65002) = false := decide_eq_false h1
        clear h1
        go_enter Try.func9, Try.ntmps9
        go_wp2
        go_ret
        exact ⟨rfl, Below.refl _ _⟩
    · have h2 : decide (0 ≤ n) = false := decide_eq_false h0
      clear h0
      go_enter Try.func9, Try.ntmps9
      go_wp2
      go_ret
      exact ⟨rfl, Below.refl _ _⟩
  · have hd : decide ((1048576 : Int) < (s.size : Int)) = true := decide_eq_true (by omega)
    go_enter Try.func9, Try.ntmps9
    go_wp2
    go_ret
    exact ⟨rfl, Below.refl _ _⟩

end Go.Proofs.Ytfnndlblbcmnaaa
