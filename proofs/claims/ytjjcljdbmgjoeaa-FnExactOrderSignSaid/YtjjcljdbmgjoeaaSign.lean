/- Contracts of the sign of an order: the program's inner function, and the reference's. -/
import Derived.Test.YtjjcljdbmgjoeaaOrderS
namespace Go.Proofs.Ytjjcljdbmgjoeaa
open Go.RowKit Opn

/-- the sign behind d comparisons of the i-th with those behind it -/
def inS (zs : List Int) (i : Nat) (s : Int) : Nat → Int
  | 0 => s
  | d + 1 => if zs.getD i 0 > zs.getD (i + 1 + d) 0 then -(inS zs i s d) else inS zs i s d
/-- the sign behind the first i -/
def outS (zs : List Int) : Nat → Int
  | 0 => 1
  | i + 1 => inS zs i (outS zs i) (zs.length - (i + 1))
theorem inS_bd (zs : List Int) (i : Nat) (s : Int) (h : -1 ≤ s ∧ s ≤ 1) : ∀ d, -1 ≤ inS zs i s d ∧ inS zs i s d ≤ 1
  | 0 => h
  | d + 1 => by
    have := inS_bd zs i s h d
    simp only [inS]
    split <;> omega
theorem outS_bd (zs : List Int) : ∀ i, -1 ≤ outS zs i ∧ outS zs i ≤ 1
  | 0 => by simp [outS]
  | i + 1 => inS_bd zs i _ (outS_bd zs i) _

set_option maxHeartbeats 4000000 in
theorem sign_spec (b off n cap : Nat) (zs : List Int) (w : World) (hl : zs.length = n) (hn : n ≤ 1048576) (hcell : ∀ i, i < n → w.cell? ⟨b, off + i, none⟩ = some (.int .i64 (zs.getD i 0))) (hlt : b < w.heap.size) (hor : ordB zs = true) (hR : IRow .i64 w (.slice (some ⟨b, off, none⟩) n cap) n zs) :
    Calls Try.prog 10 #[.slice (some ⟨b, off, none⟩) n cap] w fun e w' => e = .returned (.tuple #[.int .i64 (outS zs n), .bool true]) ∧ Below w.heap.size w w' := by
  have HC : Hid (∀ i, i < n → w.cell? ⟨b, off + i, none⟩ = some (.int .i64 (zs.getD i 0))) := hcell
  have HO : Hid (Calls Try.prog 16 #[.slice (some ⟨b, off, none⟩) n cap] w fun e w' => e = .returned (.bool true) ∧ Below w.heap.size w w') := by have := order_spec _ n zs w hR hn; rwa [hor] at this
  have HL : Hid (zs.length = n) := hl
  clear hcell hR hor hl
  go_enter Try.func10, Try.ntmps10
  go_wp2_with (go_at_call 16; refine HO.out.mono ?_; rintro e w1 ⟨rfl, hb1⟩)
  have HB1 : Hid (Below w.heap.size w w1) := hb1
  clear hb1 HO
  go_loopw [4, 5] (fun ss is wr => ∃ i : Nat, i ≤ n ∧ is = .int .i64 (i : Int) ∧ ss = .int .i64 (outS zs i) ∧ Hid (Below w.heap.size w wr)) (fun _ is _ => n - (intOf is).toNat)
  case atStart => exact ⟨0, Nat.zero_le _, rfl, rfl, HB1⟩
  case round =>
    clear HB1
    obtain ⟨i, hi, rfl, rfl, HB⟩ := hrel
    by_cases hin : i < n
    · go_wp2
      go_loopw [4, 6] (fun ss ks wr => ∃ d : Nat, i + 1 + d ≤ n ∧ ks = .int .i64 ((i : Int) + 1 + (d : Int)) ∧ ss = .int .i64 (inS zs i (outS zs i) d) ∧ Hid (Below w.heap.size w wr)) (fun _ ks _ => n - (intOf ks).toNat)
      case atStart => exact ⟨0, by omega, by simp, rfl, HB⟩
      case round =>
        clear HB
        obtain ⟨d, hd, rfl, rfl, HB⟩ := hrel
        by_cases hdn : i + 1 + d < n
        · have c1 : wr.cell? ⟨b, off + i, none⟩ = some (.int .i64 (zs.getD i 0)) := by rw [HB.out.cell (p := ⟨b, off + i, none⟩) hlt]; exact HC.out i hin
          have c2 : wr.cell? ⟨b, off + (i + 1 + d), none⟩ = some (.int .i64 (zs.getD (i + 1 + d) 0)) := by rw [HB.out.cell (p := ⟨b, off + (i + 1 + d), none⟩) hlt]; exact HC.out _ hdn
          have HI : Hid (inS zs i (outS zs i) (d + 1) = if zs.getD i 0 > zs.getD (i + 1 + d) 0 then -(inS zs i (outS zs i) d) else inS zs i (outS zs i) d) := rfl
          obtain ⟨s0, s1⟩ := inS_bd zs i _ (outS_bd zs i) d
          have i0 : (0 : Int) ≤ (i : Int) := Int.natCast_nonneg _
          have i1 : (i : Int) < (n : Int) := by omega
          have k0 : (0 : Int) ≤ (i : Int) + 1 + (d : Int) := by omega
          have k1 : (i : Int) + 1 + (d : Int) < (n : Int) := by omega
          generalize zs.getD i 0 = x at *
          generalize zs.getD (i + 1 + d) 0 = y at *
          generalize inS zs i (outS zs i) d = s at *
          by_cases hxy : y < x
          · have HI2 : Hid (inS zs i (outS zs i) (d + 1) = -s) := by have := HI.out; rwa [if_pos hxy] at this
            have hd2 : decide (y < x) = true := decide_eq_true hxy
            clear HI
            go_wp2
            go_quiet (fail)
            go_wp2
            go_roundw
            case rel => exact ⟨d + 1, by omega, by go_num, by rw [HI2.out], by first | exact HB | exact HB.out.drew | exact below_drewN HB.out _⟩
            case measure => simp [intOf]; omega
          · have HI2 : Hid (inS zs i (outS zs i) (d + 1) = s) := by have := HI.out; rwa [if_neg hxy] at this
            have hd2 : decide (y < x) = false := decide_eq_false hxy
            clear HI
            go_wp2
            go_quiet (fail)
            go_wp2
            go_roundw
            case rel => exact ⟨d + 1, by omega, by go_num, by rw [HI2.out], by first | exact HB | exact HB.out.drew | exact below_drewN HB.out _⟩
            case measure => simp [intOf]; omega
        · have HI : Hid (inS zs i (outS zs i) d = outS zs (i + 1)) := by
            show inS zs i (outS zs i) d = inS zs i (outS zs i) (zs.length - (i + 1))
            have : d = zs.length - (i + 1) := by rw [HL.out]; omega
            rw [← this]
          go_wp2
          go_roundw
          case rel => exact ⟨i + 1, by omega, by go_num, by rw [HI.out], HB⟩
          case measure => simp [intOf]; omega
    · have HE : Hid (outS zs i = outS zs n) := by
        have : i = n := by omega
        show outS zs i = outS zs n
        rw [this]
      go_wp2
      go_ret2
      exact ⟨by first | rfl | (rw [HE.out]; rfl), HB.out⟩

set_option maxHeartbeats 4000000 in
theorem orderSign_any (b off n cap : Nat) (zs : List Int) (w : World) (hnc : n ≤ cap) (hcm : cap ≤ maxLen) (hl : zs.length = n) (hn : n ≤ 1048576) (hcell : ∀ i, i < n → w.cell? ⟨b, off + i, none⟩ = some (.int .i64 (zs.getD i 0))) :
    Calls Try.prog 20 #[.slice (some ⟨b, off, none⟩) n cap] w fun e w' => e = .returned (.int .i64 (outS zs n)) ∧ w' = w := by
  have HC : Hid (∀ i, i < n → w.cell? ⟨b, off + i, none⟩ = some (.int .i64 (zs.getD i 0))) := hcell
  have HL : Hid (zs.length = n) := hl
  have hcm' : cap ≤ 9223372036854775807 := hcm
  clear hcell hl hcm
  go_enter Try.func20, Try.ntmps20
  go_wp2_with fail
  go_loop [3, 10] (fun ss is => ∃ i : Nat, i ≤ n ∧ is = .int .i64 (i : Int) ∧ ss = .int .i64 (outS zs i)) (fun _ is => n - (intOf is).toNat)
  case atStart => exact ⟨0, Nat.zero_le _, rfl, rfl⟩
  case round =>
    obtain ⟨i, hi, rfl, rfl⟩ := hrel
    by_cases hin : i < n
    · have c1 : w.cell? ⟨b, off + i, none⟩ = some (.int .i64 (zs.getD i 0)) := HC.out i hin
      have HX : Hid (∀ d, inS zs i (outS zs i) (d + 1) = if zs.getD i 0 > zs.getD (i + 1 + d) 0 then -(inS zs i (outS zs i) d) else inS zs i (outS zs i) d) := fun _ => rfl
      generalize zs.getD i 0 = x at *
      have HI : Hid (∀ d, i + 1 + d = n → inS zs i (outS zs i) d = outS zs (i + 1)) := fun d hd => by
        show inS zs i (outS zs i) d = inS zs i (outS zs i) (zs.length - (i + 1))
        have : d = zs.length - (i + 1) := by rw [HL.out]; omega
        rw [← this]
      go_wp2_with fail
      · have hce : cap = i + 1 := by assumption
        subst hce
        have hm : i + 1 + (n - (i + 1)) = n := by omega
        have hm0 : n - (i + 1) = 0 := by omega
        have HM0 : Hid _ := hm0
        clear hm0
        generalize n - (i + 1) = m at *
        go_loop [3, 20] (fun ss ks => ks = .int .i64 0 ∧ ss = .int .i64 (outS zs i)) (fun _ _ => 0)
        case atStart => exact ⟨rfl, rfl⟩
        case round =>
          obtain ⟨rfl, rfl⟩ := hrel
          have HI2 : Hid (outS zs i = outS zs (i + 1)) := HI.out 0 (by have := HM0.out; omega)
          have hm00 : m ≤ 0 := by have := HM0.out; omega
          go_wp2_with fail
          go_round
          case rel => exact ⟨i + 1, by omega, by go_num, by rw [HI2.out]⟩
          case measure => simp [intOf]; omega
      · have hm : i + 1 + (n - (i + 1)) = n := by omega
        have hmc : n - (i + 1) ≤ cap - (i + 1) := by omega
        have hc2 : cap - (i + 1) ≤ 9223372036854775807 := by omega
        generalize n - (i + 1) = m at *
        generalize cap - (i + 1) = c at *
        go_loop [3, 20] (fun ss ks => ∃ d : Nat, d ≤ m ∧ ks = .int .i64 (d : Int) ∧ ss = .int .i64 (inS zs i (outS zs i) d)) (fun _ ks => m - (intOf ks).toNat)
        case atStart => exact ⟨0, by omega, by simp, rfl⟩
        case round =>
          obtain ⟨d, hd, rfl, rfl⟩ := hrel
          by_cases hdm : d < m
          · have c2 : w.cell? ⟨b, off + (i + 1) + d, none⟩ = some (.int .i64 (zs.getD (i + 1 + d) 0)) := by
              have := HC.out (i + 1 + d) (by omega)
              rwa [← Nat.add_assoc] at this
            have HD : Hid _ := HX.out d
            obtain ⟨s0, s1⟩ := inS_bd zs i _ (outS_bd zs i) d
            generalize zs.getD (i + 1 + d) 0 = y at *
            generalize inS zs i (outS zs i) d = s at *
            by_cases hxy : y < x
            · have HI2 : Hid (inS zs i (outS zs i) (d + 1) = -s) := by have := HD.out; rwa [if_pos hxy] at this
              have hd2 : decide (y < x) = true := decide_eq_true hxy
              clear HD
              go_wp2_with fail
              go_round
              case rel => exact ⟨d + 1, by omega, by go_num, by rw [HI2.out]⟩
              case measure => simp [intOf]; omega
            · have HI2 : Hid (inS zs i (outS zs i) (d + 1) = s) := by have := HD.out; rwa [if_neg hxy] at this
              have hd2 : decide (y < x) = false := decide_eq_false hxy
              clear HD
              go_wp2_with fail
              go_round
              case rel => exact ⟨d + 1, by omega, by go_num, by rw [HI2.out]⟩
              case measure => simp [intOf]; omega
          · have HI2 : Hid (inS zs i (outS zs i) d = outS zs (i + 1)) := HI.out d (by omega)
            go_wp2_with fail
            go_round
            case rel => exact ⟨i + 1, by omega, by go_num, by rw [HI2.out]⟩
            case measure => simp [intOf]; omega
    · have HE : Hid (outS zs i = outS zs n) := by
        have : i = n := by omega
        show outS zs i = outS zs n
        rw [this]
      go_wp2_with fail
      go_ret
      exact ⟨by first | rfl | (rw [HE.out]; rfl), rfl⟩

end Go.Proofs.Ytjjcljdbmgjoeaa
