/- The reading of a decimal numeral: reference and program. -/
import Derived.Test.YtjjcljdbmgjoeaaDoorProg
import Derived.WalkKit
import Derived.WalkSpells
import Derived.WalkLawsBesides
import Derived.IntWalk
import Derived.Handy
import Derived.Lib.AppendIntMem
import Derived.Test.YtjjcljdbmgjoeaaDoorDecLaw
import Derived.Test.YtjjcljdbmgjoeaaDoorReadPlain
import Derived.Test.YtjjcljdbmgjoeaaDoorPar
namespace Go.Proofs.YtjjcljdbmgjoeaaDoor
open Go.RowKit

/-- a number and whether there is one, as results -/
def numOk (p : Int × Bool) : Value := .tuple #[.int .i64 p.1, .bool p.2]

theorem in_spec (n a b : Int) (w : World) : Calls Tryd.prog 31 #[.int .i64 n, .int .i64 a, .int .i64 b] w fun e w' => e = .returned (.bool (decide (a ≤ n ∧ n ≤ b))) ∧ w' = w := by
  go_enter Tryd.func31, Tryd.ntmps31
  by_cases h1 : a ≤ n <;> by_cases h2 : n ≤ b <;> (go_wp2; go_ret; simp [h1, h2])

theorem in_impl (n a b : Int) (w : World) : Calls Tryd.prog 23 #[.int .i64 n, .int .i64 a, .int .i64 b] w fun e w' => e = .returned (.bool (decide (a ≤ n ∧ n ≤ b))) ∧ w' = w := by
  go_enter Tryd.func23, Tryd.ntmps23
  by_cases h1 : a ≤ n <;> by_cases h2 : n ≤ b <;> (go_wp2; go_ret; simp [h1, h2])

theorem take_snoc (s : ByteArray) (k : Nat) (h : k < s.size) : s.data.toList.take (k + 1) = s.data.toList.take k ++ [s[k]] := by
  rw [List.take_succ_eq_append_getElem (by simpa using h)]; rfl

theorem str_ne (l : List UInt8) (s : ByteArray) (h : l ≠ s.data.toList) : ((⟨l.toArray⟩ : ByteArray).toList == s.toList) = false := by
  rw [beq_eq_false_iff_ne, ByteArray.toList_eq, ByteArray.toList_eq]
  exact h

theorem read_impl (s : ByteArray) (w : World) (hs : s.size ≤ 281474976710656) (htab : Lib.TabIs Tryd.prog w "internal/strconv.uint64pow10" .u64 Lib.pow10Tab) (tp tp' : TypeId) (p p' : Value)
    (hv : w.var? Tryd.prog "strconv.ErrSyntax" = some #[.iface tp p]) (hv' : w.var? Tryd.prog "strconv.ErrRange" = some #[.iface tp' p']) :
    Calls Tryd.prog 10 #[.string s] w fun e w' => e = .returned (numOk (rdec s.data.toList)) ∧ Below w.heap.size w w' := by
  have hT := Lib.tabBelow_of_tabIs htab
  by_cases hp : ∃ v, Lib.parseIntB 64 s.data.toList = .ok v
  · obtain ⟨v, hp⟩ := hp
    rw [rdec_of_parse hp]
    by_cases hr : -1000000000000000 ≤ v ∧ v ≤ 1000000000000000
    · by_cases he : Lib.itoa v = s.data.toList
      · rw [if_pos ⟨hr.1, hr.2, he⟩]
        obtain ⟨hr0, hr1⟩ := hr
        have HE : Hid _ := he
        clear he
        go_enter Tryd.func10, Tryd.ntmps10
        go_wp2_with (go_at_call 22; refine (Tryd.strconv_ParseInt_10_at64_ok s (by omega) v hp w).mono ?_; rintro e w1 ⟨rfl, hw1⟩; refine Hid.out ?_)
        refine Lib.hid ?_
        have HB : Hid (Below w.heap.size w w1) := by
          rcases hw1 with rfl | ⟨t, rfl⟩
          · exact Below.refl _ _
          · exact Lib.bytesWorld_below _ _ _
        clear hw1
        go_wp2_with (first | (go_at_call 23; refine (in_impl _ _ _ _).mono ?_; rintro e w2 ⟨rfl, hw2⟩; subst hw2) | (go_at_call 8; refine (decimal_impl v _ (by omega) (by omega) (hT.on HB.out).here).mono ?_; rintro e w3 ⟨rfl, hb2⟩; refine Hid.out ?_))
        refine Lib.hid ?_
        have HB2 : Hid (Below w.heap.size w w3) := HB.out.trans (hb2.mono HB.out.size)
        have e1 : (⟨(Lib.itoa v).toArray⟩ : ByteArray) = s := by rw [HE.out]
        rw [e1]
        go_wp2
        go_ret2
        exact ⟨rfl, HB2.out⟩
      · rw [if_neg (fun h => he h.2.2)]
        obtain ⟨hr0, hr1⟩ := hr
        have e1 := str_ne _ s he
        clear he
        go_enter Tryd.func10, Tryd.ntmps10
        go_wp2_with (go_at_call 22; refine (Tryd.strconv_ParseInt_10_at64_ok s (by omega) v hp w).mono ?_; rintro e w1 ⟨rfl, hw1⟩; refine Hid.out ?_)
        refine Lib.hid ?_
        have HB : Hid (Below w.heap.size w w1) := by
          rcases hw1 with rfl | ⟨t, rfl⟩
          · exact Below.refl _ _
          · exact Lib.bytesWorld_below _ _ _
        clear hw1
        go_wp2_with (first | (go_at_call 23; refine (in_impl _ _ _ _).mono ?_; rintro e w2 ⟨rfl, hw2⟩; subst hw2) | (go_at_call 8; refine (decimal_impl v _ (by omega) (by omega) (hT.on HB.out).here).mono ?_; rintro e w3 ⟨rfl, hb2⟩; refine Hid.out ?_))
        refine Lib.hid ?_
        have HB2 : Hid (Below w.heap.size w w3) := HB.out.trans (hb2.mono HB.out.size)
        generalize (⟨(Lib.itoa v).toArray⟩ : ByteArray) = x at *
        go_wp2
        go_ret2
        exact ⟨rfl, HB2.out⟩
    · rw [if_neg (fun h => hr ⟨h.1, h.2.1⟩)]
      have hd : decide (-1000000000000000 ≤ v ∧ v ≤ 1000000000000000) = false := decide_eq_false hr
      go_enter Tryd.func10, Tryd.ntmps10
      go_wp2_with (go_at_call 22; refine (Tryd.strconv_ParseInt_10_at64_ok s (by omega) v hp w).mono ?_; rintro e w1 ⟨rfl, hw1⟩; refine Hid.out ?_)
      refine Lib.hid ?_
      have HB : Hid (Below w.heap.size w w1) := by
        rcases hw1 with rfl | ⟨t, rfl⟩
        · exact Below.refl _ _
        · exact Lib.bytesWorld_below _ _ _
      clear hw1
      go_wp2_with (go_at_call 23; refine (in_impl _ _ _ _).mono ?_; rintro e w2 ⟨rfl, hw2⟩; subst hw2; rw [hd])
      go_ret2
      exact ⟨rfl, HB.out⟩
  · rw [rdec_of_no (fun v h => hp ⟨v, h⟩)]
    go_enter Tryd.func10, Tryd.ntmps10
    go_wp2_with (go_at_call 22; refine (Tryd.strconv_ParseInt_10_at64_bad s hs (fun v h => hp ⟨v, h⟩) tp tp' p p' w hv hv').mono ?_; rintro e w1 ⟨x, T, N, rfl, hb1⟩; refine Hid.out ?_)
    refine Lib.hid ?_
    have HB : Hid (Below w.heap.size w w1) := hb1
    clear hb1
    go_wp2
    go_ret2
    exact ⟨rfl, HB.out⟩

theorem foldVal_pos {t : List UInt8} (c : UInt8) (r : List UInt8) (h : t = c :: r) (hc : ¬ (c.toNat : Int) = 45) : foldVal t = (dval 0 t : Int) := by
  unfold foldVal
  rw [if_neg]
  intro e
  rw [h] at e
  have : c = 45 := by simpa using e
  exact hc (by rw [this]; rfl)
theorem foldVal_neg {t : List UInt8} (c : UInt8) (r : List UInt8) (h : t = c :: r) (hc : (c.toNat : Int) = 45) : foldVal t = -(dval 0 t : Int) := by
  unfold foldVal
  rw [if_pos]
  rw [h]
  have : c = 45 := UInt8.toNat_inj.1 (by show c.toNat = 45; omega)
  simp [this]

set_option maxRecDepth 20000 in
set_option maxHeartbeats 2000000 in
theorem read_spec (s : ByteArray) (w : World) (hs : s.size ≤ 281474976710656) :
    Calls Tryd.prog 21 #[.string s] w fun e w' => e = .returned (numOk (rdec s.data.toList)) ∧ Below w.heap.size w w' := by
  have hsz : s.data.toList.length = s.size := Array.length_toList
  by_cases hlen : s.size < 1 ∨ 17 < s.size
  · rw [rdec_of_length (by omega)]
    go_enter Tryd.func21, Tryd.ntmps21
    by_cases h1 : s.size < 1
    · go_wp2
      go_ret2
      exact ⟨rfl, Below.refl _ _⟩
    · have h17 : 17 < s.size := by omega
      go_wp2
      go_ret2
      exact ⟨rfl, Below.refl _ _⟩
  · obtain ⟨c, r, hcr⟩ : ∃ c r, s.data.toList = c :: r := by
      cases hd : s.data.toList with
      | nil => rw [hd] at hsz; simp at hsz; omega
      | cons c r => exact ⟨c, r, rfl⟩
    have h1 : ¬ s.size < 1 := by omega
    have h17 : ¬ 17 < s.size := by omega
    have h0s : 0 < s.size := by omega
    have hc0 : s[0] = c := by
      have : s[0] = s.data.toList[0]'(by omega) := rfl
      rw [this]; simp [hcr]
    obtain ⟨m, hm⟩ : ∃ m : Nat, dval 0 s.data.toList = m := ⟨_, rfl⟩
    have HP : ¬ (s[0].toNat : Int) = 45 → foldVal s.data.toList = (m : Int) := by rw [hc0, ← hm]; exact foldVal_pos c r hcr
    have HN : (s[0].toNat : Int) = 45 → foldVal s.data.toList = -(m : Int) := by rw [hc0, ← hm]; exact foldVal_neg c r hcr
    have hb : ∀ k : Nat, dval 0 (s.data.toList.take k) < 100000000000000000 := fun k => by
      have h := dval_lt (s.data.toList.take k) 0 0 (by decide)
      have h2 : (10 : Nat) ^ (0 + (s.data.toList.take k).length) ≤ 10 ^ 17 := Nat.pow_le_pow_right (by decide) (by rw [Nat.zero_add, List.length_take]; omega)
      have h3 : (10 : Nat) ^ 17 = 100000000000000000 := by decide
      omega
    have hfb := hb s.size
    have ht : s.data.toList.take s.size = s.data.toList := List.take_of_length_le (by omega)
    rw [ht, hm] at hfb
    have HT : Hid (dval 0 (s.data.toList.take s.size) = m) := by show _ = _; rw [ht, hm]
    have HST : Hid (∀ k (h : k < s.size), dval 0 (s.data.toList.take (k + 1)) = if 48 ≤ s[k].toNat ∧ s[k].toNat ≤ 57 then 10 * dval 0 (s.data.toList.take k) + (s[k].toNat - 48) else dval 0 (s.data.toList.take k)) := fun k h => by
      rw [take_snoc s k h, dval_snoc]
    have HB' : Hid (∀ k : Nat, dval 0 (s.data.toList.take k) < 100000000000000000) := hb
    have hc256 : (s[0].toNat : Int) < 256 := by have := s[0].toNat_lt; omega
    clear hcr hc0 ht hm hb hlen
    have hres : rdec s.data.toList = if -1000000000000000 ≤ foldVal s.data.toList ∧ foldVal s.data.toList ≤ 1000000000000000 ∧ Lib.itoa (foldVal s.data.toList) = s.data.toList then (foldVal s.data.toList, true) else (0, false) := rfl
    by_cases hs0 : (s[0].toNat : Int) = 45
    · rw [HN hs0] at hres
      clear HP HN
      by_cases hr : -1000000000000000 ≤ (-(m : Int)) ∧ (-(m : Int)) ≤ 1000000000000000
      · have hd : decide (-1000000000000000 ≤ (-(m : Int)) ∧ (-(m : Int)) ≤ 1000000000000000) = true := decide_eq_true hr
        by_cases he : Lib.itoa (-(m : Int)) = s.data.toList
        · rw [hres, if_pos ⟨hr.1, hr.2, he⟩]
          obtain ⟨hr0, hr1⟩ := hr
          have HE : Hid _ := he
          clear he hres
          go_enter Tryd.func21, Tryd.ntmps21
          go_wp2
          go_loop [4, 5] (fun x i => ∃ k : Nat, k ≤ s.size ∧ i = .int .i64 k ∧ x = .int .i64 (dval 0 (s.data.toList.take k) : Nat)) (fun _ i => s.size - (intOf i).toNat)
          case atStart => exact ⟨0, Nat.zero_le _, rfl, rfl⟩
          case round =>
            obtain ⟨k, hk, rfl, rfl⟩ := hrel
            by_cases hlt : k < s.size
            · have HS : Hid _ := HST.out k hlt
              have hc : (s[k].toNat : Int) < 256 := by have := s[k].toNat_lt; omega
              have hm := HB'.out k
              generalize dval 0 (s.data.toList.take k) = d at *
              go_wp2
              all_goals (go_round
                         case rel => exact ⟨k + 1, by omega, by go_num, by rw [HS.out]; congr 1; split <;> omega⟩
                         case measure => simp [intOf]; omega)
            · have hk' : k = s.size := by omega
              subst hk'
              rw [HT.out]
              go_wp2_with (first | (go_at_call 31; refine (in_spec _ _ _ _).mono ?_; rintro e w2 ⟨rfl, hw2⟩; subst hw2; rw [hd]) | (go_at_call 19; refine (dec_any (-(m : Int)) _ (by omega) (by omega)).mono ?_; rintro e w3 ⟨rfl, hb2⟩; refine Hid.out ?_))
              refine Lib.hid ?_
              have HB2 : Hid _ := hb2
              clear hb2
              have e1 : (⟨(Lib.itoa (-(m : Int))).toArray⟩ : ByteArray) = s := by rw [HE.out]
              rw [e1]
              go_wp2
              go_ret2
              exact ⟨rfl, HB2.out⟩
        · rw [hres, if_neg (fun h => he h.2.2)]
          obtain ⟨hr0, hr1⟩ := hr
          have E1 : Hid _ := str_ne _ s he
          clear he hres
          go_enter Tryd.func21, Tryd.ntmps21
          go_wp2
          go_loop [4, 5] (fun x i => ∃ k : Nat, k ≤ s.size ∧ i = .int .i64 k ∧ x = .int .i64 (dval 0 (s.data.toList.take k) : Nat)) (fun _ i => s.size - (intOf i).toNat)
          case atStart => exact ⟨0, Nat.zero_le _, rfl, rfl⟩
          case round =>
            obtain ⟨k, hk, rfl, rfl⟩ := hrel
            by_cases hlt : k < s.size
            · have HS : Hid _ := HST.out k hlt
              have hc : (s[k].toNat : Int) < 256 := by have := s[k].toNat_lt; omega
              have hm := HB'.out k
              generalize dval 0 (s.data.toList.take k) = d at *
              go_wp2
              all_goals (go_round
                         case rel => exact ⟨k + 1, by omega, by go_num, by rw [HS.out]; congr 1; split <;> omega⟩
                         case measure => simp [intOf]; omega)
            · have hk' : k = s.size := by omega
              subst hk'
              rw [HT.out]
              go_wp2_with (first | (go_at_call 31; refine (in_spec _ _ _ _).mono ?_; rintro e w2 ⟨rfl, hw2⟩; subst hw2; rw [hd]) | (go_at_call 19; refine (dec_any (-(m : Int)) _ (by omega) (by omega)).mono ?_; rintro e w3 ⟨rfl, hb2⟩; refine Hid.out ?_))
              refine Lib.hid ?_
              have HB2 : Hid _ := hb2
              clear hb2
              have e1 := E1.out
              generalize (⟨(Lib.itoa (-(m : Int))).toArray⟩ : ByteArray) = x at *
              go_wp2
              go_ret2
              exact ⟨rfl, HB2.out⟩
      · rw [hres, if_neg (fun h => hr ⟨h.1, h.2.1⟩)]
        have hd : decide (-1000000000000000 ≤ (-(m : Int)) ∧ (-(m : Int)) ≤ 1000000000000000) = false := decide_eq_false hr
        clear hres
        go_enter Tryd.func21, Tryd.ntmps21
        go_wp2
        go_loop [4, 5] (fun x i => ∃ k : Nat, k ≤ s.size ∧ i = .int .i64 k ∧ x = .int .i64 (dval 0 (s.data.toList.take k) : Nat)) (fun _ i => s.size - (intOf i).toNat)
        case atStart => exact ⟨0, Nat.zero_le _, rfl, rfl⟩
        case round =>
          obtain ⟨k, hk, rfl, rfl⟩ := hrel
          by_cases hlt : k < s.size
          · have HS : Hid _ := HST.out k hlt
            have hc : (s[k].toNat : Int) < 256 := by have := s[k].toNat_lt; omega
            have hm := HB'.out k
            generalize dval 0 (s.data.toList.take k) = d at *
            go_wp2
            all_goals (go_round
                       case rel => exact ⟨k + 1, by omega, by go_num, by rw [HS.out]; congr 1; split <;> omega⟩
                       case measure => simp [intOf]; omega)
          · have hk' : k = s.size := by omega
            subst hk'
            rw [HT.out]
            go_wp2_with (go_at_call 31; refine (in_spec _ _ _ _).mono ?_; rintro e w2 ⟨rfl, hw2⟩; subst hw2; rw [hd])
            go_ret2
            exact ⟨rfl, Below.refl _ _⟩
    · rw [HP hs0] at hres
      clear HP HN
      by_cases hr : -1000000000000000 ≤ (m : Int) ∧ (m : Int) ≤ 1000000000000000
      · have hd : decide (-1000000000000000 ≤ (m : Int) ∧ (m : Int) ≤ 1000000000000000) = true := decide_eq_true hr
        by_cases he : Lib.itoa (m : Int) = s.data.toList
        · rw [hres, if_pos ⟨hr.1, hr.2, he⟩]
          obtain ⟨hr0, hr1⟩ := hr
          have HE : Hid _ := he
          clear he hres
          go_enter Tryd.func21, Tryd.ntmps21
          go_wp2
          go_loop [4, 5] (fun x i => ∃ k : Nat, k ≤ s.size ∧ i = .int .i64 k ∧ x = .int .i64 (dval 0 (s.data.toList.take k) : Nat)) (fun _ i => s.size - (intOf i).toNat)
          case atStart => exact ⟨0, Nat.zero_le _, rfl, rfl⟩
          case round =>
            obtain ⟨k, hk, rfl, rfl⟩ := hrel
            by_cases hlt : k < s.size
            · have HS : Hid _ := HST.out k hlt
              have hc : (s[k].toNat : Int) < 256 := by have := s[k].toNat_lt; omega
              have hm := HB'.out k
              generalize dval 0 (s.data.toList.take k) = d at *
              go_wp2
              all_goals (go_round
                         case rel => exact ⟨k + 1, by omega, by go_num, by rw [HS.out]; congr 1; split <;> omega⟩
                         case measure => simp [intOf]; omega)
            · have hk' : k = s.size := by omega
              subst hk'
              rw [HT.out]
              go_wp2_with (first | (go_at_call 31; refine (in_spec _ _ _ _).mono ?_; rintro e w2 ⟨rfl, hw2⟩; subst hw2; rw [hd]) | (go_at_call 19; refine (dec_any (m : Int) _ (by omega) (by omega)).mono ?_; rintro e w3 ⟨rfl, hb2⟩; refine Hid.out ?_))
              refine Lib.hid ?_
              have HB2 : Hid _ := hb2
              clear hb2
              have e1 : (⟨(Lib.itoa (m : Int)).toArray⟩ : ByteArray) = s := by rw [HE.out]
              rw [e1]
              go_wp2
              go_ret2
              exact ⟨rfl, HB2.out⟩
        · rw [hres, if_neg (fun h => he h.2.2)]
          obtain ⟨hr0, hr1⟩ := hr
          have E1 : Hid _ := str_ne _ s he
          clear he hres
          go_enter Tryd.func21, Tryd.ntmps21
          go_wp2
          go_loop [4, 5] (fun x i => ∃ k : Nat, k ≤ s.size ∧ i = .int .i64 k ∧ x = .int .i64 (dval 0 (s.data.toList.take k) : Nat)) (fun _ i => s.size - (intOf i).toNat)
          case atStart => exact ⟨0, Nat.zero_le _, rfl, rfl⟩
          case round =>
            obtain ⟨k, hk, rfl, rfl⟩ := hrel
            by_cases hlt : k < s.size
            · have HS : Hid _ := HST.out k hlt
              have hc : (s[k].toNat : Int) < 256 := by have := s[k].toNat_lt; omega
              have hm := HB'.out k
              generalize dval 0 (s.data.toList.take k) = d at *
              go_wp2
              all_goals (go_round
                         case rel => exact ⟨k + 1, by omega, by go_num, by rw [HS.out]; congr 1; split <;> omega⟩
                         case measure => simp [intOf]; omega)
            · have hk' : k = s.size := by omega
              subst hk'
              rw [HT.out]
              go_wp2_with (first | (go_at_call 31; refine (in_spec _ _ _ _).mono ?_; rintro e w2 ⟨rfl, hw2⟩; subst hw2; rw [hd]) | (go_at_call 19; refine (dec_any (m : Int) _ (by omega) (by omega)).mono ?_; rintro e w3 ⟨rfl, hb2⟩; refine Hid.out ?_))
              refine Lib.hid ?_
              have HB2 : Hid _ := hb2
              clear hb2
              have e1 := E1.out
              generalize (⟨(Lib.itoa (m : Int)).toArray⟩ : ByteArray) = x at *
              go_wp2
              go_ret2
              exact ⟨rfl, HB2.out⟩
      · rw [hres, if_neg (fun h => hr ⟨h.1, h.2.1⟩)]
        have hd : decide (-1000000000000000 ≤ (m : Int) ∧ (m : Int) ≤ 1000000000000000) = false := decide_eq_false hr
        clear hres
        go_enter Tryd.func21, Tryd.ntmps21
        go_wp2
        go_loop [4, 5] (fun x i => ∃ k : Nat, k ≤ s.size ∧ i = .int .i64 k ∧ x = .int .i64 (dval 0 (s.data.toList.take k) : Nat)) (fun _ i => s.size - (intOf i).toNat)
        case atStart => exact ⟨0, Nat.zero_le _, rfl, rfl⟩
        case round =>
          obtain ⟨k, hk, rfl, rfl⟩ := hrel
          by_cases hlt : k < s.size
          · have HS : Hid _ := HST.out k hlt
            have hc : (s[k].toNat : Int) < 256 := by have := s[k].toNat_lt; omega
            have hm := HB'.out k
            generalize dval 0 (s.data.toList.take k) = d at *
            go_wp2
            all_goals (go_round
                       case rel => exact ⟨k + 1, by omega, by go_num, by rw [HS.out]; congr 1; split <;> omega⟩
                       case measure => simp [intOf]; omega)
          · have hk' : k = s.size := by omega
            subst hk'
            rw [HT.out]
            go_wp2_with (go_at_call 31; refine (in_spec _ _ _ _).mono ?_; rintro e w2 ⟨rfl, hw2⟩; subst hw2; rw [hd])
            go_ret2
            exact ⟨rfl, Below.refl _ _⟩

end Go.Proofs.YtjjcljdbmgjoeaaDoor
