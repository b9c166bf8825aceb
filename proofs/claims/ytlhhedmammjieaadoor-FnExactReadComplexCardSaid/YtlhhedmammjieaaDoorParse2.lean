/- internal/strconv.ParseUint at base 16 and 32 bits: the walk. -/
import Derived.Test.YtlhhedmammjieaaDoorParse
import Derived.Lib.AtoiErrMem
namespace Go.Proofs.YtlhhedmammjieaaDoor
open Go.RowKit

theorem lower_any (c : Int) (w : World) : Calls Tryd.prog 60 #[.int .u8 c] w fun e w' => e = .returned (.int .u8 (bits .or .u8 c 32)) ∧ w' = w := by
  go_enter Tryd.func60, Tryd.ntmps60
  go_wp2
  go_ret
  exact ⟨rfl, rfl⟩

set_option maxHeartbeats 32000000 in
set_option maxRecDepth 100000 in
theorem parse16 (t : ByteArray) (hmax : t.size ≤ 281474976710656) (w : World) : Calls Tryd.prog 47 #[.string t, .int .i64 16, .int .i64 32] w fun e w' => PU t.data.toList e ∧ Below w.heap.size w w' := by
  by_cases hne : t.size = 0
  · have hG : Hid (∀ m, Good t.data.toList m → False) := fun m h => by
      have := congrArg List.length h.2
      rw [hexPad_length, Lib.size_eq t |>.symm] at this
      omega
    have ht : t = ⟨#[]⟩ := by
      apply Go.WideShapes.bytes_inj
      have : t.data.toList.length = 0 := by rw [← Lib.size_eq]; exact hne
      exact List.eq_nil_of_length_eq_zero this
    subst ht
    go_enter Tryd.func47, Tryd.ntmps47
    go_wp2
    go_ret2
    exact ⟨⟨_, _, rfl, .inr (.inr rfl), by omega, by omega, fun m h => (hG.out m h).elim⟩, Below.refl _ _⟩
  · have hemp : t.toList.isEmpty = false := by
      rw [← decide_eq_emptyBytes]
      exact decide_eq_false (fun h => hne (by rw [h]; rfl))
    have hcv := Lib.run_convert_string_bytes (P := Tryd.prog) w 9 62 5 t (u := .string) Tryd.underlying9 Tryd.underlying62 Tryd.underlying5
    have hB : ∀ j, j < t.size → (Lib.bytesWorld w 5 t).cell? ⟨w.heap.size, j, none⟩ = some (.int .u8 (t.data.toList.getD j 0).toNat) := fun j hj => Lib.bytesWorld_cell w 5 t j hj
    have HBW : Hid (Below w.heap.size w (Lib.bytesWorld w 5 t)) := Lib.bytesWorld_below _ _ _
    obtain ⟨W1, hW1⟩ : ∃ W1, W1 = Lib.bytesWorld w 5 t := ⟨_, rfl⟩
    rw [← hW1] at hcv hB HBW
    clear hW1
    obtain ⟨bs, hL⟩ : ∃ bs, bs = t.data.toList := ⟨_, rfl⟩
    have hLn : bs.length = t.size := by rw [hL, Lib.size_eq]
    rw [← hL] at hB ⊢
    clear hL
    go_enter Tryd.func47, Tryd.ntmps47
    go_wp2
    go_loop [12, 13, 101] (fun vu vn vi => ∃ (k : Nat) (a : Int), vu = .bool false ∧ vn = .int .u64 a ∧ vi = .int .i64 k ∧ k ≤ t.size ∧ 0 ≤ a ∧ a ≤ 4294967295 ∧ Hid (∀ m, Good bs m → a = ((m / 16 ^ (8 - k) : Nat) : Int))) (fun _ _ vi => t.size - (intOf vi).toNat)
    case atStart => exact ⟨0, 0, rfl, rfl, rfl, by omega, by omega, by omega, fun m h => by
      have h1 : m / 16 ^ (8 - 0) = 0 := Nat.div_eq_of_lt h.1
      rw [h1]; rfl⟩
    case round =>
      obtain ⟨k, a, rfl, rfl, rfl, hk, ha0, ha1, HA⟩ := hrel
      by_cases hkn : k < t.size
      · have hc := hB k hkn
        have hget : bs.getD k 0 = bs[k]'(by omega) := by simp [List.getD, List.getElem?_eq_getElem (show k < bs.length by omega)]
        have hkc : bs[k]? = some (bs[k]'(by omega)) := List.getElem?_eq_getElem (by omega)
        rw [hget] at hc
        generalize bs[k]'(by omega) = c at hc hkc
        have hc256 : c.toNat < 256 := c.toNat_lt
        have HG : Hid (∀ m, Good bs m → k < 8 ∧ ∃ q, q < 16 ∧ c = hexDig q ∧ m / 16 ^ (8 - (k + 1)) = 16 * (m / 16 ^ (8 - k)) + q) := fun m h => good_step h hkc
        clear hB hget hkc
        by_cases hdig : 48 ≤ c.toNat ∧ c.toNat ≤ 57
        · obtain ⟨hd0, hd1⟩ := hdig
          have HN : Hid (∀ m, Good bs m → a * 16 + ((c.toNat : Int) - 48) = ((m / 16 ^ (8 - (k + 1)) : Nat) : Int)) := fun m h => by
            obtain ⟨h8, q, hq, rfl, e⟩ := HG.out m h
            have hq10 : q < 10 := by
              rcases Nat.lt_or_ge q 10 with h' | h'
              · exact h'
              · have := hexDig_great (q := q) (by omega) hq; omega
            have h1 := hexDig_small hq10
            have h2 := HA.out m h
            omega
          have HM : Hid (∀ m, Good bs m → a * 16 + ((c.toNat : Int) - 48) ≤ 4294967295) := fun m h => by
            have h1 := HN.out m h
            have h2 : m / 16 ^ (8 - (k + 1)) ≤ m := Nat.div_le_self _ _
            have h3 := h.1
            omega
          clear HG
          by_cases hov : 4294967295 < a * 16 + ((c.toNat : Int) - 48)
          · go_wp2
            go_ret2
            exact ⟨⟨_, _, rfl, .inr (.inl rfl), by omega, by omega, fun m h => absurd (HM.out m h) (by omega)⟩, HBW.out⟩
          · go_wp2
            refine ⟨⟨k + 1, a * 16 + ((c.toNat : Int) - 48), rfl, rfl, by congr 1, by omega, by omega, by omega, HN⟩, by simp [intOf]; omega⟩
        · have HQ : Hid (∀ m, Good bs m → ∃ q, 10 ≤ q ∧ q < 16 ∧ c.toNat = 87 + q ∧ m / 16 ^ (8 - (k + 1)) = 16 * (m / 16 ^ (8 - k)) + q) := fun m h => by
            obtain ⟨h8, q, hq, rfl, e⟩ := HG.out m h
            rcases Nat.lt_or_ge q 10 with h' | h'
            · have := hexDig_small h'; exact absurd ⟨by omega, by omega⟩ hdig
            · exact ⟨q, h', hq, hexDig_great (by omega) hq, e⟩
          clear HG
          by_cases h95 : c.toNat = 95
          · have hF : Hid (∀ m, Good bs m → False) := fun m h => by
              obtain ⟨q, _, _, h1, _⟩ := HQ.out m h
              omega
            have hi95 : (c.toNat : Int) = 95 := by omega
            have hu : bits BinOp.or .u8 95 32 = 127 := by decide
            rw [hi95] at hc
            clear HQ HA
            go_wp2_with (go_at_call 60; refine (lower_any _ _).mono ?_; rw [hu]; rintro e w' ⟨rfl, rfl⟩)
            go_ret2
            exact ⟨⟨_, _, rfl, .inr (.inr rfl), by omega, by omega, fun m h => (hF.out m h).elim⟩, HBW.out⟩
          · obtain ⟨L, hL⟩ : ∃ L, bits BinOp.or .u8 (c.toNat : Int) 32 = L := ⟨_, rfl⟩
            have hv0 : 0 ≤ L := by rw [← hL]; exact bits_lo_u8 .or (c.toNat : Int) 32
            have hv1 : L ≤ 255 := by rw [← hL]; exact bits_hi_u8 .or (c.toNat : Int) 32
            have HLq : Hid (∀ m, Good bs m → ∃ q : Nat, 10 ≤ q ∧ q < 16 ∧ L = 87 + (q : Int) ∧ m / 16 ^ (8 - (k + 1)) = 16 * (m / 16 ^ (8 - k)) + q) := fun m h => by
              obtain ⟨q, h1, h2, h3, h4⟩ := HQ.out m h
              refine ⟨q, h1, h2, ?_, h4⟩
              have := lower_great ⟨q, h2⟩ h1
              rw [← hL, h3, this]; simp
            have hn95 : ((c.toNat : Int) == 95) = false := by simp; omega
            have hdig' : ¬ (48 ≤ (c.toNat : Int) ∧ (c.toNat : Int) ≤ 57) := by omega
            clear HQ hdig
            by_cases hlet : 97 ≤ L ∧ L ≤ 122
            · obtain ⟨l0, l1⟩ := hlet
              by_cases hbig : 103 ≤ L
              · have hF : Hid (∀ m, Good bs m → False) := fun m h => by
                  obtain ⟨q, _, _, h1, _⟩ := HLq.out m h
                  omega
                clear HLq HA
                by_cases hd1 : 48 ≤ (c.toNat : Int)
                · have hd2 : ¬ (c.toNat : Int) ≤ 57 := by omega
                  go_wp2_with (go_at_call 60; refine (lower_any _ _).mono ?_; rw [hL]; rintro e w' ⟨rfl, rfl⟩)
                  go_ret2
                  exact ⟨⟨_, _, rfl, .inr (.inr rfl), by omega, by omega, fun m h => (hF.out m h).elim⟩, HBW.out⟩
                · go_wp2_with (go_at_call 60; refine (lower_any _ _).mono ?_; rw [hL]; rintro e w' ⟨rfl, rfl⟩)
                  go_ret2
                  exact ⟨⟨_, _, rfl, .inr (.inr rfl), by omega, by omega, fun m h => (hF.out m h).elim⟩, HBW.out⟩
              · have HN : Hid (∀ m, Good bs m → a * 16 + (L - 87) = ((m / 16 ^ (8 - (k + 1)) : Nat) : Int)) := fun m h => by
                  obtain ⟨q, h1, h2, h3, h4⟩ := HLq.out m h
                  have h5 := HA.out m h
                  omega
                have HM : Hid (∀ m, Good bs m → a * 16 + (L - 87) ≤ 4294967295) := fun m h => by
                  have h1 := HN.out m h
                  have h2 : m / 16 ^ (8 - (k + 1)) ≤ m := Nat.div_le_self _ _
                  have h3 := h.1
                  omega
                clear HLq HA
                by_cases hd1 : 48 ≤ (c.toNat : Int)
                · have hd2 : ¬ (c.toNat : Int) ≤ 57 := by omega
                  by_cases hov : 4294967295 < a * 16 + (L - 87)
                  · go_wp2_with (go_at_call 60; refine (lower_any _ _).mono ?_; rw [hL]; rintro e w' ⟨rfl, rfl⟩)
                    go_ret2
                    exact ⟨⟨_, _, rfl, .inr (.inl rfl), by omega, by omega, fun m h => absurd (HM.out m h) (by omega)⟩, HBW.out⟩
                  · go_wp2_with (go_at_call 60; refine (lower_any _ _).mono ?_; rw [hL]; rintro e w' ⟨rfl, rfl⟩)
                    refine ⟨⟨k + 1, a * 16 + (L - 87), rfl, by first | rfl | (congr 1; omega), by congr 1, by omega, by omega, by omega, HN⟩, by simp [intOf]; omega⟩
                · by_cases hov : 4294967295 < a * 16 + (L - 87)
                  · go_wp2_with (go_at_call 60; refine (lower_any _ _).mono ?_; rw [hL]; rintro e w' ⟨rfl, rfl⟩)
                    go_ret2
                    exact ⟨⟨_, _, rfl, .inr (.inl rfl), by omega, by omega, fun m h => absurd (HM.out m h) (by omega)⟩, HBW.out⟩
                  · go_wp2_with (go_at_call 60; refine (lower_any _ _).mono ?_; rw [hL]; rintro e w' ⟨rfl, rfl⟩)
                    refine ⟨⟨k + 1, a * 16 + (L - 87), rfl, by first | rfl | (congr 1; omega), by congr 1, by omega, by omega, by omega, HN⟩, by simp [intOf]; omega⟩
            · have hF : Hid (∀ m, Good bs m → False) := fun m h => by
                obtain ⟨q, _, _, h1, _⟩ := HLq.out m h
                exact hlet ⟨by omega, by omega⟩
              clear HLq HA
              by_cases hd1 : 48 ≤ (c.toNat : Int) <;> by_cases hl1 : 97 ≤ L
              all_goals try have hd2 : ¬ (c.toNat : Int) ≤ 57 := by omega
              all_goals try have hl2 : ¬ L ≤ 122 := by omega
              all_goals (go_wp2_with (go_at_call 60; refine (lower_any _ _).mono ?_; rw [hL]; rintro e w' ⟨rfl, rfl⟩))
              all_goals go_ret2
              all_goals exact ⟨⟨_, _, rfl, .inr (.inr rfl), by omega, by omega, fun m h => (hF.out m h).elim⟩, HBW.out⟩
      · have hkk : k = t.size := by omega
        subst hkk
        have HE : Hid (∀ m, Good bs m → a = (m : Int)) := fun m h => by
          have h1 := HA.out m h
          have h2 : t.size = 8 := by
            rw [← hLn, h.2, hexPad_length]
          rw [h2, Nat.sub_self, Nat.pow_zero, Nat.div_one] at h1
          exact h1
        clear HA
        go_wp2
        go_ret2
        exact ⟨⟨_, _, rfl, .inl rfl, ha0, ha1, fun m h => ⟨HE.out m h, rfl⟩⟩, HBW.out⟩

end Go.Proofs.YtlhhedmammjieaaDoor
