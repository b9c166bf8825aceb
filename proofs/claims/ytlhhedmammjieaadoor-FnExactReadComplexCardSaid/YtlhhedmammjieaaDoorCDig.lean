/- The reference's eight hexadecimal digits of one part of a complex number. -/
import Derived.Test.YtlhhedmammjieaaDoorListG2
namespace Go.Proofs.YtlhhedmammjieaaDoor
open Go.RowKit Opn

set_option maxRecDepth 20000 in
set_option maxHeartbeats 8000000 in
theorem digits_specC (x : ByteArray) (h8 : x.size = 8) (w : World) : Calls Tryd.prog 38 #[.string x] w fun e w' => e = .returned (fltOk (fdig x.data.toList)) ∧ w' = w := by
  have hxl : x.data.toList.length = x.size := Lib.size_eq x |>.symm
  have HST : Hid (∀ j (h : j < x.size), hval (x.data.toList.take (j + 1)) = 16 * hval (x.data.toList.take j) + nib (x[j])) := fun j h => by
    rw [take_snocG x j h, hval_snoc]
  have HLT : Hid (∀ j, (∀ c ∈ x.data.toList.take j, isHex c) → hval (x.data.toList.take j) < 4294967296) := fun j h => by
    have h1 := (pad_hval _ _ rfl h).1
    have h2 : (16 : Nat) ^ (x.data.toList.take j).length ≤ 16 ^ 8 := Nat.pow_le_pow_right (by decide) (by rw [List.length_take]; omega)
    have h3 : (16 : Nat) ^ 8 = 4294967296 := by decide
    omega
  have HMEM : Hid (∀ j (h : j < x.size), x[j] ∈ x.data.toList) := fun j h => by
    have : x[j] = x.data.toList[j]'(by omega) := rfl
    rw [this]; exact List.getElem_mem _
  have HTK : Hid (x.data.toList.take x.size = x.data.toList) := List.take_of_length_le (by omega)
  have HR : Hid (∃ p, fdig x.data.toList = p) := ⟨_, rfl⟩
  obtain ⟨p, hp⟩ := HR.out
  have HP := Lib.hid hp
  rw [hp]
  clear HR hp
  go_enter Tryd.func38, Tryd.ntmps38
  go_wp2
  go_loop [4, 5, 6] (fun nv ks _d => ∃ j : Nat, j ≤ x.size ∧ ks = .int .i64 j ∧ nv = .int .i64 (hval (x.data.toList.take j) : Nat) ∧ Hid (∀ c ∈ x.data.toList.take j, isHex c)) (fun _ ks _ => x.size - (intOf ks).toNat)
  case atStart => exact ⟨0, by omega, rfl, rfl, fun c hc => by simp at hc⟩
  case round =>
    obtain ⟨j, hj, rfl, rfl, HALL⟩ := hrel
    have hvl := HLT.out j HALL.out
    by_cases hjx : j < x.size
    · have HS := Lib.hid (HST.out j hjx)
      have HT := Lib.hid (take_snocG x j hjx)
      have HMJ := Lib.hid (HMEM.out j hjx)
      have hc256 : (x[j].toNat : Int) < 256 := by have := x[j].toNat_lt; omega
      generalize hval (x.data.toList.take j) = d at *
      by_cases hd : 48 ≤ (x[j].toNat : Int) ∧ (x[j].toNat : Int) ≤ 57
      · obtain ⟨hd0, hd1⟩ := hd
        have hn97 : ¬ 97 ≤ (x[j].toNat : Int) := by omega
        have HALL2 : Hid (∀ c ∈ x.data.toList.take (j + 1), isHex c) := fun c hc => by
          rw [HT.out] at hc
          rcases List.mem_append.1 hc with hc | hc
          · exact HALL.out c hc
          · obtain rfl := List.mem_singleton.1 hc
            exact .inl ⟨by omega, by omega⟩
        go_wp2
        go_round
        case rel => exact ⟨j + 1, by omega, by go_num, by rw [HS.out]; unfold nib; congr 1; split <;> omega, HALL2⟩
        case measure => simp [intOf]; omega
      · by_cases hl : 97 ≤ (x[j].toNat : Int) ∧ (x[j].toNat : Int) ≤ 102
        · obtain ⟨hl0, hl1⟩ := hl
          have hn57 : ¬ (x[j].toNat : Int) ≤ 57 := by omega
          have hn48 : 48 ≤ (x[j].toNat : Int) := by omega
          have HALL2 : Hid (∀ c ∈ x.data.toList.take (j + 1), isHex c) := fun c hc => by
            rw [HT.out] at hc
            rcases List.mem_append.1 hc with hc | hc
            · exact HALL.out c hc
            · obtain rfl := List.mem_singleton.1 hc
              exact .inr ⟨by omega, by omega⟩
          go_wp2
          go_round
          case rel => exact ⟨j + 1, by omega, by go_num, by rw [HS.out]; unfold nib; congr 1; split <;> omega, HALL2⟩
          case measure => simp [intOf]; omega
        · have hbad : ¬ isHex x[j] := fun h => by
            rcases h with h | h
            · exact hd ⟨by omega, by omega⟩
            · exact hl ⟨by omega, by omega⟩
          have HL : Hid (p = (0, false)) := by show _ = _; rw [← HP.out]; exact fdig_bad HMJ.out hbad
          by_cases hd1 : 48 ≤ (x[j].toNat : Int) <;> by_cases hl1 : 97 ≤ (x[j].toNat : Int)
          all_goals try have hd2 : ¬ (x[j].toNat : Int) ≤ 57 := by omega
          all_goals try have hl2 : ¬ (x[j].toNat : Int) ≤ 102 := by omega
          all_goals go_wp2
          all_goals go_ret2
          all_goals exact ⟨by rw [HL.out]; rfl, rfl⟩
    · have hjs : j = x.size := by omega
      subst hjs
      have hall : ∀ c ∈ x.data.toList, isHex c := by
        have h := HALL.out; rw [HTK.out] at h; exact h
      obtain ⟨hv0, hf⟩ := fdig_all (by omega) hall
      rw [HTK.out]
      obtain ⟨v, hvv⟩ : ∃ v, hval x.data.toList = v := ⟨_, rfl⟩
      rw [hvv] at hf hv0 ⊢
      have hbits := bits_spec v
      have hfrom := from_specG v
      clear hall HST HLT HMEM HTK HALL hvl hvv
      by_cases hb : bitsOf v = v
      · rw [if_pos hb] at hf
        have HL : Hid (p = (v, true)) := by show _ = _; rw [← HP.out]; exact hf
        clear hf
        rw [hb] at hbits
        go_wp2_with (first | (go_at_call 33; refine (hfrom _ hv0).mono ?_; rintro e w2 ⟨rfl, hw2⟩; subst hw2) | (go_at_call 34; refine (hbits _ hv0).mono ?_; rintro e w2 ⟨rfl, hw2⟩; subst hw2))
        go_ret2
        exact ⟨by rw [HL.out]; rfl, rfl⟩
      · rw [if_neg hb] at hf
        have HL : Hid (p = (0, false)) := by show _ = _; rw [← HP.out]; exact hf
        have hbe : (((bitsOf v : Nat) : Int) != (v : Int)) = true := bne_iff_ne.2 (by omega)
        clear hf
        generalize bitsOf v = bv at *
        go_wp2_with (first | (go_at_call 33; refine (hfrom _ hv0).mono ?_; rintro e w2 ⟨rfl, hw2⟩; subst hw2) | (go_at_call 34; refine (hbits _ hv0).mono ?_; rintro e w2 ⟨rfl, hw2⟩; subst hw2))
        go_ret2
        exact ⟨by rw [HL.out]; rfl, rfl⟩

end Go.Proofs.YtlhhedmammjieaaDoor
