/- The reference's reader of a list of numbers returns rlist. -/
import Derived.Test.YtlhhedmammjieaaDoorListG
namespace Go.Proofs.YtlhhedmammjieaaDoor
open Go.RowKit Opn

theorem take_snocG (s : ByteArray) (k : Nat) (h : k < s.size) : s.data.toList.take (k + 1) = s.data.toList.take k ++ [s[k]] := by
  rw [List.take_succ_eq_append_getElem (by simpa using h)]; rfl

theorem from_specG (n : Nat) (w : World) (hn : n < 4294967296) : Calls Tryd.prog 33 #[.int .i64 n] w fun e w' => e = .returned (.float .f32 n) ∧ w' = w := by
  have h : IntKind.u32.wrap (n : Int) = (n : Int) := by
    show (n : Int) % 4294967296 = _
    omega
  go_enter Tryd.func33, Tryd.ntmps33
  go_wp2
  go_ret
  exact ⟨by simp, rfl⟩

set_option maxRecDepth 20000 in
set_option maxHeartbeats 8000000 in
theorem list_spec (s : ByteArray) (w : World) (hs : s.size ≤ 1048576) : Calls Tryd.prog 24 #[.string s] w fun e w' => ∃ v, e = .returned v ∧ ListRes w.heap.size w' (rlist s) v ∧ Below w.heap.size w w' := by
  obtain ⟨i0, hi0, hz0, hz1, hz2⟩ := info_parts info_f32
  by_cases hn : s.data.toList = none4
  · have hb := is_none hn
    have HR := Lib.hid (res_empty w s hn)
    go_enter Tryd.func24, Tryd.ntmps24
    go_wp2
    go_ret2
    exact ⟨_, rfl, HR.out, by go_grown⟩
  · have hb := is_not_none hn
    have hrl : rlist s = collect (sp s) := by unfold rlist; rw [if_neg hn]
    have hcut := fun w0 => cut_any s w0 hs
    have hsz : ∀ x ∈ sp s, x.size ≤ 1048576 := fun x hx => Nat.le_trans (sp_sizes s x hx) hs
    rw [hrl]
    generalize sp s = xs at *
    have HSZ : Hid (∀ x ∈ xs, x.size ≤ 1048576) := hsz
    clear hrl hsz
    go_enter Tryd.func24, Tryd.ntmps24
    go_wp2_with (go_at_call 32; refine (hcut _).mono ?_; rintro e w1 ⟨gp, cpp, rfl, hown, hgp, hbl⟩; refine Hid.out ?_)
    refine Lib.hid ?_
    have H0 : Hid (LS w w1 xs gp w.heap.size 0 0) := by
      have h0 := hown.lt gp rfl
      rw [show (w.alloc (Obj.cells #[] 38)).heap.size = w.heap.size + 1 from Array.size_push ..] at h0
      refine ⟨owns_belowG (w := w.alloc (Obj.cells #[] 38)) ⟨rfl, .inr ⟨w.heap.size, 0, #[], rfl, Nat.le_refl _, heap_alloc_new w (Obj.cells #[] 38), Nat.le_refl _, Nat.zero_le _, rfl, rfl⟩⟩ hbl, fun j x hx => ?_, hgp, by omega, fun x hx => by simp at hx, ?_⟩
      · have hj : j < xs.length := (List.getElem?_eq_some_iff.1 hx).1
        rw [hown.cellAt j (by omega), List.getElem?_map, hx]; rfl
      · exact ((Below.refl _ w).alloc (Nat.le_refl _) _).trans (hbl.mono (by rw [show (w.alloc (Obj.cells #[] 38)).heap.size = w.heap.size + 1 from Array.size_push ..]; omega))
    clear hown hgp hbl hcut
    by_cases h64 : 256 < xs.length
    · have HL : Hid (collect xs = none) := collect_long h64
      go_wp2
      go_ret2
      exact ⟨_, rfl, by rw [HL.out]; rfl, H0.out.below⟩
    · go_wp2
      go_loopw [4, 6] (fun out is wr => ∃ g cp k : Nat, out = .slice (some ⟨g, 0, none⟩) k cp ∧ is = .int .i64 k ∧ k ≤ xs.length ∧ Hid (LS w wr xs gp g cp k)) (fun _ is _ => xs.length - (intOf is).toNat)
      case atStart => exact ⟨w.heap.size, 0, 0, rfl, rfl, Nat.zero_le _, H0⟩
      case round =>
        obtain ⟨g, cp, k, rfl, rfl, hk, H⟩ := hrel
        by_cases hlt : k < xs.length
        · obtain ⟨x, hx⟩ : ∃ x, xs[k]? = some x := ⟨xs[k], by simp [hlt]⟩
          have c1 := H.out.cells k x hx
          have hxs := HSZ.out x (List.mem_of_getElem? hx)
          have hbs := H.out.below.size
          have hxl : x.data.toList.length = x.size := Lib.size_eq x |>.symm
          by_cases h8 : x.size = 8
          · have HST : Hid (∀ j (h : j < x.size), hval (x.data.toList.take (j + 1)) = 16 * hval (x.data.toList.take j) + nib (x[j])) := fun j h => by
              rw [take_snocG x j h, hval_snoc]
            have HLT : Hid (∀ j, (∀ c ∈ x.data.toList.take j, isHex c) → hval (x.data.toList.take j) < 4294967296) := fun j h => by
              have h1 := (pad_hval _ _ rfl h).1
              have h2 : (16 : Nat) ^ (x.data.toList.take j).length ≤ 16 ^ 8 := Nat.pow_le_pow_right (by decide) (by rw [List.length_take]; omega)
              have h3 : (16 : Nat) ^ 8 = 4294967296 := by decide
              omega
            have HMEM : Hid (∀ j (h : j < x.size), x[j] ∈ x.data.toList) := fun j h => by
              have : x[j] = x.data.toList[j]'(by omega) := rfl
              rw [this]; exact List.getElem_mem _
            have HTK : Hid (x.data.toList.take 8 = x.data.toList) := List.take_of_length_le (by omega)
            have hne8 : ((x.size : Int) != 8) = false := by simp; omega
            go_wp2
            go_loopw [7, 8, 9, 10] (fun nv ks _c _d wi => ∃ j : Nat, j ≤ 8 ∧ ks = .int .i64 j ∧ nv = .int .i64 (hval (x.data.toList.take j) : Nat) ∧ Hid (∀ c ∈ x.data.toList.take j, isHex c) ∧ wi = wr) (fun _ ks _ _ _ => 8 - (intOf ks).toNat)
            case atStart => exact ⟨0, by omega, rfl, rfl, fun c hc => by simp at hc, rfl⟩
            case round =>
              obtain ⟨j, hj, rfl, rfl, HALL, hwi⟩ := hrel
              subst hwi
              have hvl := HLT.out j HALL.out
              by_cases hj8 : j < 8
              · have hjx : j < x.size := by omega
                have HS := Lib.hid (HST.out j hjx)
                have HT := Lib.hid (take_snocG x j hjx)
                have HMJ := Lib.hid (HMEM.out j hjx)
                have hc256 : (x[j].toNat : Int) < 256 := by have := x[j].toNat_lt; omega
                generalize hval (x.data.toList.take j) = d at *
                by_cases hd : 48 ≤ (x[j].toNat : Int) ∧ (x[j].toNat : Int) ≤ 57
                · obtain ⟨hd0, hd1⟩ := hd
                  have hn97 : ¬ 97 ≤ (x[j].toNat : Int) := by omega
                  have HALL2 : Hid (∀ c ∈ x.data.toList.take (j + 1), isHex c) := fun c hc => by
                    rw [HT.out] at hc
                    rcases List.mem_append.1 hc with hc | hc
                    · exact HALL.out c hc
                    · obtain rfl := List.mem_singleton.1 hc
                      exact .inl ⟨by omega, by omega⟩
                  go_wp2
                  go_roundw
                  case rel => exact ⟨j + 1, by omega, by go_num, by rw [HS.out]; unfold nib; congr 1; split <;> omega, HALL2, by first | rfl | trivial⟩
                  case measure => simp [intOf]; omega
                · by_cases hl : 97 ≤ (x[j].toNat : Int) ∧ (x[j].toNat : Int) ≤ 102
                  · obtain ⟨hl0, hl1⟩ := hl
                    have hn57 : ¬ (x[j].toNat : Int) ≤ 57 := by omega
                    have hn48 : 48 ≤ (x[j].toNat : Int) := by omega
                    have HALL2 : Hid (∀ c ∈ x.data.toList.take (j + 1), isHex c) := fun c hc => by
                      rw [HT.out] at hc
                      rcases List.mem_append.1 hc with hc | hc
                      · exact HALL.out c hc
                      · obtain rfl := List.mem_singleton.1 hc
                        exact .inr ⟨by omega, by omega⟩
                    go_wp2
                    go_roundw
                    case rel => exact ⟨j + 1, by omega, by go_num, by rw [HS.out]; unfold nib; congr 1; split <;> omega, HALL2, by first | rfl | trivial⟩
                    case measure => simp [intOf]; omega
                  · have hbad : ¬ isHex x[j] := fun h => by
                      rcases h with h | h
                      · exact hd ⟨by omega, by omega⟩
                      · exact hl ⟨by omega, by omega⟩
                    have HL : Hid (collect xs = none) := collect_bad hx (by unfold okOf; rw [fdig_bad HMJ.out hbad])
                    by_cases hd1 : 48 ≤ (x[j].toNat : Int) <;> by_cases hl1 : 97 ≤ (x[j].toNat : Int)
                    all_goals try have hd2 : ¬ (x[j].toNat : Int) ≤ 57 := by omega
                    all_goals try have hl2 : ¬ (x[j].toNat : Int) ≤ 102 := by omega
                    all_goals go_wp2
                    all_goals go_ret2
                    all_goals exact ⟨_, rfl, by rw [HL.out]; rfl, H.out.below⟩
              · obtain rfl : j = 8 := by omega
                have hall : ∀ c ∈ x.data.toList, isHex c := by
                  have h := HALL.out; rw [HTK.out] at h; exact h
                obtain ⟨hv0, hf⟩ := fdig_all (by omega) hall
                rw [HTK.out]
                obtain ⟨v, hvv⟩ : ∃ v, hval x.data.toList = v := ⟨_, rfl⟩
                rw [hvv] at hf hv0 ⊢
                have hbits := bits_spec v
                have hfrom := from_specG v
                clear hall HST HLT HMEM HTK HALL hvl hvv
                by_cases hb : bitsOf v = v
                · rw [if_pos hb] at hf
                  have hok : okOf x = true := by unfold okOf; rw [hf]
                  have hv : valOf x = v := by unfold valOf; rw [hf]
                  clear hf
                  rw [hb] at hbits
                  have hx' := hx
                  go_wp2_with (first | (go_at_call 33; refine (hfrom _ hv0).mono ?_; rintro e w2 ⟨rfl, hw2⟩; subst hw2) | (go_at_call 34; refine (hbits _ hv0).mono ?_; rintro e w2 ⟨rfl, hw2⟩; subst hw2) | (at_builtin; refine Hid.out ?_))
                  refine Lib.hid ?_
                  have HX : Hid _ := hx
                  clear hx
                  refine wpList_append_one rfl _ _ 22 rfl w.heap.size 38 i0 (.float .f32 0) 4 Tryd.underlying22 hi0 hz0 hz1 hz2 rfl (.slice (some ⟨g, 0, none⟩) k cp) k _ rfl (H.out.own.alloc _) ⟨_, 0, none⟩ 1 (.float .f32 v) rfl (new_cell _ _ _) rfl (by show _ ≤ 9223372036854775807; omega) (by omega) (by simp; omega) ?_
                  intro gg cap wn hown1 hgrow hat hlg
                  have H3 : Hid (LS w wn xs gp gg cap (k + 1)) := H.out.next HX.out hok (by rw [hv]; exact hown1) hgrow hat
                  clear hown1 hgrow hat
                  go_wp2_with fail
                  go_roundw
                  case rel => exact ⟨gg, cap, k + 1, rfl, by go_num, by omega, H3⟩
                  case measure => first | (simp [intOf]; omega) | simp [intOf]
                · rw [if_neg hb] at hf
                  have HL : Hid (collect xs = none) := collect_bad hx (by unfold okOf; rw [hf])
                  have hbn : ((bitsOf v : Nat) : Int) ≠ (v : Int) := by omega
                  have hbe : (((bitsOf v : Nat) : Int) != (v : Int)) = true := bne_iff_ne.2 hbn
                  clear hf
                  generalize bitsOf v = bv at *
                  go_wp2_with (first | (go_at_call 33; refine (hfrom _ hv0).mono ?_; rintro e w2 ⟨rfl, hw2⟩; subst hw2) | (go_at_call 34; refine (hbits _ hv0).mono ?_; rintro e w2 ⟨rfl, hw2⟩; subst hw2))
                  go_ret2
                  exact ⟨_, rfl, by rw [HL.out]; rfl, H.out.below⟩
          · have HL : Hid (collect xs = none) := collect_bad hx (by unfold okOf; rw [fdig_length (by omega)])
            have hne8 : ((x.size : Int) != 8) = true := by simp; omega
            go_wp2
            go_ret2
            exact ⟨_, rfl, by rw [HL.out]; rfl, H.out.below⟩
        · obtain rfl : k = xs.length := by omega
          have HE : Hid _ := H.out.res (by omega)
          go_wp2
          go_ret2
          exact ⟨_, rfl, HE.out, H.out.below⟩

end Go.Proofs.YtlhhedmammjieaaDoor
