/- The reference's reader of a list of complex numbers returns rlistC. -/
import Derived.Test.YtlhhedmammjieaaDoorListPlainC
namespace Go.Proofs.YtlhhedmammjieaaDoor
open Go.RowKit Opn

set_option maxRecDepth 20000 in
set_option maxHeartbeats 8000000 in
theorem listC_spec (s : ByteArray) (w : World) (hs : s.size ≤ 1048576) : Calls Tryd.prog 27 #[.string s] w fun e w' => ∃ v, e = .returned v ∧ ListResC w.heap.size w' (rlistC s) v ∧ Below w.heap.size w w' := by
  obtain ⟨i0, hi0, hz0, hz1, hz2⟩ := info_parts info_c64
  by_cases hn : s.data.toList = none4
  · have hb := is_none hn
    have HR := Lib.hid (resC_empty w s hn)
    go_enter Tryd.func27, Tryd.ntmps27
    go_wp2
    go_ret2
    exact ⟨_, rfl, HR.out, by go_grown⟩
  · have hb := is_not_none hn
    have hrl : rlistC s = collectC (sp s) := by unfold rlistC; rw [if_neg hn]
    have hcut := fun w0 => cut_any s w0 hs
    have hsz : ∀ x ∈ sp s, x.size ≤ 1048576 := fun x hx => Nat.le_trans (sp_sizes s x hx) hs
    rw [hrl]
    generalize sp s = xs at *
    have HSZ : Hid (∀ x ∈ xs, x.size ≤ 1048576) := hsz
    clear hrl hsz
    go_enter Tryd.func27, Tryd.ntmps27
    go_wp2_with (go_at_call 32; refine (hcut _).mono ?_; rintro e w1 ⟨gp, cpp, rfl, hown, hgp, hbl⟩; refine Hid.out ?_)
    refine Lib.hid ?_
    have H0 : Hid (LSC w w1 xs gp w.heap.size 0 0) := by
      have h0 := hown.lt gp rfl
      rw [show (w.alloc (Obj.cells #[] 46)).heap.size = w.heap.size + 1 from Array.size_push ..] at h0
      refine ⟨owns_belowG (w := w.alloc (Obj.cells #[] 46)) ⟨rfl, .inr ⟨w.heap.size, 0, #[], rfl, Nat.le_refl _, heap_alloc_new w (Obj.cells #[] 46), Nat.le_refl _, Nat.zero_le _, rfl, rfl⟩⟩ hbl, fun j x hx => ?_, hgp, by omega, fun x hx => by simp at hx, ?_⟩
      · have hj : j < xs.length := (List.getElem?_eq_some_iff.1 hx).1
        rw [hown.cellAt j (by omega), List.getElem?_map, hx]; rfl
      · exact ((Below.refl _ w).alloc (Nat.le_refl _) _).trans (hbl.mono (by rw [show (w.alloc (Obj.cells #[] 46)).heap.size = w.heap.size + 1 from Array.size_push ..]; omega))
    clear hown hgp hbl hcut
    by_cases h64 : 256 < xs.length
    · have HL : Hid (collectC xs = none) := collectC_long h64
      go_wp2
      go_ret2
      exact ⟨_, rfl, by rw [HL.out]; rfl, H0.out.below⟩
    · go_wp2
      go_loopw [4, 6] (fun out is wr => ∃ g cp k : Nat, out = .slice (some ⟨g, 0, none⟩) k cp ∧ is = .int .i64 k ∧ k ≤ xs.length ∧ Hid (LSC w wr xs gp g cp k)) (fun _ is _ => xs.length - (intOf is).toNat)
      case atStart => exact ⟨w.heap.size, 0, 0, rfl, rfl, Nat.zero_le _, H0⟩
      case round =>
        obtain ⟨g, cp, k, rfl, rfl, hk, H⟩ := hrel
        by_cases hlt : k < xs.length
        · obtain ⟨x, hx⟩ : ∃ x, xs[k]? = some x := ⟨xs[k], by simp [hlt]⟩
          have c1 := H.out.cells k x hx
          have hxs := HSZ.out x (List.mem_of_getElem? hx)
          have hbs := H.out.below.size
          by_cases h16 : x.size = 16
          · have hne16 : ((x.size : Int) != 16) = false := by simp; omega
            have hz1 : (x.extract 0 8).size = 8 := by rw [ByteArray.size_extract]; omega
            have hz2 : (x.extract 8 16).size = 8 := by rw [ByteArray.size_extract]; omega
            have hA := digits_specC (x.extract 0 8) hz1
            have hB := digits_specC (x.extract 8 16) hz2
            rcases hrd : fdig (x.extract 0 8).data.toList with ⟨v, b⟩
            rcases hrd2 : fdig (x.extract 8 16).data.toList with ⟨u, c⟩
            have HOK := Lib.hid (okC_of h16 hrd hrd2)
            rw [hrd] at hA
            rw [hrd2] at hB
            unfold fltOk at hA hB
            have HX : Hid _ := hx
            clear hx hrd hrd2 hz1 hz2
            have h8 : (8 : Int) ≤ (x.size : Int) := by omega
            have hle : 8 ≤ x.size := by omega
            go_wp2_with (go_at_call 38; with_reducible refine (hA _).mono ?_; rintro e w2 ⟨rfl, hw2⟩; subst hw2; refine Hid.out ?_)
            refine Lib.hid ?_
            clear hA
            go_wp2_with (go_at_call 38; with_reducible refine (hB _).mono ?_; rintro e w3 ⟨rfl, hw3⟩; subst hw3; refine Hid.out ?_)
            refine Lib.hid ?_
            have H2 := H
            have hbs2 := H2.out.below.size
            clear hB H
            cases b
            · have HL : Hid (collectC xs = none) := collectC_bad HX.out (by rw [HOK.out.1]; rfl)
              go_wp2
              go_ret2
              exact ⟨_, rfl, by rw [HL.out]; rfl, H2.out.below⟩
            · cases c
              · have HL : Hid (collectC xs = none) := collectC_bad HX.out (by rw [HOK.out.1]; rfl)
                go_wp2
                go_ret2
                exact ⟨_, rfl, by rw [HL.out]; rfl, H2.out.below⟩
              · go_wp2_with (at_builtin; refine Hid.out ?_)
                refine Lib.hid ?_
                refine wpList_append_one rfl _ _ 32 rfl w.heap.size 46 i0 (.complex .f32 0 0) 8 Tryd.underlying32 hi0 hz0 hz1 hz2 rfl (.slice (some ⟨g, 0, none⟩) k cp) k _ rfl (H2.out.own.alloc _) ⟨_, 0, none⟩ 1 (.complex .f32 v u) rfl (new_cell _ _ _) rfl (by show _ ≤ 9223372036854775807; omega) (by omega) (by simp; omega) ?_
                intro gg cap wn hown1 hgrow hat hlg
                have H3 : Hid (LSC w wn xs gp gg cap (k + 1)) := H2.out.next HX.out (by rw [HOK.out.1]; rfl) (by rw [HOK.out.2]; exact hown1) hgrow hat
                clear hown1 hgrow hat
                go_wp2_with fail
                go_roundw
                case rel => exact ⟨gg, cap, k + 1, rfl, by go_num, by omega, H3⟩
                case measure => first | (simp [intOf]; omega) | simp [intOf]
          · have hne16 : ((x.size : Int) != 16) = true := by simp; omega
            have HL : Hid (collectC xs = none) := collectC_bad hx (okC_size h16)
            go_wp2
            go_ret2
            exact ⟨_, rfl, by rw [HL.out]; rfl, H.out.below⟩
        · obtain rfl : k = xs.length := by omega
          have HE : Hid _ := H.out.res (by omega)
          go_wp2
          go_ret2
          exact ⟨_, rfl, HE.out, H.out.below⟩

end Go.Proofs.YtlhhedmammjieaaDoor
