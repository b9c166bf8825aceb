/- The program's reader of a list of complex numbers returns rlistC. -/
import Derived.Test.YtlhhedmammjieaaDoorListPlainC
namespace Go.Proofs.YtlhhedmammjieaaDoor
open Go.RowKit Opn

set_option maxRecDepth 20000 in
set_option maxHeartbeats 8000000 in
theorem listC_impl (s : ByteArray) (w : World) (hs : s.size ≤ 1048576) (hV : Vars w) : Calls Tryd.prog 15 #[.string s] w fun e w' => ∃ v, e = .returned v ∧ ListResC w.heap.size w' (rlistC s) v ∧ Below w.heap.size w w' := by
  obtain ⟨i0, hi0, hz0, hz1, hz2⟩ := info_parts info_c64
  have hm := hV.maxv
  by_cases hn : s.data.toList = none4
  · have hb := is_none hn
    have HR := Lib.hid (resC_empty w s hn)
    go_enter Tryd.func15, Tryd.ntmps15
    go_wp2
    go_ret2
    exact ⟨_, rfl, HR.out, by go_grown⟩
  · have hb := is_not_none hn
    have hrl : rlistC s = collectC (sp s) := by unfold rlistC; rw [if_neg hn]
    have hm1 : ∃ m, (w.alloc (Obj.cells #[] 46)).cell? ⟨1, 0, none⟩ = some (.int .i64 m) := by
      obtain ⟨m, hm⟩ := hm
      exact ⟨m, by rw [((Below.refl w.heap.size w).alloc (Nat.le_refl _) _).cell (cell_lt hm)]; exact hm⟩
    have hcut := fun w0 hm0 => split_any s w0 (by omega) hm0
    have hsz : ∀ x ∈ sp s, x.size ≤ 1048576 := fun x hx => Nat.le_trans (sp_sizes s x hx) hs
    rw [hrl]
    generalize sp s = xs at *
    have HSZ : Hid (∀ x ∈ xs, x.size ≤ 1048576) := hsz
    clear hrl hsz
    go_enter Tryd.func15, Tryd.ntmps15
    go_wp2_with (go_at_call 25; refine (hcut _ hm1).mono ?_; rintro e w1 ⟨rfl, hw1⟩; have HW1 := Lib.hid hw1; clear hw1; refine Hid.out ?_)
    refine Lib.hid ?_
    have e0 : (w.alloc (Obj.cells #[] 46)).heap.size = w.heap.size + 1 := Array.size_push ..
    have H0 : Hid (LSC w w1 xs (w.heap.size + 1) w.heap.size 0 0) := by
      have hw1 := HW1.out
      subst hw1
      have hb1 : Below (w.alloc (Obj.cells #[] 46)).heap.size (w.alloc (Obj.cells #[] 46)) ((w.alloc (Obj.cells #[] 46)).alloc (Obj.cells (xs.map Value.string).toArray 9)) := (Below.refl _ _).alloc (Nat.le_refl _) _
      refine ⟨owns_belowG (w := w.alloc (Obj.cells #[] 46)) ⟨rfl, .inr ⟨w.heap.size, 0, #[], rfl, Nat.le_refl _, heap_alloc_new w (Obj.cells #[] 46), Nat.le_refl _, Nat.zero_le _, rfl, rfl⟩⟩ hb1, fun j x hx => ?_, ?_, by omega, fun x hx => by simp at hx, ?_⟩
      · have h := heap_alloc_new (w.alloc (Obj.cells #[] 46)) (Obj.cells (xs.map Value.string).toArray 9)
        rw [e0] at h
        rw [cell_of_row _ _ j _ _ _ h]
        simp [hx]
      · show _ < ((w.alloc (Obj.cells #[] 46)).heap.push _).size
        rw [Array.size_push, e0]; omega
      · exact ((Below.refl _ w).alloc (Nat.le_refl _) _).trans (hb1.mono (by rw [e0]; omega))
    clear HW1 hcut e0
    obtain ⟨gp, hgp⟩ : ∃ gp, gp = w.heap.size + 1 := ⟨_, rfl⟩
    rw [← hgp] at H0 ⊢
    clear hgp hm1
    · go_wp2
      go_loopw [4, 6, 18] (fun out _x is wr => ∃ g cp k : Nat, out = .slice (some ⟨g, 0, none⟩) k cp ∧ is = .int .i64 k ∧ k ≤ xs.length ∧ k ≤ 256 ∧ Hid (LSC w wr xs gp g cp k)) (fun _ _ is _ => xs.length - (intOf is).toNat)
      case atStart => exact ⟨w.heap.size, 0, 0, rfl, rfl, Nat.zero_le _, Nat.zero_le _, H0⟩
      case round =>
        obtain ⟨g, cp, k, rfl, rfl, hk, hk64, H⟩ := hrel
        by_cases hlt : k < xs.length
        · obtain ⟨x, hx⟩ : ∃ x, xs[k]? = some x := ⟨xs[k], by simp [hlt]⟩
          have c1 := H.out.cells k x hx
          have hxs := HSZ.out x (List.mem_of_getElem? hx)
          have hbs := H.out.below.size
          by_cases h16 : x.size = 16
          · have hne16 : ((x.size : Int) != 16) = false := by simp; omega
            by_cases hk6 : k = 256
            · subst hk6
              have HL : Hid (collectC xs = none) := collectC_long hlt
              go_wp2
              go_ret2
              exact ⟨_, rfl, by rw [HL.out]; rfl, H.out.below⟩
            · have hne : ((k : Int) == 256) = false := by simp; omega
              have hz1 : (x.extract 0 8).size ≤ 281474976710656 := by rw [ByteArray.size_extract]; omega
              have hz2 : (x.extract 8 16).size ≤ 281474976710656 := by rw [ByteArray.size_extract]; omega
              have hA := fun w0 hV0 => from_impl (x.extract 0 8) hz1 w0 hV0
              have hB := fun w0 hV0 => from_impl (x.extract 8 16) hz2 w0 hV0
              have hVr := hV.on H.out.below
              rcases hrd : fdig (x.extract 0 8).data.toList with ⟨v, b⟩
              rcases hrd2 : fdig (x.extract 8 16).data.toList with ⟨u, c⟩
              have HOK := Lib.hid (okC_of h16 hrd hrd2)
              rw [hrd] at hA
              rw [hrd2] at hB
              unfold fltOk at hA hB
              have HX : Hid _ := hx
              clear hx hrd hrd2 hz1 hz2
              have h8 : (8 : Int) ≤ (x.size : Int) := by omega
              have hle : 8 ≤ x.size := by omega
              go_wp2_with (go_at_call 26; with_reducible refine (hA _ hVr).mono ?_; rintro e w2 ⟨rfl, hb2⟩; have HB2 := Lib.hid hb2; clear hb2; refine Hid.out ?_)
              refine Lib.hid ?_
              have H1 := Lib.hid (H.out.on HB2.out)
              have hV2 := hV.on H1.out.below
              clear HB2 hA
              go_wp2_with (go_at_call 26; with_reducible refine (hB _ hV2).mono ?_; rintro e w3 ⟨rfl, hb3⟩; have HB3 := Lib.hid hb3; clear hb3; refine Hid.out ?_)
              refine Lib.hid ?_
              have H2 := Lib.hid (H1.out.on HB3.out)
              have hbs2 := H2.out.below.size
              clear HB3 hB H1 H
              cases b
              · have HL : Hid (collectC xs = none) := collectC_bad HX.out (by rw [HOK.out.1]; rfl)
                go_wp2
                go_ret2
                exact ⟨_, rfl, by rw [HL.out]; rfl, H2.out.below⟩
              · cases c
                · have HL : Hid (collectC xs = none) := collectC_bad HX.out (by rw [HOK.out.1]; rfl)
                  go_wp2
                  go_ret2
                  exact ⟨_, rfl, by rw [HL.out]; rfl, H2.out.below⟩
                · go_wp2_with (at_builtin; refine Hid.out ?_)
                  refine Lib.hid ?_
                  refine wpList_append_one rfl _ _ 32 rfl w.heap.size 46 i0 (.complex .f32 0 0) 8 Tryd.underlying32 hi0 hz0 hz1 hz2 rfl (.slice (some ⟨g, 0, none⟩) k cp) k _ rfl (H2.out.own.alloc _) ⟨_, 0, none⟩ 1 (.complex .f32 v u) rfl (new_cell _ _ _) rfl (by show _ ≤ 9223372036854775807; omega) (by omega) (by simp; omega) ?_
                  intro gg cap wn hown1 hgrow hat hlg
                  have H3 : Hid (LSC w wn xs gp gg cap (k + 1)) := H2.out.next HX.out (by rw [HOK.out.1]; rfl) (by rw [HOK.out.2]; exact hown1) hgrow hat
                  clear hown1 hgrow hat
                  go_wp2_with fail
                  go_roundw
                  case rel => exact ⟨gg, cap, k + 1, rfl, by go_num, by omega, by omega, H3⟩
                  case measure => first | (simp [intOf]; omega) | simp [intOf]
          · have hne16 : ((x.size : Int) != 16) = true := by simp; omega
            have HL : Hid (collectC xs = none) := collectC_bad hx (okC_size h16)
            go_wp2
            go_ret2
            exact ⟨_, rfl, by rw [HL.out]; rfl, H.out.below⟩
        · obtain rfl : k = xs.length := by omega
          have HE : Hid _ := H.out.res (by omega)
          go_wp2
          go_ret2
          exact ⟨_, rfl, HE.out, H.out.below⟩

end Go.Proofs.YtlhhedmammjieaaDoor
