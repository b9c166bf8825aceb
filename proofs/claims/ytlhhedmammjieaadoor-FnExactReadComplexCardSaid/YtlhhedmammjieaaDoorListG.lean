/- The program's reader of a list of numbers returns rlist. -/
import Derived.Test.YtlhhedmammjieaaDoorCut
import Derived.Test.YtlhhedmammjieaaDoorListPlainG
import Derived.Test.YtlhhedmammjieaaDoorSpl
import Derived.Lib.Hide
namespace Go.Proofs.YtlhhedmammjieaaDoor
open Go.RowKit Opn

theorem info_f32 : (Tryd.prog.info? 38).map (fun i => (i.zero, i.size, i.bytes)) = some (some (.float .f32 0), 1, 4) := by kernel_rfl

theorem is_none {s : ByteArray} (h : s.data.toList = none4) : (s.toList == ([110, 111, 110, 101] : List UInt8)) = true := by
  rw [beq_iff_eq, ByteArray.toList_eq]; exact h
theorem is_not_none {s : ByteArray} (h : ¬ s.data.toList = none4) : (s.toList == ([110, 111, 110, 101] : List UInt8)) = false := by
  rw [beq_eq_false_iff_ne, ByteArray.toList_eq]; exact h

theorem res_empty (w : World) (s : ByteArray) (h : s.data.toList = none4) : ListRes w.heap.size (w.alloc (.cells #[] 38)) (rlist s) (.tuple #[.slice (some ⟨w.heap.size, 0, none⟩) 0 0, .bool true]) := by
  unfold rlist
  rw [if_pos h]
  exact ⟨w.heap.size, 0, rfl, Nat.le_refl _, ⟨rfl, by show _ < (w.heap.push _).size; rw [Array.size_push]; omega, fun i hi => by simp at hi⟩, Nat.le_refl _, by decide⟩

theorem split_any (s : ByteArray) (w : World) (hs : s.size < 4294967281) (hm : ∃ m, w.cell? ⟨1, 0, none⟩ = some (.int .i64 m)) : Calls Tryd.prog 25 #[.string s, .string ⟨#[44]⟩] w fun e w' =>
    e = .returned (.slice (some ⟨w.heap.size, 0, none⟩) (sp s).length (sp s).length) ∧ w' = w.alloc (.cells ((sp s).map Value.string).toArray 9) := by
  obtain ⟨m, hm⟩ := hm
  rw [sp_length]
  exact Tryd.strings_Split s comma m w hs hm (by decide)

set_option maxRecDepth 20000 in
set_option maxHeartbeats 2000000 in
theorem list_impl (s : ByteArray) (w : World) (hs : s.size ≤ 1048576) (hV : Vars w) : Calls Tryd.prog 11 #[.string s] w fun e w' => ∃ v, e = .returned v ∧ ListRes w.heap.size w' (rlist s) v ∧ Below w.heap.size w w' := by
  obtain ⟨i0, hi0, hz0, hz1, hz2⟩ := info_parts info_f32
  have hm := hV.maxv
  by_cases hn : s.data.toList = none4
  · have hb := is_none hn
    have HR := Lib.hid (res_empty w s hn)
    go_enter Tryd.func11, Tryd.ntmps11
    go_wp2
    go_ret2
    exact ⟨_, rfl, HR.out, by go_grown⟩
  · have hb := is_not_none hn
    have hrl : rlist s = collect (sp s) := by unfold rlist; rw [if_neg hn]
    have hm1 : ∃ m, (w.alloc (Obj.cells #[] 38)).cell? ⟨1, 0, none⟩ = some (.int .i64 m) := by
      obtain ⟨m, hm⟩ := hm
      exact ⟨m, by rw [((Below.refl w.heap.size w).alloc (Nat.le_refl _) _).cell (cell_lt hm)]; exact hm⟩
    have hcut := fun w0 hm0 => split_any s w0 (by omega) hm0
    have hsz : ∀ x ∈ sp s, x.size ≤ 1048576 := fun x hx => Nat.le_trans (sp_sizes s x hx) hs
    rw [hrl]
    generalize sp s = xs at *
    have HSZ : Hid (∀ x ∈ xs, x.size ≤ 1048576) := hsz
    clear hrl hsz
    go_enter Tryd.func11, Tryd.ntmps11
    go_wp2_with (go_at_call 25; refine (hcut _ hm1).mono ?_; rintro e w1 ⟨rfl, hw1⟩; have HW1 := Lib.hid hw1; clear hw1; refine Hid.out ?_)
    refine Lib.hid ?_
    have e0 : (w.alloc (Obj.cells #[] 38)).heap.size = w.heap.size + 1 := Array.size_push ..
    have H0 : Hid (LS w w1 xs (w.heap.size + 1) w.heap.size 0 0) := by
      have hw1 := HW1.out
      subst hw1
      have hb1 : Below (w.alloc (Obj.cells #[] 38)).heap.size (w.alloc (Obj.cells #[] 38)) ((w.alloc (Obj.cells #[] 38)).alloc (Obj.cells (xs.map Value.string).toArray 9)) := (Below.refl _ _).alloc (Nat.le_refl _) _
      refine ⟨owns_belowG (w := w.alloc (Obj.cells #[] 38)) ⟨rfl, .inr ⟨w.heap.size, 0, #[], rfl, Nat.le_refl _, heap_alloc_new w (Obj.cells #[] 38), Nat.le_refl _, Nat.zero_le _, rfl, rfl⟩⟩ hb1, fun j x hx => ?_, ?_, by omega, fun x hx => by simp at hx, ?_⟩
      · have h := heap_alloc_new (w.alloc (Obj.cells #[] 38)) (Obj.cells (xs.map Value.string).toArray 9)
        rw [e0] at h
        rw [cell_of_row _ _ j _ _ _ h]
        simp [hx]
      · show _ < ((w.alloc (Obj.cells #[] 38)).heap.push _).size
        rw [Array.size_push, e0]; omega
      · exact ((Below.refl _ w).alloc (Nat.le_refl _) _).trans (hb1.mono (by rw [e0]; omega))
    clear HW1 hcut e0
    obtain ⟨gp, hgp⟩ : ∃ gp, gp = w.heap.size + 1 := ⟨_, rfl⟩
    rw [← hgp] at H0 ⊢
    clear hgp hm1
    · go_wp2
      go_loopw [4, 6, 7, 8, 16] (fun out _x _n _ok is wr => ∃ g cp k : Nat, out = .slice (some ⟨g, 0, none⟩) k cp ∧ is = .int .i64 k ∧ k ≤ xs.length ∧ k ≤ 256 ∧ Hid (LS w wr xs gp g cp k)) (fun _ _ _ _ is _ => xs.length - (intOf is).toNat)
      case atStart => exact ⟨w.heap.size, 0, 0, rfl, rfl, Nat.zero_le _, Nat.zero_le _, H0⟩
      case round =>
        obtain ⟨g, cp, k, rfl, rfl, hk, hk64, H⟩ := hrel
        by_cases hlt : k < xs.length
        · obtain ⟨x, hx⟩ : ∃ x, xs[k]? = some x := ⟨xs[k], by simp [hlt]⟩
          have c1 := H.out.cells k x hx
          have hxs := HSZ.out x (List.mem_of_getElem? hx)
          have hR := fun w0 hV0 => from_impl x (by omega) w0 hV0
          have hVr := hV.on H.out.below
          have hbs := H.out.below.size
          rcases hrd : fdig x.data.toList with ⟨v, b⟩
          rw [hrd] at hR
          unfold fltOk at hR
          cases b
          · have HL : Hid (collect xs = none) := collect_bad hx (by unfold okOf; rw [hrd])
            go_wp2_with (go_at_call 26; refine (hR _ hVr).mono ?_; rintro e w2 ⟨rfl, hb2⟩; refine Hid.out ?_)
            refine Lib.hid ?_
            have HB2 : Hid (Below w.heap.size w w2) := H.out.below.trans (hb2.mono H.out.below.size)
            clear hb2 hR
            go_wp2
            go_ret2
            exact ⟨_, rfl, by rw [HL.out]; rfl, HB2.out⟩
          · have hok : okOf x = true := by unfold okOf; rw [hrd]
            have hv : valOf x = v := by unfold valOf; rw [hrd]
            have HX : Hid _ := hx
            clear hx
            go_wp2_with (go_at_call 26; refine (hR _ hVr).mono ?_; rintro e w2 ⟨rfl, hb2⟩; refine Hid.out ?_)
            refine Lib.hid ?_
            have H2 : Hid (LS w w2 xs gp g cp k) := H.out.on hb2
            have hbs2 := H2.out.below.size
            clear hb2 hR
            by_cases hk6 : k = 256
            · subst hk6
              have HL : Hid (collect xs = none) := collect_long hlt
              go_wp2
              go_ret2
              exact ⟨_, rfl, by rw [HL.out]; rfl, H2.out.below⟩
            · have hne : ((k : Int) == 256) = false := by simp; omega
              go_wp2_with (at_builtin; refine Hid.out ?_)
              refine Lib.hid ?_
              refine wpList_append_one rfl _ _ 22 rfl w.heap.size 38 i0 (.float .f32 0) 4 Tryd.underlying22 hi0 hz0 hz1 hz2 rfl (.slice (some ⟨g, 0, none⟩) k cp) k _ rfl (H2.out.own.alloc _) ⟨w2.heap.size, 0, none⟩ 1 (.float .f32 v) rfl (new_cell w2 _ _) rfl (by show _ ≤ 9223372036854775807; omega) (by omega) (by simp; omega) ?_
              intro gg cap wn hown1 hgrow hat hlg
              have H3 : Hid (LS w wn xs gp gg cap (k + 1)) := H2.out.next HX.out hok (by rw [hv]; exact hown1) hgrow hat
              clear hown1 hgrow hat
              go_wp2_with fail
              go_roundw
              case rel => exact ⟨gg, cap, k + 1, rfl, by go_num, by omega, by omega, H3⟩
              case measure => first | (simp [intOf]; omega) | simp [intOf]
        · obtain rfl : k = xs.length := by omega
          have HE : Hid _ := H.out.res (by omega)
          go_wp2
          go_ret2
          exact ⟨_, rfl, HE.out, H.out.below⟩

end Go.Proofs.YtlhhedmammjieaaDoor
