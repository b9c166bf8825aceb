/- Both readers of a list of numbers: what they return is rlist. -/
import Derived.Test.YtjjcljdbmgjoeaaDoorReadLaw
import Derived.Test.YtjjcljdbmgjoeaaDoorCut
import Derived.Test.YtjjcljdbmgjoeaaDoorListPlain
import Derived.Test.YtjjcljdbmgjoeaaDoorSpl
import Derived.Lib.Hide
namespace Go.Proofs.YtjjcljdbmgjoeaaDoor
open Go.RowKit Opn

theorem info_i64 : (Tryd.prog.info? 2).map (fun i => (i.zero, i.size, i.bytes)) = some (some (.int .i64 0), 1, 8) := by kernel_rfl

theorem is_none {s : ByteArray} (h : s.data.toList = none4) : (s.toList == ([110, 111, 110, 101] : List UInt8)) = true := by
  rw [beq_iff_eq, ByteArray.toList_eq]; exact h
theorem is_not_none {s : ByteArray} (h : ¬ s.data.toList = none4) : (s.toList == ([110, 111, 110, 101] : List UInt8)) = false := by
  rw [beq_eq_false_iff_ne, ByteArray.toList_eq]; exact h

theorem res_empty (w : World) (s : ByteArray) (h : s.data.toList = none4) : ListRes w.heap.size (w.alloc (.cells #[] 2)) (rlist s) (.tuple #[.slice (some ⟨w.heap.size, 0, none⟩) 0 0, .bool true]) := by
  unfold rlist
  rw [if_pos h]
  exact ⟨w.heap.size, 0, rfl, Nat.le_refl _, ⟨rfl, by show _ < (w.heap.push _).size; rw [Array.size_push]; omega, fun i hi => by simp at hi⟩, Nat.le_refl _, by decide⟩

set_option maxRecDepth 20000 in
set_option maxHeartbeats 2000000 in
theorem list_spec (s : ByteArray) (w : World) (hs : s.size ≤ 1048576) : Calls Tryd.prog 24 #[.string s] w fun e w' => ∃ v, e = .returned v ∧ ListRes w.heap.size w' (rlist s) v ∧ Below w.heap.size w w' := by
  obtain ⟨i0, hi0, hz0, hz1, hz2⟩ := info_parts info_i64
  by_cases hn : s.data.toList = none4
  · have hb := is_none hn
    have HR := Lib.hid (res_empty w s hn)
    go_enter Tryd.func24, Tryd.ntmps24
    go_wp2
    go_ret2
    exact ⟨_, rfl, HR.out, by go_grown⟩
  · have hb := is_not_none hn
    have hrl : rlist s = collect (sp s) := by unfold rlist; rw [if_neg hn]
    have hcut := fun w0 => cut_any s w0 hs
    have hsz : ∀ x ∈ sp s, x.size ≤ 1048576 := fun x hx => Nat.le_trans (sp_sizes s x hx) hs
    rw [hrl]
    generalize sp s = xs at *
    have HSZ : Hid (∀ x ∈ xs, x.size ≤ 1048576) := hsz
    clear hrl hsz
    go_enter Tryd.func24, Tryd.ntmps24
    go_wp2_with (go_at_call 34; refine (hcut _).mono ?_; rintro e w1 ⟨gp, cpp, rfl, hown, hgp, hbl⟩; refine Hid.out ?_)
    refine Lib.hid ?_
    have H0 : Hid (LS w w1 xs gp w.heap.size 0 0) := by
      have h0 := hown.lt gp rfl
      rw [show (w.alloc (Obj.cells #[] 2)).heap.size = w.heap.size + 1 from Array.size_push ..] at h0
      refine ⟨owns_below (w := w.alloc (Obj.cells #[] 2)) ⟨rfl, .inr ⟨w.heap.size, 0, #[], rfl, Nat.le_refl _, heap_alloc_new w (Obj.cells #[] 2), Nat.le_refl _, Nat.zero_le _, rfl, rfl⟩⟩ hbl, fun j x hx => ?_, hgp, by omega, fun x hx => by simp at hx, ?_⟩
      · have hj : j < xs.length := (List.getElem?_eq_some_iff.1 hx).1
        rw [hown.cellAt j (by omega), List.getElem?_map, hx]; rfl
      · exact ((Below.refl _ w).alloc (Nat.le_refl _) _).trans (hbl.mono (by rw [show (w.alloc (Obj.cells #[] 2)).heap.size = w.heap.size + 1 from Array.size_push ..]; omega))
    clear hown hgp hbl hcut
    by_cases h64 : 64 < xs.length
    · have HL : Hid (collect xs = none) := collect_long h64
      go_wp2
      go_ret2
      exact ⟨_, rfl, by rw [HL.out]; rfl, H0.out.below⟩
    · go_wp2
      go_loopw [4, 6, 7, 8] (fun out is _n _ok wr => ∃ g cp k : Nat, out = .slice (some ⟨g, 0, none⟩) k cp ∧ is = .int .i64 k ∧ k ≤ xs.length ∧ Hid (LS w wr xs gp g cp k)) (fun _ is _ _ _ => xs.length - (intOf is).toNat)
      case atStart => exact ⟨w.heap.size, 0, 0, rfl, rfl, Nat.zero_le _, H0⟩
      case round =>
        obtain ⟨g, cp, k, rfl, rfl, hk, H⟩ := hrel
        by_cases hlt : k < xs.length
        · obtain ⟨x, hx⟩ : ∃ x, xs[k]? = some x := ⟨xs[k], by simp [hlt]⟩
          have c1 := H.out.cells k x hx
          have hxs := HSZ.out x (List.mem_of_getElem? hx)
          have hR := fun w0 => read_spec x w0 (by omega)
          have hbs := H.out.below.size
          rcases hrd : rdec x.data.toList with ⟨v, b⟩
          rw [hrd] at hR
          unfold numOk at hR
          cases b
          · have HL : Hid (collect xs = none) := collect_bad hx (by unfold okOf; rw [hrd])
            go_wp2_with (go_at_call 21; refine (hR _).mono ?_; rintro e w2 ⟨rfl, hb2⟩; refine Hid.out ?_)
            refine Lib.hid ?_
            have HB2 : Hid (Below w.heap.size w w2) := H.out.below.trans (hb2.mono H.out.below.size)
            clear hb2 hR
            go_wp2
            go_ret2
            exact ⟨_, rfl, by rw [HL.out]; rfl, HB2.out⟩
          · have hok : okOf x = true := by unfold okOf; rw [hrd]
            have hv : valOf x = v := by unfold valOf; rw [hrd]
            have HX : Hid _ := hx
            clear hx
            go_wp2_with (go_at_call 21; refine (hR _).mono ?_; rintro e w2 ⟨rfl, hb2⟩; refine Hid.out ?_)
            refine Lib.hid ?_
            have H2 : Hid (LS w w2 xs gp g cp k) := H.out.on hb2
            have hbs2 := H2.out.below.size
            clear hb2 hR
            go_wp2_with (at_builtin; refine Hid.out ?_)
            refine Lib.hid ?_
            refine wpList_append_one rfl _ _ 27 rfl w.heap.size 2 i0 (.int .i64 0) 8 Tryd.underlying27 hi0 hz0 hz1 hz2 rfl (.slice (some ⟨g, 0, none⟩) k cp) k _ rfl (H2.out.own.alloc _) ⟨w2.heap.size, 0, none⟩ 1 (.int .i64 v) rfl (new_cell w2 _ _) rfl (by show _ ≤ 9223372036854775807; omega) (by omega) (by simp; omega) ?_
            intro gg cap wn hown1 hgrow hat hlg
            have H3 : Hid (LS w wn xs gp gg cap (k + 1)) := H2.out.next HX.out hok (by rw [hv]; exact hown1) hgrow hat
            clear hown1 hgrow hat
            go_wp2_with fail
            go_roundw
            case rel => exact ⟨gg, cap, k + 1, rfl, by go_num, by omega, H3⟩
            case measure => first | (simp [intOf]; omega) | simp [intOf]
        · obtain rfl : k = xs.length := by omega
          have HE : Hid _ := H.out.res (by omega)
          go_wp2
          go_ret2
          exact ⟨_, rfl, HE.out, H.out.below⟩

end Go.Proofs.YtjjcljdbmgjoeaaDoor
