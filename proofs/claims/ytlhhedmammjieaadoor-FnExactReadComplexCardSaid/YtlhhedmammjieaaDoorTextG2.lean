/- The text of a list of numbers: the program's. -/
import Derived.Test.YtlhhedmammjieaaDoorTextG
import Derived.Test.YtlhhedmammjieaaDoorJoi
namespace Go.Proofs.YtlhhedmammjieaaDoor
open Go.RowKit Opn

theorem info_str2 : (Tryd.prog.info? 9).map (fun i => (i.zero, i.size, i.bytes)) = some (some (.string ⟨#[]⟩), 1, 16) := by kernel_rfl

def commaG : ByteArray := ⟨#[44]⟩
theorem owns_belowG {w w' : World} {base : Nat} {e : TypeId} {size : Nat} {v : Value} {n : Nat} {xs : List Value} (h : w.ownsRow base e size v n xs) (hb : Below w.heap.size w w') : w'.ownsRow base e size v n xs := by
  refine h.kept (row := none) ⟨hb.os, hb.tape, hb.output, hb.size, fun k hk _ => hb.block k hk⟩ ?_
  cases h' : v.ownBlock
  · exact .inl rfl
  · exact .inr (by simp)

def strOf (z : Nat) : ByteArray := ⟨(hex8 z).toArray⟩
theorem strOf_map (zs : List Nat) : (zs.map strOf).map (·.data.toList) = zs.map hex8 := by simp [strOf]

theorem join_len {zs : List Nat} (hn : zs.length ≤ 256) : (Lib.join (zs.map hex8) [44]).length ≤ 4608 := by
  have h := jtext_len (zs := zs) (fun i _ => by rw [hex8_length]; omega) zs.length (Nat.le_refl _)
  unfold jtext at h
  rw [List.take_length] at h
  omega

theorem joined_any (g cp : Nat) (zs : List Nat) (base : Nat) (w : World) (hn : zs.length ≤ 256) (hown : w.ownsRow base 9 1 (.slice (some ⟨g, 0, none⟩) zs.length cp) zs.length ((zs.map strOf).map Value.string)) :
    Calls Tryd.prog 31 #[.slice (some ⟨g, 0, none⟩) zs.length cp] w fun e w' => e = .returned (.string ⟨(ltext zs).toArray⟩) ∧ Below w.heap.size w w' := by
  by_cases h0 : zs = []
  · subst h0
    have ht : ltext [] = none4 := rfl
    rw [ht]
    clear hown
    go_enter Tryd.func31, Tryd.ntmps31
    go_wp2
    go_ret
    exact ⟨rfl, Below.refl _ _⟩
  · have hpos : 0 < zs.length := List.length_pos_iff.2 h0
    have ht : ltext zs = Lib.join (zs.map hex8) [44] := by unfold ltext; rw [if_neg h0]
    rw [ht]
    have hl := join_len hn
    have hc : zs.length ≤ cp := by
      rcases hown.2 with ⟨h', _⟩ | ⟨g', cap', cur, h', _, _, h1, h2, _⟩
      · cases h'
      · simp only [Value.slice.injEq, Option.some.injEq, Addr.mk.injEq, and_true, true_and] at h'
        obtain ⟨rfl, rfl⟩ := h'
        exact h1
    have hJ := Tryd.strings_Join g 0 cp (zs.map strOf) commaG w (fun j x hx => by
      have hj : j < zs.length := by
        have := (List.getElem?_eq_some_iff.1 hx).1
        simpa using this
      rw [Nat.zero_add, hown.cellAt j (by omega), List.getElem?_map, hx]; rfl) (hown.lt g rfl).2 (by rw [List.length_map]; omega) (by rw [List.length_map]; exact hc) (by rw [strOf_map]; exact Nat.le_trans hl (by decide))
    have ec : commaG.data.toList = [44] := rfl
    rw [List.length_map, strOf_map, ec] at hJ
    have hne : ((zs.length : Int) == 0) = false := by simp; exact h0
    clear hown ht hl
    generalize zs.length = n at *
    generalize Lib.join (zs.map hex8) [44] = t at *
    have HJ : Hid (Calls Tryd.prog 42 #[.slice (some ⟨g, 0, none⟩) n cp, .string ⟨#[44]⟩] w fun e w' => e = .returned (.string ⟨t.toArray⟩) ∧ Below w.heap.size w w') := hJ
    clear hJ
    go_enter Tryd.func31, Tryd.ntmps31
    go_wp2_with (go_at_call 42; refine HJ.out.mono ?_; rintro e w1 ⟨rfl, hb1⟩; have HB := Lib.hid hb1; clear hb1; refine Hid.out ?_)
    refine Lib.hid ?_
    go_wp2
    go_ret
    exact ⟨rfl, HB.out⟩

set_option maxRecDepth 20000 in
set_option maxHeartbeats 2000000 in
theorem text_impl (v : Value) (n : Nat) (zs : List Nat) (w : World) (h : FRow w v n zs) (hn : n ≤ 256) (htz : Tz w) : Calls Tryd.prog 22 #[v] w fun e w' => e = .returned (.string ⟨(ltext zs).toArray⟩) ∧ Below w.heap.size w w' := by
  obtain ⟨i0, hi0, hz0, hz1, hz2⟩ := info_parts info_str2
  obtain ⟨h1, h2, h3, h4⟩ := h
  have HZ : Hid (∀ k, k < n → zs.getD k 0 < 4294967296) := fun k hk => by
    have hm : zs.getD k 0 ∈ zs := by
      have : zs.getD k 0 = zs[k]'(by omega) := by simp [List.getD, show k < zs.length by omega]
      rw [this]; exact List.getElem_mem _
    exact h3 _ hm
  clear h3
  have hown0 : World.ownsRow (w.alloc (Obj.cells #[] 9)) w.heap.size 9 1 (.slice (some ⟨w.heap.size, 0, none⟩) 0 0) 0 [] := ⟨rfl, .inr ⟨w.heap.size, 0, #[], rfl, Nat.le_refl _, heap_alloc_new w (Obj.cells #[] 9), Nat.le_refl _, Nat.zero_le _, rfl, rfl⟩⟩
  rcases h4 with ⟨h0, ao, cap, hv⟩ | ⟨h0, b, off, cap, hv, hc, hm, hlt, hcell⟩
  · subst hv
    have hz : zs = [] := List.eq_nil_of_length_eq_zero (by omega)
    subst hz h0
    have HJ : Hid (Calls Tryd.prog 31 #[.slice (some ⟨w.heap.size, 0, none⟩) 0 0] (w.alloc (Obj.cells #[] 9)) fun e w' => e = .returned (.string ⟨none4.toArray⟩) ∧ Below (w.alloc (Obj.cells #[] 9)).heap.size (w.alloc (Obj.cells #[] 9)) w') := joined_any w.heap.size 0 [] w.heap.size (w.alloc (Obj.cells #[] 9)) (by decide) hown0
    clear hown0 HZ
    have ht : ltext [] = none4 := rfl
    rw [ht]
    go_enter Tryd.func22, Tryd.ntmps22
    go_wp2
    go_loopw [3, 9] (fun ps is wr => ps = .slice (some ⟨w.heap.size, 0, none⟩) 0 0 ∧ is = .int .i64 0 ∧ wr = w.alloc (Obj.cells #[] 9)) (fun _ _ _ => 0)
    case atStart => exact ⟨rfl, rfl, rfl⟩
    case round =>
      obtain ⟨rfl, rfl, hwr⟩ := hrel
      subst hwr
      go_wp2_with (go_at_call 31; refine HJ.out.mono ?_; rintro e w1 ⟨rfl, hb1⟩; have HB := Lib.hid hb1; clear hb1; refine Hid.out ?_)
      refine Lib.hid ?_
      go_wp2
      go_ret
      exact ⟨rfl, ((Below.refl _ w).alloc (Nat.le_refl _) _).trans (HB.out.mono (by show _ ≤ (w.heap.push _).size; rw [Array.size_push]; omega))⟩
  · subst hv
    have HC : Hid (∀ i, i < n → w.cell? ⟨b, off + i, none⟩ = some (.float .f32 (zs.getD i 0))) := hcell
    have HNX : Hid (∀ k, k < n → ((zs.take (k + 1)).map strOf).map Value.string = ((zs.take k).map strOf).map Value.string ++ [Value.string (strOf (zs.getD k 0))]) := fun k hk => by
      rw [List.take_succ_eq_append_getElem (by omega), List.map_append, List.map_append]
      simp [List.getD, show k < zs.length by omega]
    have HT : Hid (zs.take n = zs) := List.take_of_length_le (by omega)
    have H1 : Hid (zs.length = n) := h1
    clear hcell h1
    go_enter Tryd.func22, Tryd.ntmps22
    go_wp2
    go_loopw [3, 5, 9] (fun ps _x is wr => ∃ g cp k : Nat, ps = .slice (some ⟨g, 0, none⟩) k cp ∧ is = .int .i64 k ∧ k ≤ n ∧ Hid (World.ownsRow wr w.heap.size 9 1 (.slice (some ⟨g, 0, none⟩) k cp) k (((zs.take k).map strOf).map Value.string)) ∧ Hid (Below w.heap.size w wr)) (fun _ _ is _ => n - (intOf is).toNat)
    case atStart => exact ⟨w.heap.size, 0, 0, rfl, rfl, Nat.zero_le _, hown0, by show Below w.heap.size w _; go_grown⟩
    case round =>
      clear hown0
      obtain ⟨g, cp, k, rfl, rfl, hk, HO, HK⟩ := hrel
      by_cases hlt' : k < n
      · have g1 : wr.cell? ⟨b, off + k, none⟩ = some (.float .f32 (zs.getD k 0)) := by
          rw [HK.out.cell (p := ⟨b, off + k, none⟩) hlt]; exact HC.out k hlt'
        have z0 := HZ.out k hlt'
        have HS := Lib.hid (HNX.out k hlt')
        have hbs := HK.out.size
        have htr := htz.on HK.out
        generalize zs.getD k 0 = z at *
        go_wp2_with (go_at_call 30; refine (digits_impl z _ z0 htr).mono ?_; rintro e w2 ⟨rfl, hb2⟩; have HB2 := Lib.hid hb2; clear hb2; refine Hid.out ?_)
        refine Lib.hid ?_
        have HK2 : Hid (Below w.heap.size w w2) := HK.out.trans (HB2.out.mono hbs)
        have HO2 := Lib.hid (owns_belowG HO.out HB2.out)
        have hbs2 := HK2.out.size
        have hgb : w.heap.size ≤ g := (HO2.out.lt g rfl).1
        go_wp2_with (at_builtin; refine Hid.out ?_)
        refine Lib.hid ?_
        refine wpList_append_one rfl _ _ 42 rfl w.heap.size 9 i0 (.string ⟨#[]⟩) 16 Tryd.underlying42 hi0 hz0 hz1 hz2 rfl (.slice (some ⟨g, 0, none⟩) k cp) k _ rfl (HO2.out.alloc _) ⟨w2.heap.size, 0, none⟩ 1 (.string (strOf z)) rfl (new_cell w2 _ _) rfl (by show _ ≤ 9223372036854775807; omega) (by omega) (by simp; omega) ?_
        intro gg cap2 wn hown1 hgrow hat hlg
        have R1 : Hid (World.ownsRow wn w.heap.size 9 1 (.slice (some ⟨gg, 0, none⟩) (k + 1) cap2) (k + 1) (((zs.take (k + 1)).map strOf).map Value.string)) := by
          show World.ownsRow _ _ _ _ _ _ _
          rw [HS.out]
          exact hown1
        have R2 : Hid (Below w.heap.size w wn) := (HK2.out.alloc hbs2 _).grown hgrow (by simp; omega) (by simp [Value.ownBlock]; omega)
        clear hown1 hgrow hat
        go_wp2_with fail
        go_roundw
        case rel => exact ⟨gg, cap2, k + 1, rfl, by go_num, by omega, R1, R2⟩
        case measure => first | (simp [intOf]; omega) | simp [intOf]
      · obtain rfl : k = n := by omega
        have HJ := Lib.hid (joined_any g cp zs w.heap.size wr (by have := H1.out; omega) (by
          have h := HO.out
          rw [HT.out] at h
          rw [H1.out]; exact h))
        rw [H1.out] at HJ
        go_wp2_with (go_at_call 31; refine HJ.out.mono ?_; rintro e w1 ⟨rfl, hb1⟩; have HB := Lib.hid hb1; clear hb1; refine Hid.out ?_)
        refine Lib.hid ?_
        go_wp2
        go_ret
        exact ⟨rfl, HK.out.trans (HB.out.mono HK.out.size)⟩

end Go.Proofs.YtlhhedmammjieaaDoor
