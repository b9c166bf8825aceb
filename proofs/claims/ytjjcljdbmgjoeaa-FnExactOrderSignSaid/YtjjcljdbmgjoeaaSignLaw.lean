/- Contracts of OrderSign on both sides, and the walk of its law. -/
import Derived.Test.YtjjcljdbmgjoeaaOrderEnd
import Derived.Test.YtjjcljdbmgjoeaaSign
namespace Go.Proofs.Ytjjcljdbmgjoeaa
open Go.RowKit Opn

noncomputable def sgnV (zs : List Int) : Int := if ordB zs then outS zs zs.length else 0

theorem signS_any (v : Value) (n : Nat) (zs : List Int) (w : World) (h : IRow .i64 w v n zs) (hn : n ≤ 1048576) : Calls Try.prog 10 #[v] w fun e w' => e = .returned (.tuple #[.int .i64 (sgnV zs), .bool (ordB zs)]) ∧ Below w.heap.size w w' := by
  cases ho : ordB zs with
  | true =>
    obtain ⟨⟨h1, h12⟩, hg⟩ := ordB_iff ho
    have hl := h.1
    have hr := h
    rcases h.2.2.2 with ⟨h0, _⟩ | ⟨h0, b, off, cap, hv, hc, hm, hlt, hcell⟩
    · omega
    · subst hv
      have hs : sgnV zs = outS zs n := by unfold sgnV; rw [ho, hl]; rfl
      rw [hs]
      exact sign_spec b off n cap zs w hl hn hcell hlt ho hr
  | false =>
    have HP : Hid (Calls Try.prog 16 #[v] w fun e w' => e = .returned (.bool false) ∧ Below w.heap.size w w') := by have := order_spec v n zs w h hn; rwa [ho] at this
    have hs : sgnV zs = 0 := by unfold sgnV; rw [ho]; rfl
    rw [hs]
    obtain ⟨ao, cap, hv⟩ := IRow.form h
    subst hv
    clear h ho hs
    go_enter Try.func10, Try.ntmps10
    go_wp2_with (go_at_call 16; refine Calls.mono HP.out ?_; rintro e w' ⟨rfl, hb⟩)
    go_ret2
    exact ⟨rfl, hb⟩

theorem signI_any (v : Value) (n : Nat) (zs : List Int) (w : World) (h : IRow .i64 w v n zs) (hn : n ≤ 1048576) : Calls Try.prog 11 #[v] w fun e w' => e = .returned (.tuple #[.int .i64 (sgnV zs), .bool (ordB zs)]) ∧ Below w.heap.size w w' := by
  cases ho : ordB zs with
  | true =>
    obtain ⟨⟨h1, h12⟩, hg⟩ := ordB_iff ho
    have hl := h.1
    have HP : Hid (Calls Try.prog 8 #[v] w fun e w' => e = .returned (.bool true) ∧ Below w.heap.size w w') := by have := order_impl v n zs w h hn; rwa [ho] at this
    have hr := h
    rcases h.2.2.2 with ⟨h0, _⟩ | ⟨h0, b, off, cap, hv, hc, hm, hlt, hcell⟩
    · omega
    · subst hv
      have hs : sgnV zs = outS zs n := by unfold sgnV; rw [ho, hl]; rfl
      rw [hs]
      have HQ : Hid (∀ w1, Below w.heap.size w w1 → Calls Try.prog 20 #[.slice (some ⟨b, off, none⟩) n cap] w1 fun e w' => e = .returned (.int .i64 (outS zs n)) ∧ w' = w1) := fun w1 hb => orderSign_any b off n cap zs w1 hc hm hl hn (fun i hi => by rw [hb.cell (p := ⟨b, off + i, none⟩) hlt]; exact hcell i hi)
      clear h ho hs hr hcell hl h1 h12 hg
      generalize outS zs n = o at *
      go_enter Try.func11, Try.ntmps11
      go_wp2_with (first
        | (go_at_call 8; refine Calls.mono HP.out ?_; rintro e w' ⟨rfl, hb⟩)
        | (go_at_call 20; refine (HQ.out _ hb).mono ?_; rintro e w' ⟨rfl, rfl⟩))
      go_ret2
      exact ⟨rfl, hb⟩
  | false =>
    have HP : Hid (Calls Try.prog 8 #[v] w fun e w' => e = .returned (.bool false) ∧ Below w.heap.size w w') := by have := order_impl v n zs w h hn; rwa [ho] at this
    have hs : sgnV zs = 0 := by unfold sgnV; rw [ho]; rfl
    rw [hs]
    obtain ⟨ao, cap, hv⟩ := IRow.form h
    subst hv
    clear h ho hs
    go_enter Try.func11, Try.ntmps11
    go_wp2_with (go_at_call 8; refine Calls.mono HP.out ?_; rintro e w' ⟨rfl, hb⟩)
    go_ret2
    exact ⟨rfl, hb⟩

set_option maxHeartbeats 4000000 in
theorem orderSign_walk (v : Value) (n : Nat) (zs : List Int) (w : World) (h : IRow .i64 w v n zs) : Calls Try.prog 4 #[v] w fun e w' => e = .returned (.bool true) ∧ Below w.heap.size w w' := by
  obtain ⟨ao, cap, hv⟩ := IRow.form h
  have hmx : n ≤ maxLen := h.2.1
  have hmx2 : n ≤ 9223372036854775807 := hmx
  have HZ : Hid (∀ z ∈ zs, (Lit.int .i64 z).wf = true) := h.2.2.1
  have HR : Hid (IRow .i64 w v n zs) := h
  subst hv
  clear h
  by_cases hn : n ≤ 1048576
  · go_enter Try.func4, Try.ntmps4
    go_wp2_with fail
    refine (toI_any _ n zs _ HR.out hn).mono ?_
    rintro e w1 ⟨g1, rfl, hg1, ho1, hb1⟩
    have HB1 : Hid (Below w.heap.size w w1) := hb1
    have HO1 : Hid (IRow .i64 w1 (.slice (some ⟨g1, 0, none⟩) n n) n zs) := ho1.row hmx HZ.out
    clear hg1 ho1 hb1
    go_wp2_with fail
    refine (signS_any _ n zs _ HO1.out hn).mono ?_
    rintro e w2 ⟨rfl, hb2⟩
    have HB2 : Hid (Below w.heap.size w w2) := HB1.out.trans (hb2.mono HB1.out.size)
    clear hb2
    go_wp2_with fail
    refine (toI_any _ n zs _ (HR.out.below HB2.out (Nat.le_refl _)) hn).mono ?_
    rintro e w3 ⟨g3, rfl, hg3, ho3, hb3⟩
    have HB3 : Hid (Below w.heap.size w w3) := HB2.out.trans (hb3.mono HB2.out.size)
    have HO3 : Hid (IRow .i64 w3 (.slice (some ⟨g3, 0, none⟩) n n) n zs) := ho3.row hmx HZ.out
    clear hg3 ho3 hb3
    go_wp2_with fail
    refine (signI_any _ n zs _ HO3.out hn).mono ?_
    rintro e w4 ⟨rfl, hb4⟩
    have HB4 : Hid (Below w.heap.size w w4) := HB3.out.trans (hb4.mono HB3.out.size)
    have HO4 : Hid (IRow .i64 w4 (.slice (some ⟨g3, 0, none⟩) n n) n zs) := HO3.out.below hb4 (Nat.le_refl _)
    clear hb4
    generalize ordB zs = o at *
    generalize sgnV zs = s at *
    have hoo : (o != o) = false := by simp
    have hss : (s != s) = false := by simp
    go_wp2_with fail
    refine (toI_any _ n zs _ (HR.out.below HB4.out (Nat.le_refl _)) hn).mono ?_
    rintro e w5 ⟨g5, rfl, hg5, ho5, hb5⟩
    have HB5 : Hid (Below w.heap.size w w5) := HB4.out.trans (hb5.mono HB4.out.size)
    have HO5 : Hid (IRow .i64 w5 (.slice (some ⟨g5, 0, none⟩) n n) n zs) := ho5.row hmx HZ.out
    have HO6 : Hid (IRow .i64 w5 (.slice (some ⟨g3, 0, none⟩) n n) n zs) := HO4.out.below hb5 (Nat.le_refl _)
    clear hg5 ho5 hb5
    go_wp2_with fail
    refine (eqI_any _ _ n zs _ HO6.out HO5.out hn).mono ?_
    rintro e w6 ⟨rfl, m, rfl⟩
    go_wp2_with fail
    go_ret
    exact ⟨rfl, below_drewN HB5.out _⟩
  · have hd : decide ((1048576 : Int) < (n : Int)) = true := decide_eq_true (by omega)
    go_enter Try.func4, Try.ntmps4
    go_wp2_with fail
    go_ret
    exact ⟨rfl, Below.refl _ _⟩

end Go.Proofs.Ytjjcljdbmgjoeaa
