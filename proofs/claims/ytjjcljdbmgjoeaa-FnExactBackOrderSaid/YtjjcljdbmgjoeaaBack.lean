/- Contracts of BackOrder on both sides. -/
import Derived.Test.YtjjcljdbmgjoeaaOrderEnd
import Derived.Test.YtjjcljdbmgjoeaaIMark
namespace Go.Proofs.Ytjjcljdbmgjoeaa
open Go.RowKit Opn

/-- where the first i numbers stand -/
def backTo (zs : List Int) : Nat → List Int
  | 0 => List.replicate zs.length 0
  | i + 1 => (backTo zs i).set (zs.getD i 0).toNat (i : Int)
theorem backTo_wf (zs : List Int) (h : zs.length ≤ 12) : ∀ i, i ≤ 12 → ∀ z ∈ backTo zs i, (Lit.int .i64 z).wf = true
  | 0, _, z, hz => by
    simp [backTo] at hz
    rw [hz.2]; rfl
  | i + 1, hi, z, hz => by
    rcases List.mem_or_eq_of_mem_set hz with h1 | h1
    · exact backTo_wf zs h i (by omega) z h1
    · rw [h1]; exact WalkArith.wf_i64 (by omega)

set_option maxHeartbeats 4000000 in
theorem backS_ok (v : Value) (n : Nat) (zs : List Int) (w : World) (h : IRow .i64 w v n zs) (hn : n ≤ 1048576) (ho : ordB zs = true) : Calls Try.prog 12 #[v] w fun e w' => ∃ g, e = .returned (.tuple #[.slice (some ⟨g, 0, none⟩) n n, .bool true]) ∧ w.heap.size ≤ g ∧ IOwn w' g n (backTo zs n) ∧ Below w.heap.size w w' := by
  obtain ⟨i0, hi0, hz0, hz1, hz2⟩ := mi
  have HP : Hid (Calls Try.prog 16 #[v] w fun e w' => e = .returned (.bool true) ∧ Below w.heap.size w w') := by have := order_spec v n zs w h hn; rwa [ho] at this
  obtain ⟨⟨h1, h12⟩, hg⟩ := ordB_iff ho
  obtain ⟨hl, hmx, -, h4⟩ := h
  rcases h4 with ⟨h0, _⟩ | ⟨h0, b, off, cap, hv, hc, hm, hlt, hcell⟩
  · omega
  subst hv
  have HC : Hid (∀ i, i < n → w.cell? ⟨b, off + i, none⟩ = some (.int .i64 (zs.getD i 0))) := hcell
  have HG : Hid (∀ i, i < n → ∃ m : Nat, zs.getD i 0 = (m : Int) ∧ m < n) := fun i hi => by
    have := (hg i (by omega)).1
    exact ⟨(zs.getD i 0).toNat, by omega, by omega⟩
  have HL : Hid (zs.length = n) := hl
  have hn12 : n ≤ 12 := by omega
  have hb8 : i0.bytes * n ≤ 281474976710656 := by rw [hz2]; omega
  clear hcell hg ho h1 h12 hl hmx
  go_enter Try.func12, Try.ntmps12
  go_wp2_with (first | (go_at_call 16; refine Calls.mono HP.out ?_; rintro e w1 ⟨rfl, hb1⟩; have HB1 : Hid (Below w.heap.size w w1) := hb1; have hbs : w.heap.size ≤ w1.heap.size := hb1.size; clear hb1) | (at_make; refine wpList_make_full _ rfl _ _ 22 rfl w1.heap.size 2 i0 (.int .i64 0) 1 Try.underlying22 hi0 hz0 hz1 .i64 .i64 _ _ n rfl rfl rfl rfl (by omega) (by omega) (by omega) ?_; intro w2 hown hgrow))
  clear HP
  have hO : IOwn w2 w1.heap.size n (List.replicate n 0) := IOwn.made hown
  have HO2 : Hid (IOwn w2 w1.heap.size n (backTo zs 0)) := by
    have e : backTo zs 0 = List.replicate n 0 := by show List.replicate zs.length 0 = _; rw [HL.out]
    rw [e]; exact hO
  have HB2 : Hid (Below w.heap.size w w2) := HB1.out.grown hgrow hbs (fun k hk => by cases hk)
  clear hO hown hgrow HB1
  generalize w1.heap.size = g at *
  go_loopw [5] (fun is wr => ∃ i : Nat, i ≤ n ∧ is = .int .i64 (i : Int) ∧ Hid (IOwn wr g n (backTo zs i)) ∧ Hid (Below w.heap.size w wr)) (fun is _ => n - (intOf is).toNat)
  case atStart => exact ⟨0, Nat.zero_le _, rfl, HO2, HB2⟩
  case round =>
    clear HO2 HB2
    obtain ⟨i, hi, rfl, HO, HB⟩ := hrel
    by_cases hin : i < n
    · obtain ⟨m, hm', hmn⟩ := HG.out i hin
      have c1 : wr.cell? ⟨b, off + i, none⟩ = some (.int .i64 (m : Int)) := by rw [HB.out.cell (p := ⟨b, off + i, none⟩) hlt, ← hm']; exact HC.out i hin
      have c2 := HO.out.cell hmn
      have c3 := HO.out.free hmn
      have HS : Hid (IOwn (wr.setCell ⟨g, m, none⟩ (.int .i64 (i : Int))) g n (backTo zs (i + 1))) := by
        have := HO.out.set hmn (i : Int)
        have e : backTo zs (i + 1) = (backTo zs i).set m (i : Int) := by show (backTo zs i).set (zs.getD i 0).toNat (i : Int) = _; rw [hm']; rfl
        rw [e]; exact this
      have HX : Hid (Below w.heap.size w (wr.setCell ⟨g, m, none⟩ (.int .i64 (i : Int)))) := HB.out.setCell (p := ⟨g, m, none⟩) hbs _
      generalize (backTo zs i).getD m 0 = z at *
      clear HO HB hm'
      go_wp2_with fail
      go_roundw
      case rel => exact ⟨i + 1, by omega, by go_num, HS, HX⟩
      case measure => simp [intOf]; omega
    · have HE : Hid (IOwn wr g n (backTo zs n)) := by
        have e : i = n := by omega
        have := HO.out
        rwa [e] at this
      clear HO
      go_wp2_with fail
      go_ret2
      exact ⟨g, rfl, hbs, HE.out, HB.out⟩

theorem backS_bad (v : Value) (n : Nat) (zs : List Int) (w : World) (h : IRow .i64 w v n zs) (hn : n ≤ 1048576) (ho : ordB zs = false) : Calls Try.prog 12 #[v] w fun e w' => e = .returned (.tuple #[.slice none 0 0, .bool false]) ∧ Below w.heap.size w w' := by
  have HP : Hid (Calls Try.prog 16 #[v] w fun e w' => e = .returned (.bool false) ∧ Below w.heap.size w w') := by have := order_spec v n zs w h hn; rwa [ho] at this
  obtain ⟨ao, cap, hv⟩ := IRow.form h
  subst hv
  clear h ho
  go_enter Try.func12, Try.ntmps12
  go_wp2_with (go_at_call 16; refine Calls.mono HP.out ?_; rintro e w' ⟨rfl, hb⟩)
  go_ret2
  exact ⟨rfl, hb⟩

set_option maxHeartbeats 4000000 in
theorem backI_ok (v : Value) (n : Nat) (zs : List Int) (w : World) (h : IRow .i64 w v n zs) (hn : n ≤ 1048576) (ho : ordB zs = true) : Calls Try.prog 13 #[v] w fun e w' => ∃ g, e = .returned (.tuple #[.slice (some ⟨g, 0, none⟩) n n, .bool true]) ∧ w.heap.size ≤ g ∧ IOwn w' g n (backTo zs n) ∧ Below w.heap.size w w' := by
  obtain ⟨i0, hi0, hz0, hz1, hz2⟩ := mi
  have HP : Hid (Calls Try.prog 8 #[v] w fun e w' => e = .returned (.bool true) ∧ Below w.heap.size w w') := by have := order_impl v n zs w h hn; rwa [ho] at this
  obtain ⟨⟨h1, h12⟩, hg⟩ := ordB_iff ho
  obtain ⟨hl, hmx, -, h4⟩ := h
  rcases h4 with ⟨h0, _⟩ | ⟨h0, b, off, cap, hv, hc, hm, hlt, hcell⟩
  · omega
  subst hv
  have HC : Hid (∀ i, i < n → w.cell? ⟨b, off + i, none⟩ = some (.int .i64 (zs.getD i 0))) := hcell
  have HG : Hid (∀ i, i < n → ∃ m : Nat, zs.getD i 0 = (m : Int) ∧ m < n) := fun i hi => by
    have := (hg i (by omega)).1
    exact ⟨(zs.getD i 0).toNat, by omega, by omega⟩
  have HL : Hid (zs.length = n) := hl
  have hn12 : n ≤ 12 := by omega
  have hb8 : i0.bytes * n ≤ 281474976710656 := by rw [hz2]; omega
  clear hcell hg ho h1 h12 hl hmx
  go_enter Try.func13, Try.ntmps13
  go_wp2_with (first | (go_at_call 8; refine Calls.mono HP.out ?_; rintro e w1 ⟨rfl, hb1⟩; have HB1 : Hid (Below w.heap.size w w1) := hb1; have hbs : w.heap.size ≤ w1.heap.size := hb1.size; clear hb1) | (at_make; refine wpList_make_full _ rfl _ _ 22 rfl w1.heap.size 2 i0 (.int .i64 0) 1 Try.underlying22 hi0 hz0 hz1 .i64 .i64 _ _ n rfl rfl rfl rfl (by omega) (by omega) (by omega) ?_; intro w2 hown hgrow))
  clear HP
  have hO : IOwn w2 w1.heap.size n (List.replicate n 0) := IOwn.made hown
  have HO2 : Hid (IOwn w2 w1.heap.size n (backTo zs 0)) := by
    have e : backTo zs 0 = List.replicate n 0 := by show List.replicate zs.length 0 = _; rw [HL.out]
    rw [e]; exact hO
  have HB2 : Hid (Below w.heap.size w w2) := HB1.out.grown hgrow hbs (fun k hk => by cases hk)
  clear hO hown hgrow HB1
  generalize w1.heap.size = g at *
  go_loopw [15] (fun is wr => ∃ i : Nat, i ≤ n ∧ is = .int .i64 (i : Int) ∧ Hid (IOwn wr g n (backTo zs i)) ∧ Hid (Below w.heap.size w wr)) (fun is _ => n - (intOf is).toNat)
  case atStart => exact ⟨0, Nat.zero_le _, rfl, HO2, HB2⟩
  case round =>
    clear HO2 HB2
    obtain ⟨i, hi, rfl, HO, HB⟩ := hrel
    by_cases hin : i < n
    · obtain ⟨m, hm', hmn⟩ := HG.out i hin
      have c1 : wr.cell? ⟨b, off + i, none⟩ = some (.int .i64 (m : Int)) := by rw [HB.out.cell (p := ⟨b, off + i, none⟩) hlt, ← hm']; exact HC.out i hin
      have c2 := HO.out.cell hmn
      have c3 := HO.out.free hmn
      have HS : Hid (IOwn (wr.setCell ⟨g, m, none⟩ (.int .i64 (i : Int))) g n (backTo zs (i + 1))) := by
        have := HO.out.set hmn (i : Int)
        have e : backTo zs (i + 1) = (backTo zs i).set m (i : Int) := by show (backTo zs i).set (zs.getD i 0).toNat (i : Int) = _; rw [hm']; rfl
        rw [e]; exact this
      have HX : Hid (Below w.heap.size w (wr.setCell ⟨g, m, none⟩ (.int .i64 (i : Int)))) := HB.out.setCell (p := ⟨g, m, none⟩) hbs _
      generalize (backTo zs i).getD m 0 = z at *
      clear HO HB hm'
      go_wp2_with fail
      go_roundw
      case rel => exact ⟨i + 1, by omega, by go_num, HS, HX⟩
      case measure => simp [intOf]; omega
    · have HE : Hid (IOwn wr g n (backTo zs n)) := by
        have e : i = n := by omega
        have := HO.out
        rwa [e] at this
      clear HO
      go_wp2_with fail
      go_ret2
      exact ⟨g, rfl, hbs, HE.out, HB.out⟩

theorem backI_bad (v : Value) (n : Nat) (zs : List Int) (w : World) (h : IRow .i64 w v n zs) (hn : n ≤ 1048576) (ho : ordB zs = false) : Calls Try.prog 13 #[v] w fun e w' => e = .returned (.tuple #[.slice none 0 0, .bool false]) ∧ Below w.heap.size w w' := by
  have HP : Hid (Calls Try.prog 8 #[v] w fun e w' => e = .returned (.bool false) ∧ Below w.heap.size w w') := by have := order_impl v n zs w h hn; rwa [ho] at this
  obtain ⟨ao, cap, hv⟩ := IRow.form h
  subst hv
  clear h ho
  go_enter Try.func13, Try.ntmps13
  go_wp2_with (go_at_call 8; refine Calls.mono HP.out ?_; rintro e w' ⟨rfl, hb⟩)
  go_ret2
  exact ⟨rfl, hb⟩

end Go.Proofs.Ytjjcljdbmgjoeaa
