/- Contracts of the laws' helpers on slices of float32: a copy, and a comparison. -/
import Derived.Test.YtlhhedmammjieaaDoorSame
import Derived.Test.YtlhhedmammjieaaDoorOpen
import Derived.Deep.QuietTactic
import Derived.BigQuiet
import Derived.RegionTactic
import Derived.Deep.RegionWith
import Derived.WalkSmall
import Derived.Outline
namespace Go.Proofs.YtlhhedmammjieaaDoor
open Go.RowKit Opn

theorem drewN_ex {w wr : World} (h : ∃ m, wr = w.drewN m) (n : Nat) : ∃ m, wr.drewN n = w.drewN m := by
  obtain ⟨m, rfl⟩ := h
  exact ⟨m + n, by rw [World.drewN_drewN]⟩
theorem drew_ex {w wr : World} (h : ∃ m, wr = w.drewN m) : ∃ m, wr.drew = w.drewN m := drewN_ex h 1

theorem Opn.FRow.lenle {w : World} {v : Value} {n : Nat} {zs : List Nat} (h : FRow w v n zs) : zs.length = n := h.1

theorem Opn.FRow.drewN {w : World} {v : Value} {n : Nat} {zs : List Nat} (h : FRow w v n zs) (m : Nat) : FRow (w.drewN m) v n zs := h

theorem Opn.FRow.below {w w' : World} {v : Value} {n : Nat} {zs : List Nat} (h : FRow w v n zs) {B : Nat} (hb : Below B w w') (hB : w.heap.size ≤ B) : FRow w' v n zs := by
  obtain ⟨h1, h2, h3, h4⟩ := h
  refine ⟨h1, h2, h3, ?_⟩
  rcases h4 with h4 | ⟨h0, b, off, cap, hv, hc, hm, hlt, hcell⟩
  · exact .inl h4
  · refine .inr ⟨h0, b, off, cap, hv, hc, hm, Nat.lt_of_lt_of_le hlt hb.size, fun i hi => ?_⟩
    rw [hb.cell (p := ⟨b, off + i, none⟩) (by show b < B; omega)]
    exact hcell i hi

/-- A row of n floats that the call itself has made, at the head of block g: it may be written. -/
def FOwn (w : World) (g n : Nat) (zs : List Nat) : Prop :=
  zs.length = n ∧ g < w.heap.size ∧ ∀ i, i < n → w.cell? ⟨g, i, none⟩ = some (.float .f32 (zs.getD i 0)) ∧ w.frozen? ⟨g, i, none⟩ = false

theorem FOwn.cell {w : World} {g n : Nat} {zs : List Nat} (h : FOwn w g n zs) {i : Nat} (hi : i < n) : w.cell? ⟨g, i, none⟩ = some (.float .f32 (zs.getD i 0)) := (h.2.2 i hi).1
theorem FOwn.free {w : World} {g n : Nat} {zs : List Nat} (h : FOwn w g n zs) {i : Nat} (hi : i < n) : w.frozen? ⟨g, i, none⟩ = false := (h.2.2 i hi).2

theorem FOwn.set {w : World} {g n : Nat} {zs : List Nat} (h : FOwn w g n zs) {k : Nat} (hk : k < n) (z : Nat) : FOwn (w.setCell ⟨g, k, none⟩ (.float .f32 z)) g n (zs.set k z) := by
  obtain ⟨h1, h2, h3⟩ := h
  refine ⟨by simp [h1], by simpa [World.setCell] using h2, fun i hi => ⟨?_, by rw [World.frozen?_setCell]; exact (h3 i hi).2⟩⟩
  by_cases e : k = i
  · subst e
    rw [World.cell?_setCell_same (h := (h3 k hk).1)]
    simp [List.getD, h1, hk]
  · rw [World.cell?_setCell_other (h := fun h => e (by injection h)), (h3 i hi).1]
    simp [List.getD, e]

theorem FOwn.below {w w' : World} {g n : Nat} {zs : List Nat} (h : FOwn w g n zs) {B : Nat} (hb : Below B w w') (hB : g < B) : FOwn w' g n zs := by
  obtain ⟨h1, h2, h3⟩ := h
  refine ⟨h1, Nat.lt_of_lt_of_le h2 hb.size, fun i hi => ?_⟩
  rw [hb.cell (p := ⟨g, i, none⟩) hB, hb.frozen (p := ⟨g, i, none⟩) hB]
  exact h3 i hi

theorem FOwn.row {w : World} {g n : Nat} {zs : List Nat} (h : FOwn w g n zs) (hm : n ≤ maxLen) (hz : ∀ z ∈ zs, z < 4294967296) : FRow w (.slice (some ⟨g, 0, none⟩) n n) n zs := by
  refine ⟨h.1, hm, hz, ?_⟩
  by_cases h0 : n = 0
  · subst h0; exact .inl ⟨rfl, _, _, rfl⟩
  · exact .inr ⟨by omega, g, 0, n, rfl, Nat.le_refl _, hm, h.2.1, fun i hi => by rw [Nat.zero_add]; exact h.cell hi⟩

theorem FOwn.made {w : World} {g n base E : Nat} (h : w.ownsRow base E 1 (.slice (some ⟨g, 0, none⟩) n n) n (madeCells (Value.float .f32 0).cells (n * 1)).toList) : FOwn w g n (List.replicate n 0) := by
  obtain ⟨hl, h⟩ := h
  rcases h with ⟨h, _⟩ | ⟨g', cap, cur, hv, _, hg, hnc, hcm, hsz, htake⟩
  · cases h
  · simp only [Value.slice.injEq, Option.some.injEq, Addr.mk.injEq, and_true, true_and] at hv
    obtain ⟨rfl, rfl⟩ := hv
    refine ⟨by simp, ?_, fun i hi => ?_⟩
    · apply Classical.byContradiction
      intro hc
      rw [Array.getElem?_eq_none (by omega)] at hg
      cases hg
    · have hcur : cur.toList = (madeCells (Value.float .f32 0).cells (n * 1)).toList := by
        rw [← htake, List.take_of_length_le]
        simp; omega
      have hi' : cur[i]? = some (.float .f32 0) := by
        rw [← Array.getElem?_toList, hcur]
        simp [madeCells, Value.cells, hi, Nat.mod_one]
      constructor
      · rw [cell_of_row w _ i cur E (0, 0) hg, hi']
        simp [List.getD, hi]
      · simp [World.frozen?, hg]

theorem mf : ∃ i, Tryd.prog.info? 38 = some i ∧ i.zero = some (.float .f32 0) ∧ i.size = 1 ∧ i.bytes = 4 := info_parts (by kernel_rfl)

theorem fill_step (zs : List Nat) (n k : Nat) (h : zs.length = n) (hk : k < n) : (zs.take k ++ List.replicate (n - k) 0).set k (zs.getD k 0) = zs.take (k + 1) ++ List.replicate (n - (k + 1)) 0 := by
  have hl : (zs.take k).length = k := by simp; omega
  rw [List.set_append_right _ _ (by omega), hl, Nat.sub_self, show n - k = (n - (k + 1)) + 1 by omega, List.replicate_succ, List.set_cons_zero, List.take_succ_eq_append_getElem (by omega), List.append_assoc]
  simp [List.getD, show k < zs.length by omega]

theorem toF_any (v : Value) (n : Nat) (zs : List Nat) (w : World) (h : FRow w v n zs) (hn : n ≤ 1048576) : Calls Tryd.prog 7 #[v] w fun e w' => ∃ g, e = .returned (.slice (some ⟨g, 0, none⟩) n n) ∧ w.heap.size ≤ g ∧ FOwn w' g n zs ∧ Below w.heap.size w w' := by
  obtain ⟨i, hi, hz0, hz1, hz2⟩ := mf
  have hR : Hid (FRow w v n zs) := h
  obtain ⟨h1, h2, h3, h4⟩ := h
  have hb4 : i.bytes * n ≤ 281474976710656 := by rw [hz2]; omega
  rcases h4 with ⟨h0, ao, cap, hv⟩ | ⟨h0, b, off, cap, hv, hc, hm, hlt, hcell⟩
  · subst hv
    subst h0
    clear hR
    go_enter Tryd.func7, Tryd.ntmps7
    go_wp2_with (at_make; refine wpList_make_full _ rfl _ _ 22 rfl w.heap.size 38 i (.float .f32 0) 1 Tryd.underlying22 hi hz0 hz1 .i64 .i64 _ _ 0 rfl rfl rfl rfl (by omega) (by omega) (by omega) ?_; intro w' hown hgrow)
    have hown' : FOwn w' w.heap.size 0 (List.replicate 0 0) := FOwn.made hown
    clear hown
    have hbel : Below w.heap.size w w' := (Below.refl _ _).grown hgrow (Nat.le_refl _) (by simp)
    have hg : w.heap.size < w'.heap.size := hown'.2.1
    clear hgrow
    go_loopw [4] (fun i wr => ∃ k : Nat, k ≤ 0 ∧ i = .int .i64 k ∧ FOwn wr w.heap.size 0 (zs.take k ++ List.replicate (0 - k) 0) ∧ Below w.heap.size w wr) (fun i _ => 0 - (intOf i).toNat)
    case atStart => exact ⟨0, Nat.zero_le _, rfl, by simpa using hown', hbel⟩
    case round =>
      obtain ⟨k, hk, rfl, how, hbw⟩ := hrel
      clear hown' hbel hg
      by_cases hlt : k < 0
      · omega
      · obtain rfl : k = 0 := by omega
        go_wp2
        go_ret
        exact ⟨_, rfl, Nat.le_refl _, by rw [List.take_of_length_le (by omega), Nat.sub_self, List.replicate_zero, List.append_nil] at how; exact how, hbw⟩
  · subst hv
    clear hR
    go_enter Tryd.func7, Tryd.ntmps7
    go_wp2_with (at_make; refine wpList_make_full _ rfl _ _ 22 rfl w.heap.size 38 i (.float .f32 0) 1 Tryd.underlying22 hi hz0 hz1 .i64 .i64 _ _ n rfl rfl rfl rfl (by omega) (by omega) (by omega) ?_; intro w' hown hgrow)
    have hown' : FOwn w' w.heap.size n (List.replicate n 0) := FOwn.made hown
    clear hown
    have hbel : Below w.heap.size w w' := (Below.refl _ _).grown hgrow (Nat.le_refl _) (by simp)
    have hg : w.heap.size < w'.heap.size := hown'.2.1
    clear hgrow
    go_loopw [4] (fun i wr => ∃ k : Nat, k ≤ n ∧ i = .int .i64 k ∧ FOwn wr w.heap.size n (zs.take k ++ List.replicate (n - k) 0) ∧ Below w.heap.size w wr) (fun i _ => n - (intOf i).toNat)
    case atStart => exact ⟨0, Nat.zero_le _, rfl, by simpa using hown', hbel⟩
    case round =>
      obtain ⟨k, hk, rfl, how, hbw⟩ := hrel
      clear hown' hbel hg
      by_cases hlt : k < n
      · have hc1 := hcell k hlt
        have hc2 : wr.cell? ⟨b, off + k, none⟩ = some (.float .f32 (zs.getD k 0)) := by rw [hbw.cell (p := ⟨b, off + k, none⟩) (by show b < _; omega)]; exact hc1
        have hc3 := how.cell hlt
        have hc4 := how.free hlt
        have hS := how.set hlt (zs.getD k 0)
        rw [fill_step zs n k h1 hlt] at hS
        have hB := hbw.setCell (p := ⟨w.heap.size, k, none⟩) (Nat.le_refl _) (.float .f32 (zs.getD k 0))
        generalize zs.getD k 0 = z at *
        clear hc1 how
        have HS : Hid _ := hS
        clear hS hcell
        go_wp2
        go_roundw
        case rel => exact ⟨k + 1, by omega, by go_num, HS.out, hB⟩
        case measure => simp [intOf]; omega
      · obtain rfl : k = n := by omega
        go_wp2
        go_ret
        exact ⟨_, rfl, Nat.le_refl _, by rw [List.take_of_length_le (by omega), Nat.sub_self, List.replicate_zero, List.append_nil] at how; exact how, hbw⟩


theorem Fl_W (z : Nat) (hz : Flt.rung FloatKind.f32.format z ≤ FloatKind.f32.format.infRung) : Flt.Fl .f64 (some (Flt.W z)) (Flt.W z) := by
  refine ⟨?_, Flt.W_lt z⟩
  have := Flt.W_rung z hz
  unfold Flt.cls; rw [if_neg (by omega)]

set_option maxHeartbeats 1000000 in
theorem eqF_any (v v' : Value) (n : Nat) (zs : List Nat) (w : World) (h : FRow w v n zs) (h' : FRow w v' n zs) (hn : n ≤ 1048576) : Calls Tryd.prog 9 #[v, v'] w fun e w' => e = .returned (.bool true) ∧ ∃ m, w' = w.drewN m := by
  obtain ⟨h1, h2, h3, h4⟩ := h
  obtain ⟨_, _, _, h4'⟩ := h'
  rcases h4 with ⟨h0, ao, cap, hv⟩ | ⟨h0, b, off, cap, hv, hc, hm, hlt, hcell⟩
  · rcases h4' with ⟨h0', ao', cap', hv'⟩ | ⟨h0', _⟩
    · subst hv hv' h0
      clear h0' h3
      go_enter Tryd.func9, Tryd.ntmps9
      go_wp2
      go_loop [5] (fun i => i = .int .i64 0) (fun _ => 0)
      case atStart => rfl
      case round =>
        subst hrel
        go_wp2
        go_ret
        exact ⟨rfl, 0, rfl⟩
    · omega
  · rcases h4' with ⟨h0', _⟩ | ⟨h0', b', off', cap', hv', hc', hm', hlt', hcell'⟩
    · omega
    subst hv hv'
    have hz3 : ∀ k, k < n → zs.getD k 0 < 4294967296 := fun k hk => by
      have : zs.getD k 0 = zs[k]'(by omega) := by simp [List.getD, show k < zs.length by omega]
      rw [this]; exact h3 _ (List.getElem_mem _)
    clear h3
    go_enter Tryd.func9, Tryd.ntmps9
    go_wp2
    go_loopw [5] (fun i wr => ∃ k : Nat, k ≤ n ∧ i = .int .i64 k ∧ ∃ m, wr = w.drewN m) (fun i _ => n - (intOf i).toNat)
    case atStart => exact ⟨0, Nat.zero_le _, rfl, 0, rfl⟩
    case round =>
      obtain ⟨k, hk, rfl, m, hwr⟩ := hrel
      have HW : Hid (∃ m, wr = w.drewN m) := ⟨m, hwr⟩
      by_cases hlt : k < n
      · have g1 : wr.cell? ⟨b, off + k, none⟩ = some (.float .f32 (zs.getD k 0)) := by rw [hwr]; exact hcell k hlt
        have g2 : wr.cell? ⟨b', off' + k, none⟩ = some (.float .f32 (zs.getD k 0)) := by rw [hwr]; exact hcell' k hlt
        have g3 := hz3 k hlt
        clear hcell hcell' hz3 hwr
        generalize zs.getD k 0 = z at *
        go_wp2
        go_region_with (go_at_call 23; refine (sameFloat_any _ _ _ _ (Flt.widen_Fl _ _) (Flt.widen_Fl _ _)).mono ?_; rintro e w' ⟨rfl, rfl⟩)
        all_goals
          go_wp2
          go_roundw
          case rel => exact ⟨k + 1, by omega, by go_num, by repeat (first | exact HW.out | refine drewN_ex ?_ _ | refine drew_ex ?_)⟩
          case measure => simp [intOf]; omega
      · obtain rfl : k = n := by omega
        clear hcell hcell' hz3 hwr
        go_wp2
        go_ret
        exact ⟨rfl, HW.out⟩

end Go.Proofs.YtlhhedmammjieaaDoor
