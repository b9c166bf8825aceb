/- The contract of the reference's test of an order. -/
import Derived.Test.YtjjcljdbmgjoeaaIVec
import Derived.Test.YtjjcljdbmgjoeaaOrderPlain
namespace Go.Proofs.Ytjjcljdbmgjoeaa
open Go.RowKit Opn

open Classical in
noncomputable def ordB (zs : List Int) : Bool := decide ((1 ≤ zs.length ∧ zs.length ≤ 12) ∧ Ord.good zs zs.length)
open Classical in
theorem ordB_true {zs : List Int} (h1 : 1 ≤ zs.length) (h2 : zs.length ≤ 12) (h : Ord.good zs zs.length) : ordB zs = true := by unfold ordB; exact decide_eq_true ⟨⟨h1, h2⟩, h⟩
open Classical in
theorem ordB_false {zs : List Int} (h : ¬ ((1 ≤ zs.length ∧ zs.length ≤ 12) ∧ Ord.good zs zs.length)) : ordB zs = false := by unfold ordB; exact decide_eq_false h
open Classical in
theorem ordB_iff {zs : List Int} (h : ordB zs = true) : (1 ≤ zs.length ∧ zs.length ≤ 12) ∧ Ord.good zs zs.length := by unfold ordB at h; exact of_decide_eq_true h

theorem ret_bool {a b : Bool} (h : a = b) : Ending.returned (.bool a) = .returned (.bool b) := by rw [h]

theorem in_any (x lo hi : Int) (w : World) : Calls Try.prog 21 #[.int .i64 x, .int .i64 lo, .int .i64 hi] w fun e w' => e = .returned (.bool (decide (lo ≤ x) && decide (x ≤ hi))) ∧ w' = w := by
  by_cases h1 : lo ≤ x
  · have e1 : decide (lo ≤ x) = true := decide_eq_true h1
    by_cases h2 : x ≤ hi
    · have e2 : decide (x ≤ hi) = true := decide_eq_true h2
      rw [e1, e2]
      go_enter Try.func21, Try.ntmps21
      go_wp2
      go_ret
      exact ⟨rfl, rfl⟩
    · have e2 : decide (x ≤ hi) = false := decide_eq_false h2
      rw [e1, e2]
      go_enter Try.func21, Try.ntmps21
      go_wp2
      go_ret
      exact ⟨rfl, rfl⟩
  · have e1 : decide (lo ≤ x) = false := decide_eq_false h1
    rw [e1]
    go_enter Try.func21, Try.ntmps21
    go_wp2
    go_ret
    exact ⟨rfl, rfl⟩

/-- a row of n bools that the call itself has made, at the head of block g -/
def SOwn (w : World) (g n : Nat) (s : Nat → Bool) : Prop := g < w.heap.size ∧ ∀ i, i < n → w.cell? ⟨g, i, none⟩ = some (.bool (s i)) ∧ w.frozen? ⟨g, i, none⟩ = false
theorem SOwn.set {w : World} {g n : Nat} {s s' : Nat → Bool} (h : SOwn w g n s) {k : Nat} (hk : k < n) (x : Bool) (hs : ∀ i, s' i = if i = k then x else s i) : SOwn (w.setCell ⟨g, k, none⟩ (.bool x)) g n s' := by
  obtain ⟨h2, h3⟩ := h
  refine ⟨by simpa [World.setCell] using h2, fun i hi => ⟨?_, by rw [World.frozen?_setCell]; exact (h3 i hi).2⟩⟩
  rw [hs]
  by_cases e : i = k
  · subst e
    rw [World.cell?_setCell_same (h := (h3 i hk).1), if_pos rfl]
  · rw [World.cell?_setCell_other (h := fun h => e (by injection h with _ h; exact h.symm)), (h3 i hi).1, if_neg e]
theorem SOwn.made {w : World} {g n base E : Nat} (h : w.ownsRow base E 1 (.slice (some ⟨g, 0, none⟩) n n) n (madeCells (Value.bool false).cells (n * 1)).toList) : SOwn w g n (fun _ => false) := by
  obtain ⟨hl, h⟩ := h
  rcases h with ⟨h, _⟩ | ⟨g', cap, cur, hv, _, hg, hnc, hcm, hsz, htake⟩
  · cases h
  · simp only [Value.slice.injEq, Option.some.injEq, Addr.mk.injEq, and_true, true_and] at hv
    obtain ⟨rfl, rfl⟩ := hv
    refine ⟨?_, fun i hi => ?_⟩
    · apply Classical.byContradiction
      intro hc
      rw [Array.getElem?_eq_none (by omega)] at hg
      cases hg
    · have hcur : cur.toList = (madeCells (Value.bool false).cells (n * 1)).toList := by
        rw [← htake, List.take_of_length_le]
        simp; omega
      have hi' : cur[i]? = some (.bool false) := by
        rw [← Array.getElem?_toList, hcur]
        simp [madeCells, Value.cells, hi, Nat.mod_one]
      constructor
      · rw [cell_of_row w _ i cur E (0, 0) hg, hi']
      · simp [World.frozen?, hg]

theorem mbool : ∃ i, Try.prog.info? 4 = some i ∧ i.zero = some (.bool false) ∧ i.size = 1 ∧ i.bytes = 1 := info_parts (by kernel_rfl)

/-- which numbers have come among the first i -/
def seenTo (zs : List Int) (i : Nat) (x : Nat) : Bool := decide ((x : Int) ∈ zs.take i)
theorem seenTo_zero (zs : List Int) : seenTo zs 0 = fun _ => false := by funext x; simp [seenTo]
theorem seenTo_step (zs : List Int) (i m : Nat) (hi : i < zs.length) (hm : zs.getD i 0 = (m : Int)) (x : Nat) : seenTo zs (i + 1) x = if x = m then true else seenTo zs i x := by
  unfold seenTo
  have e : zs[i] = (m : Int) := by simpa [List.getD, hi] using hm
  rw [List.take_succ_eq_append_getElem hi, e]
  by_cases h : x = m
  · subst h; simp
  · rw [if_neg h]
    have h' : ¬ (x : Int) = (m : Int) := by omega
    simp [h']
theorem seen_good {zs : List Int} {i m : Nat} (hi : i < zs.length) (hm : zs.getD i 0 = (m : Int)) (hml : m < zs.length) (hg : Ord.good zs i) (hs : seenTo zs i m = false) : Ord.good zs (i + 1) := by
  intro k hk
  by_cases h : k = i
  · subst h
    refine ⟨by rw [hm]; omega, fun j hj he => ?_⟩
    simp only [seenTo, decide_eq_false_iff_not] at hs
    apply hs
    rw [← hm, ← he]
    have hjl : j < zs.length := by omega
    rw [List.mem_take_iff_getElem]
    exact ⟨j, by omega, by simp [List.getD, hjl]⟩
  · exact hg k (by omega)
theorem seen_bad {zs : List Int} {i m : Nat} (hi : i < zs.length) (hm : zs.getD i 0 = (m : Int)) (hs : seenTo zs i m = true) : ¬ Ord.good zs zs.length := by
  intro h
  simp only [seenTo, decide_eq_true_eq] at hs
  rw [List.mem_take_iff_getElem] at hs
  obtain ⟨j, hj, he⟩ := hs
  have := (h i hi).2 j (by omega)
  apply this
  rw [hm]
  have hjl : j < zs.length := by omega
  simpa [List.getD, hjl] using he

set_option maxHeartbeats 4000000 in
theorem order_spec (v : Value) (n : Nat) (zs : List Int) (w : World) (h : IRow .i64 w v n zs) (hn : n ≤ 1048576) : Calls Try.prog 16 #[v] w fun e w' => e = .returned (.bool (ordB zs)) ∧ Below w.heap.size w w' := by
  obtain ⟨h1, h2, h3, h4⟩ := h
  rcases h4 with ⟨h0, ao, cap, hv⟩ | ⟨h0, b, off, cap, hv, hc, hm, hlt, hcell⟩
  · rw [ordB_false (by omega)]
    subst hv
    clear h1 h2 h3 h0
    go_enter Try.func16, Try.ntmps16
    go_wp2
    go_ret
    exact ⟨rfl, Below.refl _ _⟩
  · subst hv
    by_cases h12 : n ≤ 12
    · obtain ⟨i0, hi0, hz0, hz1, hz2⟩ := mbool
      have HIN : Hid (∀ (x : Int) w, Calls Try.prog 21 #[.int .i64 x, .int .i64 0, .int .i64 ((n : Int) - 1)] w fun e w' => e = .returned (.bool (decide (0 ≤ x) && decide (x ≤ (n : Int) - 1))) ∧ w' = w) := fun x w => in_any x 0 ((n : Int) - 1) w
      have HL : Hid (zs.length = n) := h1
      have hb8 : i0.bytes * n ≤ 281474976710656 := by rw [hz2]; omega
      clear h2 h3 h1
      go_enter Try.func16, Try.ntmps16
      go_wp2_with (at_make; refine wpList_make_full _ rfl _ _ 33 rfl w.heap.size 4 i0 (.bool false) 1 Try.underlying33 hi0 hz0 hz1 .i64 .i64 _ _ n rfl rfl rfl rfl (by omega) (by omega) (by omega) ?_; intro w' hown hgrow)
      have hS : SOwn w' w.heap.size n (fun _ => false) := SOwn.made hown
      have HS0 : Hid (SOwn w' w.heap.size n (seenTo zs 0)) := by rw [seenTo_zero]; exact hS
      have HB0 : Hid (Below w.heap.size w w') := (Below.refl _ _).grown hgrow (Nat.le_refl _) (by simp)
      have HG0 : Hid (Ord.good zs 0) := fun i hi => by omega
      have HC : Hid (∀ i, i < n → w.cell? ⟨b, off + i, none⟩ = some (.int .i64 (zs.getD i 0))) := hcell
      clear hS hown hgrow hcell
      go_loopw [4] (fun is wr => ∃ i : Nat, i ≤ n ∧ is = .int .i64 (i : Int) ∧ Hid (SOwn wr w.heap.size n (seenTo zs i)) ∧ Hid (Below w.heap.size w wr) ∧ Hid (Ord.good zs i)) (fun is _ => n - (intOf is).toNat)
      case atStart => exact ⟨0, Nat.zero_le _, rfl, HS0, HB0, HG0⟩
      case round =>
        clear HS0 HB0 HG0
        obtain ⟨i, hi, rfl, HS, HB, HG⟩ := hrel
        by_cases hin : i < n
        · have c1 : wr.cell? ⟨b, off + i, none⟩ = some (.int .i64 (zs.getD i 0)) := by rw [HB.out.cell (p := ⟨b, off + i, none⟩) hlt]; exact HC.out i hin
          by_cases hr : 0 ≤ zs.getD i 0 ∧ zs.getD i 0 ≤ (n : Int) - 1
          · obtain ⟨m, hm⟩ : ∃ m : Nat, zs.getD i 0 = (m : Int) := ⟨(zs.getD i 0).toNat, by omega⟩
            have HM : Hid (zs.getD i 0 = (m : Int)) := hm
            rw [hm] at c1 hr
            have hmn : m < n := by omega
            have c2 := (HS.out.2 m hmn).1
            have c3 := (HS.out.2 m hmn).2
            have HI2 : Hid (∀ w, Calls Try.prog 21 #[.int .i64 m, .int .i64 0, .int .i64 ((n : Int) - 1)] w fun e w' => e = .returned (.bool true) ∧ w' = w) := fun w => by
              have := HIN.out (m : Int) w
              rwa [decide_eq_true hr.1, decide_eq_true hr.2] at this
            clear hm hr
            cases hs : seenTo zs i m with
            | true =>
              have HE : Hid (ordB zs = false) := ordB_false (fun hh => seen_bad (by rw [HL.out]; exact hin) HM.out hs hh.2)
              rw [hs] at c2
              clear hs HS
              go_wp2_with (go_at_call 21; (with_reducible refine (HI2.out _).mono ?_); rintro e w' ⟨rfl, rfl⟩)
              go_ret
              exact ⟨ret_bool HE.out.symm, HB.out⟩
            | false =>
              have HG1 : Hid (Ord.good zs (i + 1)) := seen_good (by rw [HL.out]; exact hin) HM.out (by rw [HL.out]; exact hmn) HG.out hs
              have HS1 : Hid (SOwn (wr.setCell ⟨w.heap.size, m, none⟩ (.bool true)) w.heap.size n (seenTo zs (i + 1))) := HS.out.set hmn true (fun x => seenTo_step zs i m (by rw [HL.out]; exact hin) HM.out x)
              have HB1 : Hid (Below w.heap.size w (wr.setCell ⟨w.heap.size, m, none⟩ (.bool true))) := HB.out.setCell (p := ⟨w.heap.size, m, none⟩) (Nat.le_refl _) _
              rw [hs] at c2
              clear hs HS HG
              go_wp2_with (go_at_call 21; (with_reducible refine (HI2.out _).mono ?_); rintro e w' ⟨rfl, rfl⟩)
              go_roundw
              case rel => exact ⟨i + 1, by omega, by go_num, HS1, HB1, HG1⟩
              case measure => simp [intOf]; omega
          · have HE : Hid (ordB zs = false) := ordB_false (fun hh => by
              have := (hh.2 i (by rw [HL.out]; exact hin)).1
              rw [HL.out] at this
              omega)
            have HI2 : Hid (∀ w, Calls Try.prog 21 #[.int .i64 (zs.getD i 0), .int .i64 0, .int .i64 ((n : Int) - 1)] w fun e w' => e = .returned (.bool false) ∧ w' = w) := fun w => by
              have := HIN.out (zs.getD i 0) w
              have hf : (decide (0 ≤ zs.getD i 0) && decide (zs.getD i 0 ≤ (n : Int) - 1)) = false := by
                rw [Bool.eq_false_iff]; intro hh; apply hr; simpa using hh
              rwa [hf] at this
            clear hr HS HG
            generalize zs.getD i 0 = z at *
            go_wp2_with (go_at_call 21; (with_reducible refine (HI2.out _).mono ?_); rintro e w' ⟨rfl, rfl⟩)
            go_ret
            exact ⟨ret_bool HE.out.symm, HB.out⟩
        · have HE : Hid (ordB zs = true) := ordB_true (by rw [HL.out]; omega) (by rw [HL.out]; omega) (by
            have hin' : i = n := by omega
            rw [HL.out, ← hin']; exact HG.out)
          clear HS HG
          go_wp2
          go_ret
          exact ⟨ret_bool HE.out.symm, HB.out⟩
    · rw [ordB_false (by omega)]
      clear h1 h2 h3 hcell
      go_enter Try.func16, Try.ntmps16
      go_wp2
      go_ret
      exact ⟨rfl, Below.refl _ _⟩

end Go.Proofs.Ytjjcljdbmgjoeaa
