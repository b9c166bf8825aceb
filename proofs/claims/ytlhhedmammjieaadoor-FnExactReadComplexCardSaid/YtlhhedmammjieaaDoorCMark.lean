/- Rows of complex numbers: comparison, marks, the look at them. -/
import Derived.Test.YtlhhedmammjieaaDoorCx
namespace Go.Proofs.YtlhhedmammjieaaDoor
open Go.RowKit Opn

/-- a row of n complex numbers of the call's own -/
def COwn (w : World) (g n : Nat) (zs : List (Nat × Nat)) : Prop :=
  zs.length = n ∧ g < w.heap.size ∧ ∀ i, i < n → w.cell? ⟨g, i, none⟩ = some (.complex .f32 (zs.getD i (0, 0)).1 (zs.getD i (0, 0)).2) ∧ w.frozen? ⟨g, i, none⟩ = false

theorem COwn.cell {w : World} {g n : Nat} {zs : List (Nat × Nat)} (h : COwn w g n zs) {i : Nat} (hi : i < n) : w.cell? ⟨g, i, none⟩ = some (.complex .f32 (zs.getD i (0, 0)).1 (zs.getD i (0, 0)).2) := (h.2.2 i hi).1
theorem COwn.free {w : World} {g n : Nat} {zs : List (Nat × Nat)} (h : COwn w g n zs) {i : Nat} (hi : i < n) : w.frozen? ⟨g, i, none⟩ = false := (h.2.2 i hi).2

theorem COwn.set {w : World} {g n : Nat} {zs : List (Nat × Nat)} (h : COwn w g n zs) {k : Nat} (hk : k < n) (z : Nat × Nat) : COwn (w.setCell ⟨g, k, none⟩ (.complex .f32 z.1 z.2)) g n (zs.set k z) := by
  obtain ⟨h1, h2, h3⟩ := h
  refine ⟨by simp [h1], by simpa [World.setCell] using h2, fun i hi => ⟨?_, by rw [World.frozen?_setCell]; exact (h3 i hi).2⟩⟩
  by_cases e : k = i
  · subst e
    rw [World.cell?_setCell_same (h := (h3 k hk).1)]
    simp [List.getD, h1, hk]
  · rw [World.cell?_setCell_other (h := fun h => e (by injection h)), (h3 i hi).1]
    simp [List.getD, e]

theorem COwn.below {w w' : World} {g n : Nat} {zs : List (Nat × Nat)} (h : COwn w g n zs) {B : Nat} (hb : Below B w w') (hB : g < B) : COwn w' g n zs := by
  obtain ⟨h1, h2, h3⟩ := h
  refine ⟨h1, Nat.lt_of_lt_of_le h2 hb.size, fun i hi => ?_⟩
  rw [hb.cell (p := ⟨g, i, none⟩) hB, hb.frozen (p := ⟨g, i, none⟩) hB]
  exact h3 i hi

theorem COwn.only {w w' : World} {g g' n : Nat} {zs : List (Nat × Nat)} (h : COwn w g' n zs) (k : Only g w w') (hg : g' ≠ g) : COwn w' g' n zs := by
  obtain ⟨h1, h2, h3⟩ := h
  refine ⟨h1, by rw [k.size]; exact h2, fun i hi => ?_⟩
  rw [k.cell (p := ⟨g', i, none⟩) hg, k.frozen (p := ⟨g', i, none⟩) hg]
  exact h3 i hi

theorem COwn.of_owns {w : World} {g n cp base E : Nat} {zs : List (Nat × Nat)} (h : w.ownsRow base E 1 (.slice (some ⟨g, 0, none⟩) n cp) n (zs.map fun z => Value.complex .f32 z.1 z.2)) : COwn w g n zs ∧ n ≤ cp ∧ cp ≤ maxLen := by
  have hl : zs.length = n := by simpa using h.1
  obtain ⟨_, hl2⟩ := h.lt g rfl
  have hc : n ≤ cp ∧ cp ≤ maxLen := by
    rcases h.2 with ⟨h', _⟩ | ⟨g', cap', cur, h', _, _, h1, h2, _⟩
    · cases h'
    · simp only [Value.slice.injEq, Option.some.injEq, Addr.mk.injEq, and_true, true_and] at h'
      obtain ⟨rfl, rfl⟩ := h'
      exact ⟨h1, h2⟩
  refine ⟨⟨hl, hl2, fun i hi => ⟨?_, h.frozenAt i⟩⟩, hc⟩
  rw [h.cellAt i (by omega)]
  simp [List.getD, hl, hi]

/-- a word narrowed -/
def c32 (x : Nat) : Nat := FloatKind.f32.encode (FloatKind.f64.decode x)
def okM (x : Nat) : Bool :=
  match FloatKind.f64.decode x with
  | .number sg m e => !(FloatKind.f32.decode (FloatKind.f32.encode (.number sg m e))).isInfinity && (FloatKind.f32.format.order (c32 x) (c32 x) == some .eq)
  | _ => false
theorem okM_B {x : Nat} (h : okM x = true) (w : World) : Flt.cB .f64 .f32 x w = c32 x := by
  unfold okM at h
  unfold Flt.cB c32
  cases hd : FloatKind.f64.decode x with
  | nan sg t => simp [hd] at h
  | infinity sg => simp [hd] at h
  | number sg m e =>
    rw [hd] at h
    simp only [Bool.and_eq_true, Bool.not_eq_true'] at h
    first | simp [h.1] | (simp; exact fun h' => by rw [h.1] at h'; cases h')
theorem okM_N {x : Nat} (h : okM x = true) : Flt.cN .f64 .f32 x = 0 := by
  unfold okM at h
  unfold Flt.cN
  cases hd : FloatKind.f64.decode x with
  | nan sg t => simp [hd] at h
  | infinity sg => simp [hd] at h
  | number sg m e =>
    rw [hd] at h
    simp only [Bool.and_eq_true, Bool.not_eq_true'] at h
    first | simp [h.1] | (simp; exact fun h' => by rw [h.1] at h'; cases h')
theorem okM_eq {x : Nat} (h : okM x = true) : (FloatKind.f32.format.order (c32 x) (c32 x) == some .eq) = true := by
  unfold okM at h
  cases hd : FloatKind.f64.decode x with
  | nan sg t => simp [hd] at h
  | infinity sg => simp [hd] at h
  | number sg m e =>
    rw [hd] at h
    simp only [Bool.and_eq_true] at h
    exact h.2
theorem ok_one : okM 4607182418800017408 = true := by decide +kernel
theorem ok_small : ∀ k : Fin 600, okM (floatOfInt .f64 (k.val : Int)) = true := by decide +kernel
theorem ok_mark {k : Int} (h0 : 0 ≤ k) (h1 : k < 600) : okM (floatOfInt .f64 k) = true := by
  obtain ⟨m, rfl⟩ : ∃ m : Nat, k = m := ⟨k.toNat, by omega⟩
  exact ok_small ⟨m, by omega⟩

def mk (k : Int) : Nat × Nat := (c32 (floatOfInt .f64 k), c32 4607182418800017408)
def cmarks (k : Int) (n : Nat) : List (Nat × Nat) := (List.range n).map fun (i : Nat) => mk (k + (i : Int))
theorem cmarks_len (k : Int) (n : Nat) : (cmarks k n).length = n := by simp [cmarks]
theorem cmarks_get (k : Int) (n i : Nat) (h : i < n) : (cmarks k n).getD i (0, 0) = mk (k + (i : Int)) := by simp [cmarks, List.getD, h]
def cmarkUp (k : Int) (zs : List (Nat × Nat)) (j : Nat) : List (Nat × Nat) := cmarks k j ++ zs.drop j
theorem cmarkUp_step (k : Int) (zs : List (Nat × Nat)) (j : Nat) (h : j < zs.length) : (cmarkUp k zs j).set j (mk (k + (j : Int))) = cmarkUp k zs (j + 1) := by
  unfold cmarkUp
  rw [List.set_append_right _ _ (by rw [cmarks_len]; exact Nat.le_refl _), cmarks_len, Nat.sub_self, List.drop_eq_getElem_cons h, List.set_cons_zero]
  have : cmarks k (j + 1) = cmarks k j ++ [mk (k + (j : Int))] := by simp [cmarks, List.range_succ]
  rw [this, List.append_assoc]
  rfl

set_option maxHeartbeats 2000000 in
theorem markC_any (g n cp : Nat) (zs : List (Nat × Nat)) (k : Int) (w : World) (h : COwn w g n zs) (hn : n ≤ 256) (hk0 : 0 ≤ k) (hk1 : k ≤ 1) : Calls Tryd.prog 17 #[.slice (some ⟨g, 0, none⟩) n cp, .int .i64 k] w fun e w' => e = .returned (.int .i64 (k + n)) ∧ COwn w' g n (cmarks k n) ∧ Only g w w' := by
  have hl := h.1
  have H0 : Hid (COwn w g n (cmarkUp k zs 0)) := h
  have p2 := okM_N ok_one
  have p1 := okM_B ok_one
  clear h
  go_enter Tryd.func17, Tryd.ntmps17
  go_wp2
  go_loopw [1, 5] (fun ms is wr => ∃ j : Nat, j ≤ n ∧ is = .int .i64 (j : Int) ∧ ms = .int .i64 (k + (j : Int)) ∧ Hid (COwn wr g n (cmarkUp k zs j)) ∧ Hid (Only g w wr)) (fun _ is _ => n - (intOf is).toNat)
  case atStart => exact ⟨0, Nat.zero_le _, rfl, by simp, H0, Only.refl _ _⟩
  case round =>
    obtain ⟨j, hj, rfl, rfl, HO, HW⟩ := hrel
    by_cases hlt : j < n
    · have c1 := HO.out.cell hlt
      have c2 := HO.out.free hlt
      have hm := ok_mark (k := k + (j : Int)) (by omega) (by omega)
      have q1 := okM_B hm
      have q2 := okM_N hm
      have HS : Hid (COwn (wr.setCell ⟨g, j, none⟩ (.complex .f32 (c32 (floatOfInt .f64 (k + (j : Int)))) (c32 4607182418800017408))) g n (cmarkUp k zs (j + 1))) := by
        have := HO.out.set hlt (mk (k + (j : Int)))
        rwa [cmarkUp_step k zs j (by omega)] at this
      have HX : Hid (Only g w (wr.setCell ⟨g, j, none⟩ (.complex .f32 (c32 (floatOfInt .f64 (k + (j : Int)))) (c32 4607182418800017408)))) := HW.out.setCell rfl _
      clear HO HW hm
      go_wp2
      go_roundw
      case rel => exact ⟨j + 1, by omega, by go_num, by go_num, HS, HX⟩
      case measure => simp [intOf]; omega
    · obtain rfl : j = n := by omega
      have HE : Hid (COwn wr g j (cmarks k j)) := by
        have := HO.out
        unfold cmarkUp at this
        rwa [List.drop_of_length_le (by omega), List.append_nil] at this
      go_wp2
      go_ret
      exact ⟨rfl, HE.out, HW.out⟩

set_option maxHeartbeats 2000000 in
theorem heldC_any (g n cp : Nat) (k : Int) (w : World) (h : COwn w g n (cmarks k n)) (hn : n ≤ 256) (hk0 : 0 ≤ k) (hk1 : k ≤ 1) : Calls Tryd.prog 18 #[.slice (some ⟨g, 0, none⟩) n cp, .int .i64 k] w fun e w' => e = .returned (.int .i64 (k + n)) ∧ w' = w := by
  have H : Hid (COwn w g n (cmarks k n)) := h
  have p2 := okM_N ok_one
  have p1 := okM_B ok_one
  have p3 := okM_eq ok_one
  clear h
  go_enter Tryd.func18, Tryd.ntmps18
  go_wp2
  go_loopw [1, 5] (fun ms is wr => ∃ j : Nat, j ≤ n ∧ is = .int .i64 (j : Int) ∧ ms = .int .i64 (k + (j : Int)) ∧ wr = w) (fun _ is _ => n - (intOf is).toNat)
  case atStart => exact ⟨0, Nat.zero_le _, rfl, by simp, rfl⟩
  case round =>
    obtain ⟨j, hj, rfl, rfl, hwr⟩ := hrel
    subst hwr
    by_cases hlt : j < n
    · have c1 := H.out.cell hlt
      rw [cmarks_get k n j hlt] at c1
      unfold mk at c1
      have hm := ok_mark (k := k + (j : Int)) (by omega) (by omega)
      have q1 := okM_B hm
      have q2 := okM_N hm
      have q3 := okM_eq hm
      clear hm
      go_wp2
      go_roundw
      case rel => exact ⟨j + 1, by omega, by go_num, by go_num, by first | rfl | trivial⟩
      case measure => simp [intOf]; omega
    · obtain rfl : j = n := by omega
      go_wp2
      go_ret
      exact ⟨rfl, by first | rfl | trivial⟩

/-- at a nil slice nothing is marked, and it is as another -/
theorem markC_nil (k : Int) (w : World) : Calls Tryd.prog 17 #[.slice none 0 0, .int .i64 k] w fun e w' => e = .returned (.int .i64 k) ∧ w' = w := by
  go_enter Tryd.func17, Tryd.ntmps17
  go_wp2
  go_loopw [1, 5] (fun ms is wr => is = .int .i64 0 ∧ ms = .int .i64 k ∧ wr = w) (fun _ _ _ => 0)
  case atStart => exact ⟨rfl, rfl, rfl⟩
  case round =>
    obtain ⟨rfl, rfl, hwr⟩ := hrel
    subst hwr
    go_wp2
    go_ret
    exact ⟨rfl, by first | rfl | trivial⟩
theorem heldC_nil (k : Int) (w : World) : Calls Tryd.prog 18 #[.slice none 0 0, .int .i64 k] w fun e w' => e = .returned (.int .i64 k) ∧ w' = w := by
  go_enter Tryd.func18, Tryd.ntmps18
  go_wp2
  go_loopw [1, 5] (fun ms is wr => is = .int .i64 0 ∧ ms = .int .i64 k ∧ wr = w) (fun _ _ _ => 0)
  case atStart => exact ⟨rfl, rfl, rfl⟩
  case round =>
    obtain ⟨rfl, rfl, hwr⟩ := hrel
    subst hwr
    go_wp2
    go_ret
    exact ⟨rfl, by first | rfl | trivial⟩

theorem eqC_nil (w : World) : Calls Tryd.prog 16 #[.slice none 0 0, .slice none 0 0] w fun e w' => e = .returned (.bool true) ∧ ∃ m, w' = w.drewN m := by
  go_enter Tryd.func16, Tryd.ntmps16
  go_wp2
  go_loop [5] (fun i => i = .int .i64 0) (fun _ => 0)
  case atStart => rfl
  case round =>
    subst hrel
    go_wp2
    go_ret
    exact ⟨rfl, 0, rfl⟩

set_option maxHeartbeats 4000000 in
theorem eqC_any (g g' n cp cp' : Nat) (zs : List (Nat × Nat)) (w : World) (h : COwn w g n zs) (h' : COwn w g' n zs) (hcp : n ≤ cp) (hcp' : n ≤ cp') (hn : n ≤ 256) : Calls Tryd.prog 16 #[.slice (some ⟨g, 0, none⟩) n cp, .slice (some ⟨g', 0, none⟩) n cp'] w fun e w' => e = .returned (.bool true) ∧ ∃ m, w' = w.drewN m := by
  have H : Hid (∀ i, i < n → w.cell? ⟨g, i, none⟩ = some (.complex .f32 (zs.getD i (0, 0)).1 (zs.getD i (0, 0)).2)) := fun i hi => h.cell hi
  have H' : Hid (∀ i, i < n → w.cell? ⟨g', i, none⟩ = some (.complex .f32 (zs.getD i (0, 0)).1 (zs.getD i (0, 0)).2)) := fun i hi => h'.cell hi
  clear h h'
  go_enter Tryd.func16, Tryd.ntmps16
  go_wp2
  go_loopw [5] (fun i wr => ∃ k : Nat, k ≤ n ∧ i = .int .i64 k ∧ ∃ m, wr = w.drewN m) (fun i _ => n - (intOf i).toNat)
  case atStart => exact ⟨0, Nat.zero_le _, rfl, 0, rfl⟩
  case round =>
    obtain ⟨k, hk, rfl, m, hwr⟩ := hrel
    have HW : Hid (∃ m, wr = w.drewN m) := ⟨m, hwr⟩
    by_cases hlt : k < n
    · have g1 : wr.cell? ⟨g, k, none⟩ = some (.complex .f32 (zs.getD k (0, 0)).1 (zs.getD k (0, 0)).2) := by rw [hwr]; exact H.out k hlt
      have g2 : wr.cell? ⟨g', k, none⟩ = some (.complex .f32 (zs.getD k (0, 0)).1 (zs.getD k (0, 0)).2) := by rw [hwr]; exact H'.out k hlt
      clear hwr
      generalize (zs.getD k (0, 0)).1 = x at *
      generalize (zs.getD k (0, 0)).2 = y at *
      go_wp2
      go_region_with (go_at_call 28; refine (sameC_any _ _ _ _ _ _ _ (Flt.widen_Fl _ _) (Flt.widen_Fl _ _) (Flt.widen_Fl _ _) (Flt.widen_Fl _ _)).mono ?_; rintro e w' ⟨rfl, rfl⟩)
      all_goals
        go_wp2
        go_roundw
        case rel => exact ⟨k + 1, by omega, by go_num, by repeat (first | exact HW.out | refine drewN_ex ?_ _ | refine drew_ex ?_)⟩
        case measure => simp [intOf]; omega
    · obtain rfl : k = n := by omega
      clear hwr
      go_wp2
      go_ret
      exact ⟨rfl, HW.out⟩

end Go.Proofs.YtlhhedmammjieaaDoor
