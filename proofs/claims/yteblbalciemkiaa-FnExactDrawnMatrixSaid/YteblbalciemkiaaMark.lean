/- Contracts of the marks that the laws set into a row of the program's own, and of the look at them. -/
import Derived.Test.YteblbalciemkiaaMat
namespace Go.Proofs.Yteblbalciemkiaa
open Go.RowKit Opn

/-- only block g may have changed -/
structure Only (g : Nat) (w w' : World) : Prop where
  os : w'.os = w.os
  tape : w'.tape = w.tape
  output : w'.output = w.output
  size : w'.heap.size = w.heap.size
  block : ∀ b, b ≠ g → w'.heap[b]? = w.heap[b]?

theorem Only.refl (g : Nat) (w : World) : Only g w w := ⟨rfl, rfl, rfl, rfl, fun _ _ => rfl⟩
theorem Only.setCell {g : Nat} {w w' : World} (h : Only g w w') {p : Addr} (hp : p.block = g) (u : Value) : Only g w (w'.setCell p u) :=
  ⟨h.os, h.tape, h.output, by rw [← h.size]; simp [World.setCell], fun b hb => by rw [Below.heap_setCell _ _ _ _ (by rw [hp]; exact hb)]; exact h.block b hb⟩
theorem Only.drewN {g : Nat} {w w' : World} (h : Only g w w') (n : Nat) : Only g w (w'.drewN n) := ⟨h.os, h.tape, h.output, h.size, h.block⟩
theorem Only.cell {g : Nat} {w w' : World} (h : Only g w w') {p : Addr} (hp : p.block ≠ g) : w'.cell? p = w.cell? p := World.cell?_of_block (w := w) (h.block p.block hp)
theorem Only.frozen {g : Nat} {w w' : World} (h : Only g w w') {p : Addr} (hp : p.block ≠ g) : w'.frozen? p = w.frozen? p := World.frozen?_of_block (w := w) (h.block p.block hp)
theorem Only.below {g B : Nat} {w w' : World} (h : Only g w w') (hB : B ≤ g) : Below B w w' := ⟨h.os, h.tape, h.output, by rw [h.size]; exact Nat.le_refl _, fun k hk => h.block k (by omega)⟩

/-- the marks from k on -/
def marks (k : Int) (n : Nat) : List Nat := (List.range n).map fun (i : Nat) => floatOfInt .f32 (k + (i : Int))

theorem marks_len (k : Int) (n : Nat) : (marks k n).length = n := by simp [marks]
theorem marks_get (k : Int) (n i : Nat) (h : i < n) : (marks k n).getD i 0 = floatOfInt .f32 (k + (i : Int)) := by simp [marks, List.getD, h]

/-- the first j of a row marked -/
def markUp (k : Int) (zs : List Nat) (j : Nat) : List Nat := marks k j ++ zs.drop j
theorem markUp_step (k : Int) (zs : List Nat) (j : Nat) (h : j < zs.length) : (markUp k zs j).set j (floatOfInt .f32 (k + (j : Int))) = markUp k zs (j + 1) := by
  unfold markUp
  rw [List.set_append_right _ _ (by rw [marks_len]; exact Nat.le_refl _), marks_len, Nat.sub_self, List.drop_eq_getElem_cons h, List.set_cons_zero]
  have : marks k (j + 1) = marks k j ++ [floatOfInt .f32 (k + (j : Int))] := by simp [marks, List.range_succ]
  rw [this, List.append_assoc]
  rfl

set_option maxHeartbeats 1000000 in
theorem mark_any (g n : Nat) (zs : List Nat) (k : Int) (w : World) (h : FOwn w g n zs) (hn : n ≤ 1048576) (hk0 : 0 ≤ k) (hk1 : k ≤ 1048576) : Calls Try.prog 45 #[.slice (some ⟨g, 0, none⟩) n n, .int .i64 k] w fun e w' => e = .returned (.int .i64 (k + n)) ∧ FOwn w' g n (marks k n) ∧ Only g w w' := by
  have hl := h.1
  have H0 : Hid (FOwn w g n (markUp k zs 0)) := h
  clear h
  go_enter Try.func45, Try.ntmps45
  go_wp2
  go_loopw [1, 5] (fun ms is wr => ∃ j : Nat, j ≤ n ∧ is = .int .i64 (j : Int) ∧ ms = .int .i64 (k + (j : Int)) ∧ Hid (FOwn wr g n (markUp k zs j)) ∧ Hid (Only g w wr)) (fun _ is _ => n - (intOf is).toNat)
  case atStart => exact ⟨0, Nat.zero_le _, rfl, by simp, H0, Only.refl _ _⟩
  case round =>
    obtain ⟨j, hj, rfl, rfl, HO, HW⟩ := hrel
    by_cases hlt : j < n
    · have c1 := HO.out.cell hlt
      have c2 := HO.out.free hlt
      have HS : Hid (FOwn (wr.setCell ⟨g, j, none⟩ (.float .f32 (floatOfInt .f32 (k + (j : Int))))) g n (markUp k zs (j + 1))) := by
        have := HO.out.set hlt (floatOfInt .f32 (k + (j : Int)))
        rwa [markUp_step k zs j (by omega)] at this
      have HX : Hid (Only g w (wr.setCell ⟨g, j, none⟩ (.float .f32 (floatOfInt .f32 (k + (j : Int)))))) := HW.out.setCell rfl _
      clear HO HW
      go_wp2
      go_roundw
      case rel => exact ⟨j + 1, by omega, by go_num, by go_num, HS, HX⟩
      case measure => simp [intOf]; omega
    · obtain rfl : j = n := by omega
      have HE : Hid (FOwn wr g j (marks k j)) := by
        have := HO.out
        unfold markUp at this
        rwa [List.drop_of_length_le (by omega), List.append_nil] at this
      go_wp2
      go_ret
      exact ⟨rfl, HE.out, HW.out⟩

theorem int32_self (e : Int) : (FloatKind.f32.format.order (floatOfInt .f32 e) (floatOfInt .f32 e) != some .eq) = false := by
  have := Flt.rung_write FloatKind.f32.format (.number (e < 0) e.natAbs 0) rfl
  exact neql_self (k := .f32) this

set_option maxHeartbeats 1000000 in
theorem held_any (g n : Nat) (k : Int) (w : World) (h : FOwn w g n (marks k n)) (hn : n ≤ 1048576) (hk0 : 0 ≤ k) (hk1 : k ≤ 1048576) : Calls Try.prog 46 #[.slice (some ⟨g, 0, none⟩) n n, .int .i64 k] w fun e w' => e = .returned (.int .i64 (k + n)) ∧ w' = w := by
  have H : Hid (FOwn w g n (marks k n)) := h
  clear h
  go_enter Try.func46, Try.ntmps46
  go_wp2
  go_loopw [1, 5] (fun ms is wr => ∃ j : Nat, j ≤ n ∧ is = .int .i64 (j : Int) ∧ ms = .int .i64 (k + (j : Int)) ∧ wr = w) (fun _ is _ => n - (intOf is).toNat)
  case atStart => exact ⟨0, Nat.zero_le _, rfl, by simp, rfl⟩
  case round =>
    obtain ⟨j, hj, rfl, rfl, hwr⟩ := hrel
    subst hwr
    by_cases hlt : j < n
    · have c1 := H.out.cell hlt
      rw [marks_get k n j hlt] at c1
      have c2 := int32_self (k + (j : Int))
      go_wp2
      go_roundw
      case rel => exact ⟨j + 1, by omega, by go_num, by go_num, by first | rfl | trivial⟩
      case measure => simp [intOf]; omega
    · obtain rfl : j = n := by omega
      go_wp2
      go_ret
      exact ⟨rfl, by first | rfl | trivial⟩

/-- of what there was, only block g may have changed -/
structure But (g : Nat) (w w' : World) : Prop where
  os : w'.os = w.os
  tape : w'.tape = w.tape
  output : w'.output = w.output
  size : w.heap.size ≤ w'.heap.size
  block : ∀ b, b < w.heap.size → b ≠ g → w'.heap[b]? = w.heap[b]?

theorem But.of {g : Nat} {w w1 w2 : World} (h : Below w.heap.size w w1) (k : Only g w1 w2) : But g w w2 :=
  ⟨k.os.trans h.os, k.tape.trans h.tape, k.output.trans h.output, by rw [k.size]; exact h.size, fun b hb hg => (k.block b hg).trans (h.block b hb)⟩
theorem But.cell {g : Nat} {w w' : World} (h : But g w w') {p : Addr} (hp : p.block < w.heap.size) (hg : p.block ≠ g) : w'.cell? p = w.cell? p := World.cell?_of_block (w := w) (h.block p.block hp hg)
theorem But.frozen {g : Nat} {w w' : World} (h : But g w w') {p : Addr} (hp : p.block < w.heap.size) (hg : p.block ≠ g) : w'.frozen? p = w.frozen? p := World.frozen?_of_block (w := w) (h.block p.block hp hg)
theorem But.below {g B : Nat} {w w' : World} (h : But g w w') (hB : B ≤ g) (hs : B ≤ w.heap.size) : Below B w w' := ⟨h.os, h.tape, h.output, h.size, fun k hk => h.block k (by omega) (by omega)⟩
theorem FOwn.but {g g' n : Nat} {zs : List Nat} {w w' : World} (h : FOwn w g' n zs) (k : But g w w') (hg : g' ≠ g) : FOwn w' g' n zs := by
  obtain ⟨h1, h2, h3⟩ := h
  refine ⟨h1, Nat.lt_of_lt_of_le h2 k.size, fun i hi => ?_⟩
  rw [k.cell (p := ⟨g', i, none⟩) h2 hg, k.frozen (p := ⟨g', i, none⟩) h2 hg]
  exact h3 i hi

theorem markM_any (x y : Int) (g n : Nat) (zs : List Nat) (k : Int) (w : World) (h : FOwn w g n zs) (hn : n ≤ 1048576) (hk0 : 0 ≤ k) (hk1 : k ≤ 1048576) : Calls Try.prog 14 #[.agg #[.int .i64 x, .int .i64 y, .slice (some ⟨g, 0, none⟩) n n], .int .i64 k] w fun e w' => e = .returned (.int .i64 (k + n)) ∧ FOwn w' g n (marks k n) ∧ But g w w' := by
  have H : Hid (FOwn w g n zs) := h
  clear h
  have hA : Below w.heap.size w (w.alloc (.cells #[.int .i64 x, .int .i64 y, .slice (some ⟨g, 0, none⟩) n n] 24)) := (Below.refl _ _).alloc (Nat.le_refl _) _
  have HA : Hid _ := hA
  clear hA
  go_enter Try.func14, Try.ntmps14
  go_wp2_with fail
  refine (mark_any g n zs k _ (H.out.below HA.out H.out.2.1) hn hk0 hk1).mono ?_
  rintro e w1 ⟨rfl, ho, hx⟩
  have HX : Hid (But g w w1) := But.of HA.out hx
  have HO : Hid (FOwn w1 g n (marks k n)) := ho
  clear ho hx
  go_wp2_with fail
  go_ret
  exact ⟨rfl, HO.out, HX.out⟩

theorem heldM_any (x y : Int) (g n : Nat) (k : Int) (w : World) (h : FOwn w g n (marks k n)) (hn : n ≤ 1048576) (hk0 : 0 ≤ k) (hk1 : k ≤ 1048576) : Calls Try.prog 15 #[.agg #[.int .i64 x, .int .i64 y, .slice (some ⟨g, 0, none⟩) n n], .int .i64 k] w fun e w' => e = .returned (.int .i64 (k + n)) ∧ Below w.heap.size w w' := by
  have H : Hid (FOwn w g n (marks k n)) := h
  clear h
  have hA : Below w.heap.size w (w.alloc (.cells #[.int .i64 x, .int .i64 y, .slice (some ⟨g, 0, none⟩) n n] 24)) := (Below.refl _ _).alloc (Nat.le_refl _) _
  have HA : Hid _ := hA
  clear hA
  have hd : decide (k + (n : Int) < 0) = false := decide_eq_false (by omega)
  go_enter Try.func15, Try.ntmps15
  go_wp2_with fail
  refine (held_any g n k _ (H.out.below HA.out H.out.2.1) hn hk0 hk1).mono ?_
  rintro e w1 ⟨rfl, hw1⟩
  have HX : Hid (Below w.heap.size w w1) := by rw [hw1]; exact HA.out
  clear hw1
  go_wp2_with fail
  go_ret
  exact ⟨rfl, HX.out⟩

end Go.Proofs.Yteblbalciemkiaa
