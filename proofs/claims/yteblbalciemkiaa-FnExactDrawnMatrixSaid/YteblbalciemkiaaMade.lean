/- What the makers of matrices share: what may have changed, boxes, rows under way. -/
import Derived.Test.YteblbalciemkiaaSet
import Derived.LoopN
namespace Go.Proofs.Yteblbalciemkiaa
open Go.RowKit Opn

theorem Only.but {g : Nat} {w w' : World} (h : Only g w w') : But g w w' := ⟨h.os, h.tape, h.output, by rw [h.size]; exact Nat.le_refl _, fun b _ hg => h.block b hg⟩

/-- of what there was, only the blocks of C may have changed -/
structure Kp (C : Nat → Prop) (w w' : World) : Prop where
  os : w'.os = w.os
  tape : w'.tape = w.tape
  output : w'.output = w.output
  size : w.heap.size ≤ w'.heap.size
  block : ∀ b, b < w.heap.size → ¬ C b → w'.heap[b]? = w.heap[b]?

theorem Kp.refl (C : Nat → Prop) (w : World) : Kp C w w := ⟨rfl, rfl, rfl, Nat.le_refl _, fun _ _ _ => rfl⟩
theorem Kp.of {C : Nat → Prop} {w w' : World} (h : Below w.heap.size w w') : Kp C w w' := ⟨h.os, h.tape, h.output, h.size, fun b hb _ => h.block b hb⟩
theorem Kp.trans {C : Nat → Prop} {w w1 w2 : World} (h : Kp C w w1) (k : Kp C w1 w2) : Kp C w w2 :=
  ⟨k.os.trans h.os, k.tape.trans h.tape, k.output.trans h.output, Nat.le_trans h.size k.size, fun b hb hc => (k.block b (Nat.lt_of_lt_of_le hb h.size) hc).trans (h.block b hb hc)⟩
theorem Kp.but {C : Nat → Prop} {w w1 w2 : World} {g : Nat} (h : Kp C w w1) (k : But g w1 w2) (hg : w.heap.size ≤ g) : Kp C w w2 :=
  ⟨k.os.trans h.os, k.tape.trans h.tape, k.output.trans h.output, Nat.le_trans h.size k.size, fun b hb hc => (k.block b (Nat.lt_of_lt_of_le hb h.size) (by omega)).trans (h.block b hb hc)⟩
theorem Kp.drewN {C : Nat → Prop} {w w' : World} (h : Kp C w w') (n : Nat) : Kp C w (w'.drewN n) := ⟨h.os, h.tape, h.output, h.size, h.block⟩
theorem Kp.setCell {C : Nat → Prop} {w w' : World} (h : Kp C w w') {p : Addr} (hp : w.heap.size ≤ p.block) (v : Value) : Kp C w (w'.setCell p v) :=
  ⟨h.os, h.tape, h.output, by simp [World.setCell]; exact h.size, fun b hb hc => (Below.heap_setCell _ _ _ _ (by omega)).trans (h.block b hb hc)⟩
theorem Kp.cell {C : Nat → Prop} {w w' : World} (h : Kp C w w') {p : Addr} (hp : p.block < w.heap.size) (hg : ¬ C p.block) : w'.cell? p = w.cell? p := World.cell?_of_block (w := w) (h.block p.block hp hg)
theorem Kp.frozen {C : Nat → Prop} {w w' : World} (h : Kp C w w') {p : Addr} (hp : p.block < w.heap.size) (hg : ¬ C p.block) : w'.frozen? p = w.frozen? p := World.frozen?_of_block (w := w) (h.block p.block hp hg)
theorem FOwn.kp {C : Nat → Prop} {g n : Nat} {zs : List Nat} {w w' : World} (h : FOwn w g n zs) (k : Kp C w w') (hg : ¬ C g) : FOwn w' g n zs := by
  obtain ⟨h1, h2, h3⟩ := h
  refine ⟨h1, Nat.lt_of_lt_of_le h2 k.size, fun i hi => ?_⟩
  rw [k.cell (p := ⟨g, i, none⟩) h2 hg, k.frozen (p := ⟨g, i, none⟩) h2 hg]
  exact h3 i hi

/-- the first p numbers set, the others 0 -/
def fillTo (F : Nat → Nat) (p n : Nat) : List Nat := (List.range p).map F ++ List.replicate (n - p) 0
theorem fillTo_zero (F : Nat → Nat) (n : Nat) : fillTo F 0 n = List.replicate n 0 := by simp [fillTo]
theorem fillTo_all (F : Nat → Nat) (n : Nat) : fillTo F n n = (List.range n).map F := by simp [fillTo]
theorem fillTo_step (F : Nat → Nat) (p n : Nat) (h : p < n) : (fillTo F p n).set p (F p) = fillTo F (p + 1) n := by
  unfold fillTo
  rw [List.set_append_right _ _ (by simp), List.length_map, List.length_range, Nat.sub_self]
  obtain ⟨m, hm⟩ : ∃ m, n - p = m + 1 := ⟨n - p - 1, by omega⟩
  rw [hm, List.replicate_succ, List.set_cons_zero, List.range_succ, List.map_append, List.append_assoc]
  congr 1
  rw [show n - (p + 1) = m by omega]
  rfl

theorem Kp.below {C : Nat → Prop} (hC : ∀ b, ¬ C b) {w w' : World} (h : Kp C w w') : Below w.heap.size w w' := ⟨h.os, h.tape, h.output, h.size, fun b hb => h.block b hb (hC b)⟩

/-- the box of a matrix -/
def BoxW (W : World) (b : Nat) (x y : Int) (s : Value) : Prop := (W.cell? ⟨b, 0, none⟩ = some (.int .i64 x) ∧ W.cell? ⟨b, 1, none⟩ = some (.int .i64 y) ∧ W.cell? ⟨b, 2, none⟩ = some s) ∧ (W.frozen? ⟨b, 0, none⟩ = false ∧ W.frozen? ⟨b, 1, none⟩ = false ∧ W.frozen? ⟨b, 2, none⟩ = false) ∧ b < W.heap.size
theorem BoxW.same {W W' : World} {b : Nat} {x y : Int} {s : Value} (h : BoxW W b x y s) (hc : ∀ i, W'.cell? ⟨b, i, none⟩ = W.cell? ⟨b, i, none⟩) (hf : ∀ i, W'.frozen? ⟨b, i, none⟩ = W.frozen? ⟨b, i, none⟩) (hs : W.heap.size ≤ W'.heap.size) : BoxW W' b x y s := by
  obtain ⟨⟨h0, h1, h2⟩, ⟨f0, f1, f2⟩, h3⟩ := h
  exact ⟨⟨(hc 0).trans h0, (hc 1).trans h1, (hc 2).trans h2⟩, ⟨(hf 0).trans f0, (hf 1).trans f1, (hf 2).trans f2⟩, Nat.lt_of_lt_of_le h3 hs⟩
theorem BoxW.kp {W W' : World} {b : Nat} {x y : Int} {s : Value} {C : Nat → Prop} (h : BoxW W b x y s) (k : Kp C W W') (hb : ¬ C b) : BoxW W' b x y s :=
  h.same (fun i => k.cell (p := ⟨b, i, none⟩) h.2.2 hb) (fun i => k.frozen (p := ⟨b, i, none⟩) h.2.2 hb) k.size
theorem BoxW.but {W W' : World} {b g : Nat} {x y : Int} {s : Value} (h : BoxW W b x y s) (k : But g W W') (hb : b ≠ g) : BoxW W' b x y s :=
  h.same (fun i => k.cell (p := ⟨b, i, none⟩) h.2.2 hb) (fun i => k.frozen (p := ⟨b, i, none⟩) h.2.2 hb) k.size
theorem BoxW.below {W W' : World} {b B : Nat} {x y : Int} {s : Value} (h : BoxW W b x y s) (k : Below B W W') (hb : b < B) : BoxW W' b x y s :=
  h.same (fun i => k.cell (p := ⟨b, i, none⟩) hb) (fun i => k.frozen (p := ⟨b, i, none⟩) hb) k.size
theorem BoxW.drew {W : World} {b : Nat} {x y : Int} {s : Value} (h : BoxW W b x y s) : BoxW W.drew b x y s := h
theorem BoxW.new (W : World) (x y : Int) (s : Value) (t : TypeId) : BoxW (W.alloc (.cells #[.int .i64 x, .int .i64 y, s] t)) W.heap.size x y s :=
  ⟨⟨by simp [go_sem], by simp [go_sem], by simp [go_sem]⟩, ⟨by simp [go_sem], by simp [go_sem], by simp [go_sem]⟩, by simp⟩
theorem BoxW.put {W : World} {b : Nat} {x y x' y' : Int} {s s' : Value} (h : BoxW W b x y s) : BoxW (((W.setCell ⟨b, 0, none⟩ (.int .i64 x')).setCell ⟨b, 1, none⟩ (.int .i64 y')).setCell ⟨b, 2, none⟩ s') b x' y' s' := by
  obtain ⟨⟨h0, h1, h2⟩, ⟨f0, f1, f2⟩, h3⟩ := h
  exact ⟨⟨by simp [go_sem, h0], by simp [go_sem, h1], by simp [go_sem, h2]⟩, ⟨by simp [go_sem, f0], by simp [go_sem, f1], by simp [go_sem, f2]⟩, by simp [World.setCell]; exact h3⟩

theorem FRow.form {w : World} {v : Value} {n : Nat} {zs : List Nat} (h : FRow w v n zs) : ∃ ao cap, v = .slice ao n cap := by
  rcases h.2.2.2 with ⟨h0, ao, cap, hv⟩ | ⟨h0, b, off, cap, hv, _⟩
  · exact ⟨ao, cap, by rw [hv, h0]⟩
  · exact ⟨_, cap, hv⟩
theorem FRow.nil (w : World) : FRow w (.slice none 0 0) 0 [] := ⟨rfl, Nat.zero_le _, by simp, .inl ⟨rfl, _, _, rfl⟩⟩

theorem markN_any (x y k : Int) (w : World) : Calls Try.prog 14 #[.agg #[.int .i64 x, .int .i64 y, .slice none 0 0], .int .i64 k] w fun e w' => e = .returned (.int .i64 k) ∧ Below w.heap.size w w' := by
  have hc : ∀ w, Calls Try.prog 45 #[.slice none 0 0, .int .i64 k] w fun e w' => e = .returned (.int .i64 k) ∧ w' = w := fun w => by
    go_enter Try.func45, Try.ntmps45
    go_wp2
    refine wp_loop_rounds 1 ?_
    rw [rounds_succ]
    go_wp2
    go_ret
    exact ⟨rfl, rfl⟩
  have HC : Hid _ := hc
  clear hc
  go_enter Try.func14, Try.ntmps14
  go_wp2_with (refine (HC.out _).mono ?_; rintro e w1 ⟨rfl, rfl⟩)
  go_ret
  exact ⟨rfl, by go_grown⟩

theorem heldN_any (x y k : Int) (w : World) (hk : 0 ≤ k) : Calls Try.prog 15 #[.agg #[.int .i64 x, .int .i64 y, .slice none 0 0], .int .i64 k] w fun e w' => e = .returned (.int .i64 k) ∧ Below w.heap.size w w' := by
  have hc : ∀ w, Calls Try.prog 46 #[.slice none 0 0, .int .i64 k] w fun e w' => e = .returned (.int .i64 k) ∧ w' = w := fun w => by
    go_enter Try.func46, Try.ntmps46
    go_wp2
    refine wp_loop_rounds 1 ?_
    rw [rounds_succ]
    go_wp2
    go_ret
    exact ⟨rfl, rfl⟩
  have HC : Hid _ := hc
  clear hc
  have hd : decide (k < 0) = false := decide_eq_false (by omega)
  go_enter Try.func15, Try.ntmps15
  go_wp2_with (refine (HC.out _).mono ?_; rintro e w1 ⟨rfl, rfl⟩)
  go_ret
  exact ⟨rfl, by go_grown⟩

end Go.Proofs.Yteblbalciemkiaa
