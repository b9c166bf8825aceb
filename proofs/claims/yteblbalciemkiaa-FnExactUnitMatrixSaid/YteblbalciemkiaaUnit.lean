/- Contracts of the units on both sides. -/
import Derived.Test.YteblbalciemkiaaMadeU
import Derived.Test.YteblbalciemkiaaValid
namespace Go.Proofs.Yteblbalciemkiaa
open Go.RowKit Opn

/-- the unit with its first i ones set -/
def diagTo (n i : Nat) : List Nat := (List.range (n * n)).map fun p => if p / n = p % n ∧ p / n < i then 1065353216 else 0
theorem diagTo_len (n i : Nat) : (diagTo n i).length = n * n := by simp [diagTo]
theorem diagTo_zero (n : Nat) : diagTo n 0 = List.replicate (n * n) 0 := by
  apply List.ext_getElem
  · simp [diagTo]
  · intro p h1 h2
    simp [diagTo]
theorem diagTo_step (n i : Nat) (h : i < n) : (diagTo n i).set (i * n + i) 1065353216 = diagTo n (i + 1) := by
  apply List.ext_getElem
  · simp [diagTo]
  · intro p h1 h2
    rw [List.getElem_set]
    simp only [diagTo, List.getElem_map, List.getElem_range]
    have hd : i * n + i = p ↔ p / n = i ∧ p % n = i := by
      constructor
      · rintro rfl
        rw [Nat.mul_comm, Nat.mul_add_div (by omega), Nat.div_eq_of_lt h, Nat.add_zero, Nat.mul_add_mod, Nat.mod_eq_of_lt h]
        exact ⟨rfl, rfl⟩
      · rintro ⟨h1, h2⟩
        have := Nat.div_add_mod p n
        rw [h1, h2, Nat.mul_comm] at this
        exact this
    by_cases e : i * n + i = p
    · rw [if_pos e]
      obtain ⟨a, b⟩ := hd.1 e
      rw [if_pos ⟨by omega, by omega⟩]
    · rw [if_neg e]
      by_cases c : p / n = p % n ∧ p / n < i
      · rw [if_pos c, if_pos ⟨c.1, by omega⟩]
      · rw [if_neg c, if_neg]
        rintro ⟨c1, c2⟩
        exact e (hd.2 ⟨by omega, by omega⟩)
theorem diagTo_all (n : Nat) : diagTo n n = (List.range (n * n)).map (unitF n) := by
  apply List.ext_getElem
  · simp [diagTo]
  · intro p h1 h2
    simp only [diagTo, List.getElem_map, List.getElem_range, unitF]
    have hp : p < n * n := by simpa [diagTo] using h1
    have : p / n < n := Nat.div_lt_of_lt_mul hp
    by_cases c : p / n = p % n
    · rw [if_pos c, if_pos ⟨c, this⟩]
    · rw [if_neg c, if_neg (fun h => c h.1)]

set_option maxHeartbeats 2000000 in
theorem unit_spec (n : Nat) (w : World) (hn : n ≤ 12) : Calls Try.prog 50 #[.int .i64 n] w fun e w' => ∃ g, e = .returned (.agg #[.int .i64 n, .int .i64 n, .slice (some ⟨g, 0, none⟩) (n * n : Nat) (n * n : Nat)]) ∧ w.heap.size ≤ g ∧ FOwn w' g (n * n) ((List.range (n * n)).map (unitF n)) ∧ Below w.heap.size w w' := by
  have hN : n * n ≤ 144 := Nat.mul_le_mul hn hn
  obtain ⟨N, hNN⟩ : ∃ N, N = n * n := ⟨_, rfl⟩
  have HC : Hid ((n : Int) * (n : Int) = (N : Int)) := by show (n : Int) * (n : Int) = (N : Int); rw [hNN]; simp
  rw [← hNN] at hN ⊢
  have HN : Hid (N = n * n) := hNN
  clear hNN
  go_enter Try.func50, Try.ntmps50
  go_wp2_with fail
  refine (zeroM_any (n : Int) (n : Int) N _ HC.out (by omega)).mono ?_
  rintro e w1 ⟨g, rfl, hg, ho, hb⟩
  go_wp2_with fail
  have HO1 : Hid (FOwn (w1.alloc (Obj.cells #[.int .i64 n, .int .i64 n, .slice (some ⟨g, 0, none⟩) N N] 24)) g N (diagTo n 0)) := by
    have := ho.below ((Below.refl _ w1).alloc (Nat.le_refl _) (Obj.cells #[.int .i64 n, .int .i64 n, .slice (some ⟨g, 0, none⟩) N N] 24)) ho.2.1
    rw [diagTo_zero, ← HN.out]
    exact this
  have HB1 : Hid (BoxW (w1.alloc (Obj.cells #[.int .i64 n, .int .i64 n, .slice (some ⟨g, 0, none⟩) N N] 24)) w1.heap.size n n (.slice (some ⟨g, 0, none⟩) N N)) := BoxW.new _ _ _ _ _
  have HR1 : Hid (BoxW (w1.alloc (Obj.cells #[.int .i64 n, .int .i64 n, .slice (some ⟨g, 0, none⟩) N N] 24)) w.heap.size 0 0 (.slice none 0 0)) :=
    ((BoxW.new w 0 0 (.slice none 0 0) 24).below hb (by simp)).below ((Below.refl _ _).alloc (Nat.le_refl _) _) (Nat.lt_of_lt_of_le (by simp) hb.size)
  have HK1 : Hid (Below w.heap.size w (w1.alloc (Obj.cells #[.int .i64 n, .int .i64 n, .slice (some ⟨g, 0, none⟩) N N] 24))) := ((Below.refl _ w).alloc (Nat.le_refl _) _).trans ((hb.mono (by simp)).alloc (Nat.le_trans (by simp) hb.size) _)
  have hg0 : w.heap.size ≤ g := Nat.le_trans (by simp) hg
  have hgb : g ≠ w1.heap.size := by have := ho.2.1; omega
  generalize w1.alloc (Obj.cells #[.int .i64 n, .int .i64 n, .slice (some ⟨g, 0, none⟩) N N] 24) = w2 at *
  have hbs := hb.size
  have hg1 : w.heap.size + 1 ≤ g := by simpa using hg
  have hgr : g ≠ w.heap.size := by omega
  clear ho hb hg hg1 hbs
  generalize w1.heap.size = b at *
  go_loopw [4] (fun is wr => ∃ i : Nat, i ≤ n ∧ is = .int .i64 (i : Int) ∧ Hid (FOwn wr g N (diagTo n i)) ∧ Hid (BoxW wr b n n (.slice (some ⟨g, 0, none⟩) N N)) ∧ Hid (BoxW wr w.heap.size 0 0 (.slice none 0 0)) ∧ Hid (Below w.heap.size w wr)) (fun is _ => n - (intOf is).toNat)
  case atStart => exact ⟨0, Nat.zero_le _, rfl, HO1, HB1, HR1, HK1⟩
  case round =>
    clear HO1 HB1 HR1 HK1
    obtain ⟨i, hi, rfl, HO, HB, HR, HK⟩ := hrel
    by_cases hlt : i < n
    · obtain ⟨q, hq⟩ : ∃ q, q = i * n := ⟨_, rfl⟩
      have hkN : q + i < N := by
        have h1 : (i + 1) * n ≤ n * n := Nat.mul_le_mul (by omega) (Nat.le_refl _)
        rw [← HN.out, Nat.add_mul] at h1
        omega
      have R1 : Hid (FOwn (wr.setCell ⟨g, q + i, none⟩ (.float .f32 1065353216)) g N (diagTo n (i + 1))) := by
        have := HO.out.set hkN 1065353216
        rwa [hq, diagTo_step n i hlt, ← hq] at this
      have R2 : Hid (BoxW (wr.setCell ⟨g, q + i, none⟩ (.float .f32 1065353216)) b n n (.slice (some ⟨g, 0, none⟩) N N)) := HB.out.but (((Only.refl g wr).setCell rfl _).but) hgb.symm
      have R3 : Hid (BoxW (wr.setCell ⟨g, q + i, none⟩ (.float .f32 1065353216)) w.heap.size 0 0 (.slice none 0 0)) := HR.out.but (((Only.refl g wr).setCell rfl _).but) hgr.symm
      have R4 : Hid (Below w.heap.size w (wr.setCell ⟨g, q + i, none⟩ (.float .f32 1065353216))) := HK.out.setCell (p := ⟨g, q + i, none⟩) hg0 _
      have c1 := HO.out.cell hkN
      have c2 := HO.out.free hkN
      have w1 : wrap64 ((i : Int) * (n : Int)) = (q : Int) := by rw [hq]; show _ = ((i * n : Nat) : Int); unfold wrap64; rw [Int.natCast_mul]; have := (Int.natCast_mul i n); omega
      clear hq
      have w2 : (0 : Int) ≤ (q : Int) + (i : Int) := by omega
      obtain ⟨⟨b0, b1, b2⟩, -, -⟩ := HB.out
      clear HO HB HR HK
      go_wp2_with fail
      go_roundw
      case rel => exact ⟨i + 1, by omega, by go_num, R1, R2, R3, R4⟩
      case measure => simp [intOf]; omega
    · have hin : i = n := by omega
      have R1 : Hid (FOwn wr g N ((List.range N).map (unitF n))) := by have := HO.out; rwa [hin, diagTo_all, ← HN.out] at this
      clear hin HO
      obtain ⟨⟨c0, c1, c2⟩, -, -⟩ := HB.out
      obtain ⟨⟨r0, r1, r2⟩, ⟨f0, f1, f2⟩, -⟩ := HR.out
      obtain ⟨⟨e0, e1, e2⟩, -, -⟩ := HR.out.put (x' := (n : Int)) (y' := (n : Int)) (s' := .slice (some ⟨g, 0, none⟩) N N)
      go_wp2_with fail
      (try simp only [Exit.inBlock, Exit.then])
      refine bodyPost_ret (by simp [results, Try.results50, go_sem, e0, e1, e2]; try rfl) rfl ?_
      refine ⟨g, rfl, hg0, ?_, ?_⟩
      · exact ((R1.out.other (by exact hgr.symm) _).other (by exact hgr.symm) _).other (by exact hgr.symm) _
      · exact ((HK.out.setCell (Nat.le_refl _) _).setCell (Nat.le_refl _) _).setCell (Nat.le_refl _) _

end Go.Proofs.Yteblbalciemkiaa
