/- Tenths of decibels of products are those of both, but for one. -/
import Derived.Test.YtdomcjiiilbajaaTenK0
import Derived.Test.YtdomcjiiilbajaaTenK1
import Derived.Test.YtdomcjiiilbajaaTenK2
import Derived.Test.YtdomcjiiilbajaaTenK3
import Derived.Test.YtdomcjiiilbajaaTenK4
import Derived.Test.YtdomcjiiilbajaaTenK5
namespace Go.Proofs.Ytdomcjiiilbajaa
open Go.RowKit

theorem chkN_at {s n : Nat} (h : chkN s n = true) (i : Nat) (h1 : s ≤ i) (h2 : i < s + n) (hm : inM i = true) : chkD (2 * i + 1) = true := by
  have := List.all_eq_true.1 h i (by rw [List.mem_range'_1]; exact ⟨h1, h2⟩)
  rw [hm] at this
  exact this

theorem chkD_all (i : Nat) (h : i < 20000) (hm : inM i = true) : chkD (2 * i + 1) = true := by
  by_cases h0 : i < 30
  · exact chkN_at tenK0 i (by omega) (by omega) hm
  by_cases h1 : i < 64
  · exact chkN_at tenK1 i (by omega) (by omega) hm
  by_cases h2 : i < 99
  · exact chkN_at tenK2 i (by omega) (by omega) hm
  by_cases h3 : i < 152
  · exact chkN_at tenK3 i (by omega) (by omega) hm
  by_cases h4 : i < 209
  · exact chkN_at tenK4 i (by omega) (by omega) hm
  by_cases h5 : i < 267
  · exact chkN_at tenK5 i (by omega) (by omega) hm
  by_cases h6 : i < 329
  · exact chkN_at tenK6 i (by omega) (by omega) hm
  by_cases h7 : i < 400
  · exact chkN_at tenK7 i (by omega) (by omega) hm
  by_cases h8 : i < 472
  · exact chkN_at tenK8 i (by omega) (by omega) hm
  by_cases h9 : i < 545
  · exact chkN_at tenK9 i (by omega) (by omega) hm
  by_cases h10 : i < 626
  · exact chkN_at tenK10 i (by omega) (by omega) hm
  by_cases h11 : i < 709
  · exact chkN_at tenK11 i (by omega) (by omega) hm
  by_cases h12 : i < 797
  · exact chkN_at tenK12 i (by omega) (by omega) hm
  by_cases h13 : i < 885
  · exact chkN_at tenK13 i (by omega) (by omega) hm
  by_cases h14 : i < 978
  · exact chkN_at tenK14 i (by omega) (by omega) hm
  by_cases h15 : i < 1073
  · exact chkN_at tenK15 i (by omega) (by omega) hm
  by_cases h16 : i < 1173
  · exact chkN_at tenK16 i (by omega) (by omega) hm
  by_cases h17 : i < 1278
  · exact chkN_at tenK17 i (by omega) (by omega) hm
  by_cases h18 : i < 1380
  · exact chkN_at tenK18 i (by omega) (by omega) hm
  by_cases h19 : i < 1488
  · exact chkN_at tenK19 i (by omega) (by omega) hm
  by_cases h20 : i < 1599
  · exact chkN_at tenK20 i (by omega) (by omega) hm
  by_cases h21 : i < 1715
  · exact chkN_at tenK21 i (by omega) (by omega) hm
  by_cases h22 : i < 1838
  · exact chkN_at tenK22 i (by omega) (by omega) hm
  by_cases h23 : i < 1957
  · exact chkN_at tenK23 i (by omega) (by omega) hm
  by_cases h24 : i < 2086
  · exact chkN_at tenK24 i (by omega) (by omega) hm
  by_cases h25 : i < 2215
  · exact chkN_at tenK25 i (by omega) (by omega) hm
  by_cases h26 : i < 2341
  · exact chkN_at tenK26 i (by omega) (by omega) hm
  by_cases h27 : i < 2475
  · exact chkN_at tenK27 i (by omega) (by omega) hm
  by_cases h28 : i < 2615
  · exact chkN_at tenK28 i (by omega) (by omega) hm
  by_cases h29 : i < 2763
  · exact chkN_at tenK29 i (by omega) (by omega) hm
  by_cases h30 : i < 2903
  · exact chkN_at tenK30 i (by omega) (by omega) hm
  by_cases h31 : i < 3055
  · exact chkN_at tenK31 i (by omega) (by omega) hm
  by_cases h32 : i < 3209
  · exact chkN_at tenK32 i (by omega) (by omega) hm
  by_cases h33 : i < 3362
  · exact chkN_at tenK33 i (by omega) (by omega) hm
  by_cases h34 : i < 3525
  · exact chkN_at tenK34 i (by omega) (by omega) hm
  by_cases h35 : i < 3690
  · exact chkN_at tenK35 i (by omega) (by omega) hm
  by_cases h36 : i < 3863
  · exact chkN_at tenK36 i (by omega) (by omega) hm
  by_cases h37 : i < 4037
  · exact chkN_at tenK37 i (by omega) (by omega) hm
  by_cases h38 : i < 4214
  · exact chkN_at tenK38 i (by omega) (by omega) hm
  by_cases h39 : i < 4389
  · exact chkN_at tenK39 i (by omega) (by omega) hm
  by_cases h40 : i < 4584
  · exact chkN_at tenK40 i (by omega) (by omega) hm
  by_cases h41 : i < 4780
  · exact chkN_at tenK41 i (by omega) (by omega) hm
  by_cases h42 : i < 4973
  · exact chkN_at tenK42 i (by omega) (by omega) hm
  by_cases h43 : i < 5175
  · exact chkN_at tenK43 i (by omega) (by omega) hm
  by_cases h44 : i < 5394
  · exact chkN_at tenK44 i (by omega) (by omega) hm
  by_cases h45 : i < 5597
  · exact chkN_at tenK45 i (by omega) (by omega) hm
  by_cases h46 : i < 5820
  · exact chkN_at tenK46 i (by omega) (by omega) hm
  by_cases h47 : i < 6045
  · exact chkN_at tenK47 i (by omega) (by omega) hm
  by_cases h48 : i < 6273
  · exact chkN_at tenK48 i (by omega) (by omega) hm
  by_cases h49 : i < 6515
  · exact chkN_at tenK49 i (by omega) (by omega) hm
  by_cases h50 : i < 6758
  · exact chkN_at tenK50 i (by omega) (by omega) hm
  by_cases h51 : i < 7020
  · exact chkN_at tenK51 i (by omega) (by omega) hm
  by_cases h52 : i < 7298
  · exact chkN_at tenK52 i (by omega) (by omega) hm
  by_cases h53 : i < 7571
  · exact chkN_at tenK53 i (by omega) (by omega) hm
  by_cases h54 : i < 7863
  · exact chkN_at tenK54 i (by omega) (by omega) hm
  by_cases h55 : i < 8168
  · exact chkN_at tenK55 i (by omega) (by omega) hm
  by_cases h56 : i < 8483
  · exact chkN_at tenK56 i (by omega) (by omega) hm
  by_cases h57 : i < 8813
  · exact chkN_at tenK57 i (by omega) (by omega) hm
  by_cases h58 : i < 9161
  · exact chkN_at tenK58 i (by omega) (by omega) hm
  by_cases h59 : i < 9522
  · exact chkN_at tenK59 i (by omega) (by omega) hm
  by_cases h60 : i < 9923
  · exact chkN_at tenK60 i (by omega) (by omega) hm
  by_cases h61 : i < 10343
  · exact chkN_at tenK61 i (by omega) (by omega) hm
  by_cases h62 : i < 10763
  · exact chkN_at tenK62 i (by omega) (by omega) hm
  by_cases h63 : i < 11239
  · exact chkN_at tenK63 i (by omega) (by omega) hm
  by_cases h64 : i < 11746
  · exact chkN_at tenK64 i (by omega) (by omega) hm
  by_cases h65 : i < 12307
  · exact chkN_at tenK65 i (by omega) (by omega) hm
  by_cases h66 : i < 12942
  · exact chkN_at tenK66 i (by omega) (by omega) hm
  by_cases h67 : i < 13607
  · exact chkN_at tenK67 i (by omega) (by omega) hm
  by_cases h68 : i < 14426
  · exact chkN_at tenK68 i (by omega) (by omega) hm
  by_cases h69 : i < 15404
  · exact chkN_at tenK69 i (by omega) (by omega) hm
  by_cases h70 : i < 16727
  · exact chkN_at tenK70 i (by omega) (by omega) hm
  exact chkN_at tenK71 i (by omega) (by omega) hm

theorem chkJ_at (l : Nat) : ∀ (es : List Nat) (k : Nat), chkJ l es k = true → ∀ j, k * 2 ^ j ≤ 40000 → flrQ (lT l (es.getD j 0)) = nK (k * 2 ^ j)
  | [], k, h, j, hj => by
    have h : Nat.blt 40000 k = true := h
    have := (blt_iff _ _).1 h
    have hp := Nat.two_pow_pos j
    have := Nat.mul_le_mul_left k (show 1 ≤ 2 ^ j by omega)
    omega
  | e :: es, k, h, j, hj => by
    have hp := Nat.two_pow_pos j
    have hk : k ≤ 40000 := by
      have := Nat.mul_le_mul_left k (show 1 ≤ 2 ^ j by omega)
      omega
    unfold chkJ at h
    rw [Nat.ble_eq_true_of_le hk, cond_true, Bool.and_eq_true] at h
    cases j with
    | zero =>
      rw [Nat.pow_zero, Nat.mul_one]
      exact Nat.eq_of_beq_eq_true h.1
    | succ j =>
      have e1 : k * 2 ^ (j + 1) = 2 * k * 2 ^ j := by rw [Nat.pow_succ, Nat.mul_comm (2 ^ j), ← Nat.mul_assoc, Nat.mul_comm k]
      rw [e1] at hj ⊢
      exact chkJ_at l es (2 * k) h.2 j hj

theorem log2_up (d j : Nat) (h : d ≠ 0) : Nat.log2 (d * 2 ^ j) = Nat.log2 d + j := by
  refine Flt.log2_unique ?_ ?_
  · rw [Nat.pow_add]; exact Nat.mul_le_mul_right _ (Flt.log2_lo d h)
  · rw [show d.log2 + j + 1 = (d.log2 + 1) + j by omega, Nat.pow_add]; exact Nat.mul_lt_mul_of_pos_right (Flt.log2_hi d) (Nat.two_pow_pos j)

theorem chkD_at (d j : Nat) (h0 : d ≠ 0) (h : chkD d = true) (hj : d * 2 ^ j ≤ 40000) : flrQ (lT (lQ (baseW (mu (d * 2 ^ j)))) (eW.getD ((d * 2 ^ j).log2 + 2 + (bigB (mu (d * 2 ^ j))).toNat) 0)) = nK (d * 2 ^ j) := by
  have hl := log2_small (d * 2 ^ j) (by omega)
  have hu := log2_up d j h0
  have hm : mu (d * 2 ^ j) = d * 2 ^ (52 - d.log2) := by
    unfold mu
    rw [hu, Nat.mul_assoc, ← Nat.pow_add]
    congr 2; omega
  unfold chkD at h
  rw [fy_eq, fy_eq, fy_eq, fy_eq] at h
  have := chkJ_at _ _ _ h j hj
  rw [hm, hu, ← this]
  have e : Nat.mul d (Nat.pow 2 (Nat.sub 52 d.log2)) = d * 2 ^ (52 - d.log2) := rfl
  rw [e]
  have e2 : ∀ n, (eW.drop n).getD j 0 = eW.getD (n + j) 0 := fun n => by rw [List.getD_eq_getElem?_getD, List.getD_eq_getElem?_getD, List.getElem?_drop]
  rw [e2]
  congr 3; omega

theorem odd_part (n : Nat) : ∀ a, a ≤ n → a ≠ 0 → ∃ x j, a = (2 * x + 1) * 2 ^ j := by
  induction n with
  | zero => intro a h h0; omega
  | succ n ih =>
    intro a h h0
    by_cases ho : a % 2 = 1
    · exact ⟨a / 2, 0, by rw [Nat.pow_zero, Nat.mul_one]; omega⟩
    · obtain ⟨x, j, e⟩ := ih (a / 2) (by omega) (by omega)
      refine ⟨x, j + 1, ?_⟩
      rw [Nat.pow_succ, ← Nat.mul_assoc, ← e]; omega

theorem oddM : (List.range 100).all (fun a => (List.range 100).all fun b => inM (Nat.add (Nat.mul 2 (Nat.mul a b)) (Nat.add a b))) = true := by decide +kernel
theorem oddM_at (a b : Nat) (ha : a < 100) (hb : b < 100) : inM (2 * (a * b) + (a + b)) = true :=
  List.all_eq_true.1 (List.all_eq_true.1 oddM a (List.mem_range.2 ha)) b (List.mem_range.2 hb)

/-- the table at pairs -/
def pairB (a b : Nat) : Bool := fy (nK (Nat.mul a b)) fun o => fy (Nat.add (nK (Nat.mul 8 a)) (nK (Nat.mul 8 b))) fun s => Nat.ble 1 o && Nat.ble s (Nat.add o 201) && Nat.ble (Nat.add o 199) s
theorem pairB_all : (List.range' 1 200).all (fun a => (List.range' 1 200).all fun b => pairB a b) = true := by decide +kernel
theorem pairB_at (a b : Nat) (ha : 1 ≤ a ∧ a ≤ 200) (hb : 1 ≤ b ∧ b ≤ 200) : 1 ≤ nK (a * b) ∧ nK (8 * a) + nK (8 * b) ≤ nK (a * b) + 201 ∧ nK (a * b) + 199 ≤ nK (8 * a) + nK (8 * b) := by
  have := List.all_eq_true.1 (List.all_eq_true.1 pairB_all a (by rw [List.mem_range'_1]; omega)) b (by rw [List.mem_range'_1]; omega)
  unfold pairB at this
  rw [fy_eq, fy_eq, Bool.and_eq_true, Bool.and_eq_true] at this
  exact ⟨Nat.le_of_ble_eq_true this.1.1, Nat.le_of_ble_eq_true this.1.2, Nat.le_of_ble_eq_true this.2⟩

theorem nK_lt (k : Nat) : nK k < 512 := Nat.mod_lt _ (by decide)

theorem ten_nK (a b : Nat) (ha : 1 ≤ a ∧ a ≤ 200) (hb : 1 ≤ b ∧ b ≤ 200) : tenI (w32 (a * b)) = (nK (a * b) : Int) - 200 := by
  have hab' : a * b ≤ 40000 := Nat.mul_le_mul ha.2 hb.2
  have hab : a * b ≠ 0 := Nat.mul_ne_zero (by omega) (by omega)
  rw [tenI_w32 (a * b) hab (by omega)]
  have hn := nK_lt (a * b)
  refine flrQ_at _ _ ?_ (pairB_at a b ha hb).1 (by omega)
  obtain ⟨x, i, ea⟩ := odd_part a a (Nat.le_refl _) (by omega)
  obtain ⟨y, j, eb⟩ := odd_part b b (Nat.le_refl _) (by omega)
  have hx : 2 * x + 1 ≤ 200 := by
    have := Nat.mul_le_mul_left (2 * x + 1) (Nat.two_pow_pos i)
    omega
  have hy : 2 * y + 1 ≤ 200 := by
    have := Nat.mul_le_mul_left (2 * y + 1) (Nat.two_pow_pos j)
    omega
  have e : a * b = (2 * (2 * (x * y) + (x + y)) + 1) * 2 ^ (i + j) := by
    rw [ea, eb, Nat.pow_add, show 2 * (2 * (x * y) + (x + y)) + 1 = (2 * x + 1) * (2 * y + 1) by
      rw [Nat.add_mul, Nat.mul_assoc 2 x, Nat.mul_add x (2 * y) 1, Nat.mul_left_comm x 2 y]; omega]
    ac_rfl
  have hm := oddM_at x y (by omega) (by omega)
  have hd : 2 * (2 * (x * y) + (x + y)) + 1 ≤ 40000 := by
    have := Nat.mul_le_mul_left (2 * (2 * (x * y) + (x + y)) + 1) (Nat.two_pow_pos (i + j))
    omega
  have hc := chkD_all (2 * (x * y) + (x + y)) (by omega) hm
  rw [e] at hab' ⊢
  exact chkD_at _ _ (by omega) hc hab'

theorem ten_pair (a b : Nat) (ha : 1 ≤ a ∧ a ≤ 200) (hb : 1 ≤ b ∧ b ≤ 200) : tenI (w32 (8 * a)) + tenI (w32 (8 * b)) - tenI (w32 (a * b)) ≤ 1 ∧ tenI (w32 (a * b)) - tenI (w32 (8 * a)) - tenI (w32 (8 * b)) ≤ 1 ∧ -200 ≤ tenI (w32 (a * b)) ∧ tenI (w32 (a * b)) ≤ 311 := by
  have h1 := ten_nK a b ha hb
  have h2 := ten_nK 8 a (by omega) ha
  have h3 := ten_nK 8 b (by omega) hb
  have h4 := pairB_at a b ha hb
  have h5 := nK_lt (a * b)
  omega
theorem ten_one : tenI 1065353216 = 0 := by
  have h := ten_nK 8 8 (by omega) (by omega)
  have e : w32 (8 * 8) = 1065353216 := by decide +kernel
  have e2 : nK (8 * 8) = 200 := by decide +kernel
  rw [e, e2] at h
  omega
end Go.Proofs.Ytdomcjiiilbajaa
