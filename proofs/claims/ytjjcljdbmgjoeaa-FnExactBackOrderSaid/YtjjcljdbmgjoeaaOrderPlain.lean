/- Plain facts: a list of n integers holds each of 0 .. n - 1 once just if none is outside and none comes twice, and just if it is 0, 1, .. when sorted. -/
namespace Go.Proofs.Ytjjcljdbmgjoeaa.Ord

def iota (n : Nat) : List Int := (List.range n).map fun (i : Nat) => (i : Int)
theorem iota_len (n : Nat) : (iota n).length = n := by simp [iota]
theorem iota_succ (n : Nat) : iota (n + 1) = iota n ++ [(n : Int)] := by simp [iota, List.range_succ]
theorem iota_get (n i : Nat) (h : i < n) : (iota n).getD i 0 = (i : Int) := by simp [iota, List.getD, h]

/-- the first k are from 0 to n - 1, none of them twice -/
def good (zs : List Int) (k : Nat) : Prop := ∀ i, i < k → (0 ≤ zs.getD i 0 ∧ zs.getD i 0 < (zs.length : Int)) ∧ ∀ j, j < i → zs.getD j 0 ≠ zs.getD i 0

theorem le_of_nodup : ∀ (n : Nat) (l : List Int), l.Nodup → (∀ x ∈ l, 0 ≤ x ∧ x < (n : Int)) → l.length ≤ n
  | 0, l, _, h => by
    cases l with
    | nil => simp
    | cons x xs => have := h x (by simp); omega
  | n + 1, l, hd, h => by
    by_cases hm : (n : Int) ∈ l
    · have h1 : (l.erase (n : Int)).length = l.length - 1 := by rw [List.length_erase, if_pos hm]
      have h2 := le_of_nodup n (l.erase (n : Int)) (hd.erase _) (fun x hx => by
        have hx' := hd.mem_erase_iff.1 hx
        have := h x hx'.2
        have := hx'.1
        omega)
      omega
    · have := le_of_nodup n l hd (fun x hx => by
        have h1 := h x hx
        have h2 : x ≠ (n : Int) := fun e => hm (e ▸ hx)
        omega)
      omega

theorem perm_of_nodup : ∀ (n : Nat) (l : List Int), l.Nodup → (∀ x ∈ l, 0 ≤ x ∧ x < (n : Int)) → l.length = n → l.Perm (iota n)
  | 0, l, _, _, hl => by
    obtain rfl := List.eq_nil_of_length_eq_zero hl
    exact List.Perm.refl _
  | n + 1, l, hd, h, hl => by
    have hm : (n : Int) ∈ l := by
      apply Classical.byContradiction
      intro hm
      have := le_of_nodup n l hd (fun x hx => by
        have h1 := h x hx
        have h2 : x ≠ (n : Int) := fun e => hm (e ▸ hx)
        omega)
      omega
    have h1 : (l.erase (n : Int)).length = n := by rw [List.length_erase, if_pos hm]; omega
    have h2 := perm_of_nodup n (l.erase (n : Int)) (hd.erase _) (fun x hx => by
      have hx' := hd.mem_erase_iff.1 hx
      have := h x hx'.2
      have := hx'.1
      omega) h1
    rw [iota_succ]
    exact (List.perm_cons_erase hm).trans ((List.Perm.cons _ h2).trans (List.perm_append_singleton _ _).symm)

theorem nodup_of_good {zs : List Int} (h : good zs zs.length) : zs.Nodup := by
  rw [List.Nodup, List.pairwise_iff_getElem]
  intro i j hi hj hij
  have := (h j hj).2 i hij
  simpa [List.getD, hi, hj] using this

theorem iota_sorted (n : Nat) : (iota n).Pairwise (fun a b => decide (a ≤ b) = true) := by
  rw [List.pairwise_iff_getElem]
  intro i j hi hj hij
  simp [iota] at *
  omega

theorem iota_nodup (n : Nat) : (iota n).Nodup := by
  rw [List.Nodup, List.pairwise_iff_getElem]
  intro i j hi hj hij
  simp [iota] at *
  omega

theorem iota_mem {n : Nat} {x : Int} (h : x ∈ iota n) : 0 ≤ x ∧ x < (n : Int) := by
  simp [iota] at h
  obtain ⟨a, ha, rfl⟩ := h
  omega

theorem good_iff (zs : List Int) : good zs zs.length ↔ zs.mergeSort (fun x y => decide (x ≤ y)) = iota zs.length := by
  constructor
  · intro h
    have hp : zs.Perm (iota zs.length) := perm_of_nodup _ zs (nodup_of_good h) (fun x hx => by
      obtain ⟨i, hi, rfl⟩ := List.getElem_of_mem hx
      have := (h i hi).1
      simpa [List.getD, hi] using this) rfl
    have h1 : (zs.mergeSort (fun x y => decide (x ≤ y))).Pairwise (fun a b => decide (a ≤ b) = true) :=
      List.pairwise_mergeSort (fun a b c hab hbc => by simp at *; omega) (fun a b => by simp; omega) zs
    have h2 := (List.mergeSort_perm zs (fun x y => decide (x ≤ y))).trans hp
    exact h2.eq_of_pairwise (fun a b _ _ hab hba => by simp at hab hba; omega) h1 (iota_sorted _)
  · intro h i hi
    have hp : zs.Perm (iota zs.length) := by
      have := (List.mergeSort_perm zs (fun x y => decide (x ≤ y))).symm
      rwa [h] at this
    have hn : zs.Nodup := hp.nodup_iff.2 (iota_nodup _)
    refine ⟨?_, fun j hj => ?_⟩
    · have hm : zs.getD i 0 ∈ zs := by simp [List.getD, hi]
      exact iota_mem (hp.mem_iff.1 hm)
    · rw [List.Nodup, List.pairwise_iff_getElem] at hn
      have := hn j i (by omega) hi hj
      simpa [List.getD, hi, show j < zs.length by omega] using this

end Go.Proofs.Ytjjcljdbmgjoeaa.Ord
