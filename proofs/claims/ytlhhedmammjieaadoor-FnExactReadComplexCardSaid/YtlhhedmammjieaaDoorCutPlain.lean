/- A text cut at its commas: from left to right, against strings.Split's plain law. -/
import Derived.Lib.Split
import Derived.Lib.IndexLaws
import Derived.Lib.IndexBytes
import Derived.WideShapes
namespace Go.Proofs.YtlhhedmammjieaaDoor
open Go.Lib

def comma : ByteArray := ⟨#[44]⟩
/-- the parts of s between commas -/
def sp (s : ByteArray) : List ByteArray := splitB comma 0 (countB s comma) s

theorem commaIdx (s : ByteArray) : indexB s comma = indexByte s.data.toList 44 := index_one s.data.toList 44

theorem sp_miss {s : ByteArray} (h : indexB s comma = -1) : sp s = [s] := splitB_miss _ _ _ _ h

theorem sp_hit {s : ByteArray} {i : Nat} (h : indexB s comma = i) : sp s = s.extract 0 i :: sp (s.extract (i + 1) s.size) := by
  have h1 : countB s comma = countB (s.extract (i + 1) s.size) comma + 1 := by
    rw [countB_hit s comma i (by decide) h, Nat.add_comm]; rfl
  unfold sp
  rw [h1, splitB_hit _ _ _ _ i h]
  rfl

theorem idx_first {t : List UInt8} {i : Nat} (h : t[i]? = some 44) (h0 : ∀ k : Nat, k < i → t[k]? ≠ some 44) : indexByte t 44 = i := by
  have hge := indexByte_ge t 44
  by_cases hm : indexByte t 44 = -1
  · exact absurd h (indexByte_none hm i)
  · obtain ⟨o, ho⟩ : ∃ o : Nat, indexByte t 44 = o := ⟨(indexByte t 44).toNat, by omega⟩
    obtain ⟨h1, h2⟩ := indexByte_some ho
    have : o = i := by
      rcases Nat.lt_trichotomy o i with hl | hl | hl
      · exact absurd h1 (h0 o hl)
      · exact hl
      · exact absurd h (h2 i hl)
    rw [ho, this]

theorem idx_none {t : List UInt8} (h0 : ∀ k : Nat, t[k]? ≠ some 44) : indexByte t 44 = -1 := by
  have hge := indexByte_ge t 44
  by_cases hm : indexByte t 44 = -1
  · exact hm
  · obtain ⟨o, ho⟩ : ∃ o : Nat, indexByte t 44 = o := ⟨(indexByte t 44).toNat, by omega⟩
    exact absurd (indexByte_some ho).1 (h0 o)

theorem len_eq (s : ByteArray) : s.data.toList.length = s.size := Array.length_toList
theorem extract_toList (s : ByteArray) (a b : Nat) : (s.extract a b).data.toList = (s.data.toList.take b).drop a := by
  rw [extract_data, List.drop_take]

theorem ext_list (s : ByteArray) (a b : Nat) : (s.extract a b).data.toList = (s.data.toList.take b).drop a := by
  exact extract_toList s a b

theorem ext_ext (s : ByteArray) (a b c : Nat) (_ : b ≤ s.size) (_ : a + c ≤ b) (d : Nat) : (s.extract a b).extract c d = s.extract (a + c) (min (a + d) b) := by
  apply Go.WideShapes.bytes_inj
  rw [ext_list, ext_list, ext_list]
  rw [List.take_drop, List.drop_drop, List.take_take]

/-- the state of the walk: from the place f on all is to come, and no comma before i -/
def Cut (s : ByteArray) (f i : Nat) (out : List ByteArray) : Prop :=
  f ≤ i ∧ i ≤ s.size ∧ out ++ sp (s.extract f s.size) = sp s ∧ ∀ k, f ≤ k → k < i → s.data.toList[k]? ≠ some 44

theorem Cut.start (s : ByteArray) : Cut s 0 0 [] := by
  refine ⟨Nat.le_refl _, Nat.zero_le _, ?_, fun k h h' => by omega⟩
  rw [List.nil_append]
  congr 1
  apply Go.WideShapes.bytes_inj
  rw [ext_list, List.drop_zero, List.take_of_length_le (Nat.le_of_eq (len_eq s))]

theorem Cut.next {s : ByteArray} {f i : Nat} {out : List ByteArray} (h : Cut s f i out) (hi : i < s.size) (hc : s.data.toList[i]? ≠ some 44) : Cut s f (i + 1) out := by
  obtain ⟨h1, h2, h3, h4⟩ := h
  refine ⟨by omega, by omega, h3, fun k hk hk' => ?_⟩
  by_cases e : k = i
  · rw [e]; exact hc
  · exact h4 k hk (by omega)

theorem at_extract (s : ByteArray) (f k : Nat) : (s.extract f s.size).data.toList[k]? = s.data.toList[f + k]? := by
  rw [ext_list, List.take_of_length_le (Nat.le_of_eq (len_eq s)), List.getElem?_drop]

theorem Cut.hit {s : ByteArray} {f i : Nat} {out : List ByteArray} (h : Cut s f i out) (hi : i < s.size) (hc : s.data.toList[i]? = some 44) : Cut s (i + 1) (i + 1) (out ++ [s.extract f i]) := by
  obtain ⟨h1, h2, h3, h4⟩ := h
  refine ⟨by omega, by omega, ?_, fun k hk hk' => by omega⟩
  have hx : indexB (s.extract f s.size) comma = ((i - f : Nat) : Int) := by
    rw [commaIdx]
    refine idx_first ?_ fun k hk => ?_
    · rw [at_extract, show f + (i - f) = i by omega]; exact hc
    · rw [at_extract]; exact h4 _ (by omega) (by omega)
  rw [← h3, sp_hit hx, List.append_assoc, List.singleton_append]
  congr 2
  · rw [ext_ext s f s.size 0 (Nat.le_refl _) (by omega), Nat.add_zero]
    congr 1; omega
  · congr 1
    rw [ext_ext s f s.size (i - f + 1) (Nat.le_refl _) (by omega)]
    have e1 : (s.extract f s.size).size = s.size - f := by
      rw [ByteArray.size_extract]; omega
    rw [e1]
    congr 1 <;> omega

theorem Cut.done {s : ByteArray} {f i : Nat} {out : List ByteArray} (h : Cut s f i out) (hi : i = s.size) : out ++ [s.extract f i] = sp s := by
  obtain ⟨h1, h2, h3, h4⟩ := h
  subst hi
  have hx : indexB (s.extract f s.size) comma = -1 := by
    rw [commaIdx]
    refine idx_none fun k => ?_
    rw [at_extract]
    by_cases hk : f + k < s.size
    · exact h4 _ (by omega) hk
    · rw [List.getElem?_eq_none (by rw [Array.length_toList]; show s.size ≤ _; omega)]
      simp
  rw [← h3, sp_miss hx]

end Go.Proofs.YtlhhedmammjieaaDoor
