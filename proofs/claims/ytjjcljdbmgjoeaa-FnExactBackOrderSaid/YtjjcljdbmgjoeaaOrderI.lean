/- The contract of the program's test of an order. -/
import Derived.Test.YtjjcljdbmgjoeaaIter
import Derived.Test.YtjjcljdbmgjoeaaShelf
import Derived.Test.YtjjcljdbmgjoeaaOrderS
import Derived.Sort.OwnSortedInts
namespace Go.Proofs.Ytjjcljdbmgjoeaa
open Go.RowKit Opn Go.Shelf Go.Sort

set_option maxRecDepth 100000 in
set_option maxHeartbeats 2000000 in
theorem collect_in (n : Nat) (hn : 4 ≤ n) (Bs : Nat) (sv : Value) (zs : List Int) (hlen : zs.length ≤ maxLen) (hbytes : zs.length * 8 ≤ 140737488351232) (w : World) (hBs : Bs < w.heap.size) (hc0 : w.cell? ⟨Bs, 0, none⟩ = some sv) (hI : IntsB w.heap.size w sv zs) :
    CallsIn Fence.wide n Try.prog 25 #[.func (.func 27) #[] #[.pointer (some ⟨Bs, 0, none⟩)]] w fun e W' => ∃ v, e = .returned v ∧ W'.ownsRow w.heap.size 2 1 v zs.length (zs.map (Value.int .i64)) ∧ (v = .slice none 0 0 ↔ zs = []) ∧ Below w.heap.size w W' := by
  have h1 : 1 ≤ n := by omega
  have hfK : Fence.wide.fn 28 := trivial
  refine callsIn_of_wp Try.func25 rfl trivial ?_ rfl
  simp only [Try.ntmps25, List.size_toArray, List.length_cons, List.length_nil, Nat.reduceAdd, Nat.reduceSub, Array.replicate_succ, Array.replicate_zero, List.push_toArray, List.append_toArray, List.nil_append, List.cons_append]
  gi_wp2_with (gi_at_call 28; refine (appendSeq_in Fence.wide (n - 1) trivial trivial rfl (by omega) Bs sv zs hlen hbytes _ hBs hc0 hI).mono ?_; rintro e w' ⟨v, rfl, hrow, hnil, hb⟩)
  go_ret
  exact ⟨v, rfl, hrow, hnil, hb⟩

set_option maxRecDepth 100000 in
set_option maxHeartbeats 2000000 in
theorem sorted_any (Bs : Nat) (sv : Value) (zs : List Int) (h0 : 0 < zs.length) (h12 : zs.length ≤ 1048576) (w : World) (hBs : Bs < w.heap.size) (hc0 : w.cell? ⟨Bs, 0, none⟩ = some sv) (hI : IntsB w.heap.size w sv zs) :
    Calls Try.prog 23 #[.func (.func 27) #[] #[.pointer (some ⟨Bs, 0, none⟩)]] w fun e W' => ∃ g cap, e = .returned (.slice (some ⟨g, 0, none⟩) zs.length cap) ∧ zs.length ≤ cap ∧ cap ≤ maxLen ∧ W'.ownsRow w.heap.size 2 1 (.slice (some ⟨g, 0, none⟩) zs.length cap) zs.length ((zs.mergeSort (fun x y => decide (x ≤ y))).map (Value.int .i64)) ∧ Below w.heap.size w W' := by
  have hc : Calls Try.prog 25 #[.func (.func 27) #[] #[.pointer (some ⟨Bs, 0, none⟩)]] w fun e W' => ∃ v, e = .returned v ∧ W'.ownsRow w.heap.size 2 1 v zs.length (zs.map (Value.int .i64)) ∧ (v = .slice none 0 0 ↔ zs = []) ∧ Below w.heap.size w W' :=
    (callsIn_wide (n := 4)).1 (collect_in 4 (by omega) Bs sv zs (show zs.length ≤ 9223372036854775807 by omega) (by omega) w hBs hc0 hI)
  have HC : Hid _ := hc
  clear hc hI hc0 hBs
  go_enter Try.func23, Try.ntmps23
  go_wp2_with fail
  refine Calls.mono HC.out ?_
  rintro e w1 ⟨v, rfl, hrow, hnil, hb⟩
  rcases hrow.2 with ⟨rfl, hz⟩ | ⟨gb, cap, cur, rfl, hbase, hgb, r1, r2, r3, r4⟩
  · omega
  · have hH : Holds (Value.int .i64) w1 gb 0 zs.toArray := holds_of_blockI hgb (by simpa using r4)
    have hgl : gb < w1.heap.size := (Array.getElem?_eq_some_iff.1 hgb).1
    have hS : Hid _ := Try.slices_Sort_int gb 0 cap zs w1 hH hgl (by omega)
    have HB : Hid (Below w.heap.size w w1) := hb
    have HG : Hid _ := hgb
    have HR3 : Hid _ := r3
    clear hrow hnil hb HC hgb r3 r4 hH
    go_wp2_with (refine Calls.mono hS.out ?_; rintro e w2 ⟨rfl, nn, os, rfl⟩)
    go_ret
    exact ⟨gb, cap, rfl, r1, r2, ownsRow_sortedI (by simp) hbase HG.out r1 r2 HR3.out, HB.out.grown (grownBy_sortedI _) HB.out.size (fun j hj => by cases hj; exact hbase)⟩

/-- sorted is 0, 1, .. -/
def permB (zs : List Int) : Bool := decide (zs.mergeSort (fun x y => decide (x ≤ y)) = Ord.iota zs.length)

set_option maxRecDepth 100000 in
set_option maxHeartbeats 2000000 in
theorem perm_any (v : Value) (n : Nat) (zs : List Int) (w : World) (h : IRow .i64 w v n zs) (h0 : 0 < n) (hn : n ≤ 1048576) : Calls Try.prog 19 #[v] w fun e w' => e = .returned (.bool (permB zs)) ∧ Below w.heap.size w w' := by
  obtain ⟨h1, h2, h3, h4⟩ := h
  rcases h4 with ⟨h0', _⟩ | ⟨_, b, off, cap, hv, hc, hm, hlt, hcell⟩
  · omega
  subst hv
  have HV : Hid (∀ w, Calls Try.prog 24 #[.slice (some ⟨b, off, none⟩) n cap] w fun e w' => e = .returned (.func (.func 27) #[] #[.pointer (some ⟨w.heap.size, 0, none⟩)]) ∧ w' = w.alloc (.cells #[.slice (some ⟨b, off, none⟩) n cap] 22)) := fun w => (callsIn_wide (n := 4)).1 (values_in Fence.wide 4 trivial rfl (some ⟨b, off, none⟩) n cap w)
  have hb1 : Below w.heap.size w (w.alloc (.cells #[.slice (some ⟨b, off, none⟩) n cap] 22)) := (Below.refl _ _).alloc (Nat.le_refl _) _
  have hs := sorted_any w.heap.size (.slice (some ⟨b, off, none⟩) n cap) zs (by omega) (by omega) (w.alloc (.cells #[.slice (some ⟨b, off, none⟩) n cap] 22)) (by simp) (by simp [go_sem]) (.inr ⟨b, off, cap, by rw [h1], by simp; omega, fun j hj => by
    rw [hb1.cell (p := ⟨b, off + j, none⟩) hlt, hcell j (by omega)]; simp [List.getD]⟩)
  have HB1 : Hid (Below w.heap.size w (w.alloc (.cells #[.slice (some ⟨b, off, none⟩) n cap] 22))) := hb1
  have hl : (zs.mergeSort (fun x y => decide (x ≤ y))).length = n := by rw [List.length_mergeSort]; exact h1
  have hpb : permB zs = decide (zs.mergeSort (fun x y => decide (x ≤ y)) = Ord.iota n) := by unfold permB; rw [h1]
  rw [hpb]
  rw [h1] at hs
  clear hb1 hcell h1 h3 hpb
  generalize zs.mergeSort (fun x y => decide (x ≤ y)) = ss at *
  have HLS : Hid (ss.length = n) := hl
  have HS : Hid _ := hs
  clear hs hl
  go_enter Try.func19, Try.ntmps19
  go_wp2_with (go_at_call 24; refine (HV.out _).mono ?_; rintro e w' ⟨rfl, rfl⟩)
  refine Calls.mono HS.out ?_
  rintro e w1 ⟨g, c, rfl, hgc, hcm, hrow, hb⟩
  have HB : Hid (Below w.heap.size w w1) := HB1.out.trans (hb.mono HB1.out.size)
  have HC : Hid (∀ i, i < n → w1.cell? ⟨g, i, none⟩ = some (.int .i64 (ss.getD i 0))) := fun i hi => by
    have := hrow.cellAt i (by omega)
    rw [this]
    simp [List.getD, HLS.out, hi]
  clear hb hrow HS HB1 HV
  have hcm' : c ≤ 9223372036854775807 := hcm
  clear hcm h2
  go_wp2_with fail
  have HI0 : Hid (∀ j, j < 0 → ss.getD j 0 = (j : Int)) := fun j hj => by omega
  go_loop [9] (fun is => ∃ i : Nat, i ≤ n ∧ is = .int .i64 (i : Int) ∧ Hid (∀ j, j < i → ss.getD j 0 = (j : Int))) (fun is => n - (intOf is).toNat)
  case atStart => exact ⟨0, Nat.zero_le _, rfl, HI0⟩
  case round =>
    clear HI0
    obtain ⟨i, hi, rfl, HI⟩ := hrel
    by_cases hin : i < n
    · have c1 := HC.out i hin
      by_cases hx : ss.getD i 0 = (i : Int)
      · have HI1 : Hid (∀ j, j < i + 1 → ss.getD j 0 = (j : Int)) := fun j hj => by
          by_cases e : j = i
          · rw [e]; exact hx
          · exact HI.out j (by omega)
        rw [hx] at c1
        clear hx HI
        go_wp2_with fail
        go_round
        case rel => exact ⟨i + 1, by omega, by go_num, HI1⟩
        case measure => simp [intOf]; omega
      · have HE : Hid (decide (ss = Ord.iota n) = false) := decide_eq_false (fun e => hx (by rw [e]; exact Ord.iota_get n i hin))
        have hx2 : (ss.getD i 0 != (i : Int)) = true := by simpa using hx
        clear hx HI
        generalize ss.getD i 0 = x at *
        go_wp2_with fail
        go_ret
        exact ⟨ret_bool HE.out.symm, HB.out⟩
    · have HE : Hid (decide (ss = Ord.iota n) = true) := decide_eq_true (by
        apply List.ext_getElem
        · rw [HLS.out, Ord.iota_len]
        · intro j h1 h2
          have hjn : j < n := by rw [← HLS.out]; exact h1
          have e1 := HI.out j (by omega)
          have e2 := Ord.iota_get n j hjn
          simp only [List.getD, List.getElem?_eq_getElem h1, Option.getD_some] at e1
          simp only [List.getD, List.getElem?_eq_getElem h2, Option.getD_some] at e2
          rw [e1, e2])
      clear HI
      go_wp2_with fail
      go_ret
      exact ⟨ret_bool HE.out.symm, HB.out⟩

end Go.Proofs.Ytjjcljdbmgjoeaa
