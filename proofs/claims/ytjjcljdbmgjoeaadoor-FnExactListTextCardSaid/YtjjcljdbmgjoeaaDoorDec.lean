/- The reference's decimal numeral: l01Dec returns the bytes of Lib.itoa. -/
import Derived.Test.YtjjcljdbmgjoeaaDoorProg
import Derived.WalkKit
import Derived.WalkSpells
import Derived.WalkLawsBesides
import Derived.IntWalk
import Derived.Handy
import Derived.Laws.IdiomStrings
import Derived.Test.YtjjcljdbmgjoeaaDoorDecApp
import Derived.Test.YtjjcljdbmgjoeaaDoorDecPlain
import Derived.Laws.OwnMore
import Derived.OwnWalk
namespace Go.Proofs.YtjjcljdbmgjoeaaDoor
open Go.RowKit

theorem info_u8 : (Tryd.prog.info? 5).map (fun i => (i.zero, i.size, i.bytes)) = some (some (.int .u8 0), 1, 1) := by kernel_rfl

set_option maxHeartbeats 1000000 in
set_option maxRecDepth 20000 in
theorem dec_any (n : Int) (w : World) (h0 : -9223372036854775808 ≤ n) (h1 : n ≤ 9223372036854775807) : Calls Tryd.prog 19 #[.int .i64 n] w fun e w' => e = .returned (.string ⟨(Lib.itoa n).toArray⟩) ∧ Below w.heap.size w w' := by
  obtain ⟨i0, hi0, hz0, hz1, hz2⟩ := info_parts info_u8
  go_enter Tryd.func19, Tryd.ntmps19
  go_wp2
  go_loopw [3, 4, 5] (fun out rest _d wr => ∃ (g cp m : Nat) (xs : List UInt8) (r : Int), out = .slice (some ⟨g, 0, none⟩) m cp ∧ rest = .int .i64 r ∧ m = xs.length ∧ Hid (Dig n xs r) ∧ Hid (World.ownsRow wr w.heap.size 5 1 (.slice (some ⟨g, 0, none⟩) m cp) m (Lib.byteCells xs)) ∧ g < wr.heap.size ∧ Hid (r.natAbs < 10 ^ (19 - m) ∧ m ≤ 19) ∧ -9223372036854775808 ≤ r ∧ r ≤ 9223372036854775807 ∧ Hid (Below w.heap.size w wr)) (fun out _ _ _ => 20 - (match out with | .slice _ m _ => m | _ => 0))
  case atStart =>
    refine ⟨w.heap.size, 0, 0, [], n, rfl, rfl, rfl, .inl ⟨rfl, rfl⟩, ?_, by simp, ?_, h0, h1, by show Below w.heap.size w _; go_grown⟩
    · refine ⟨rfl, .inr ⟨w.heap.size, 0, #[], rfl, Nat.le_refl _, ?_, Nat.le_refl _, Nat.zero_le _, rfl, rfl⟩⟩
      exact heap_alloc_new w (Obj.cells #[] 5)
    · show n.natAbs < 10 ^ (19 - 0) ∧ 0 ≤ 19
      omega
  case round =>
    obtain ⟨g, cp, m, xs, r, rfl, rfl, hm, HD, HO, hg, HB, r0, r1, HK⟩ := hrel
    have hmod := natAbs_tmod10 r
    have hmod10 : r.natAbs % 10 < 10 := Nat.mod_lt _ (by decide)
    have hdiv := natAbs_tdiv r
    have hq0 : -9223372036854775808 ≤ r.tdiv 10 := by omega
    have hq1 : r.tdiv 10 ≤ 9223372036854775807 := by omega
    have hz0' : -10 < r.tmod 10 := by omega
    have hz1' : r.tmod 10 < 10 := by omega
    have hbase : w.heap.size ≤ wr.heap.size := HK.out.size
    have hm19 := HB.out.2
    have hcells : ∀ x : Value, ∀ (j : Nat) u, (Lib.byteCells xs)[j]? = some u → (wr.alloc (.cells #[x] 5)).cell? ((⟨g, 0, none⟩ : Addr).add j) = some u := fun x => (HO.out.alloc _).cells (g := g) rfl
    by_cases hc : m = 0 ∨ r ≠ 0
    · have c1 : ((m : Int) == 0 || r != 0) = true := by
        rcases hc with h | h
        · simp [h]
        · simp [h]
      have HR : Hid ((r.tdiv 10).natAbs < 10 ^ (19 - (1 + m)) ∧ 1 + m ≤ 19) := digit_room HB.out hc
      have HS : Hid (Dig n (UInt8.ofNat (48 + r.natAbs % 10) :: xs) (r.tdiv 10)) := HD.out.step (by
        rcases hc with h | h
        · left; exact List.eq_nil_of_length_eq_zero (by omega)
        · exact .inr h)
      have hl1 : (Lib.byteCells xs).length = m * 1 := by simp [Lib.byteCells, hm]
      have HM : Hid (1 + m = (UInt8.ofNat (48 + r.natAbs % 10) :: xs).length) := by show _ = _; simp [hm]; omega
      have F1 : Hid (0 ≤ r.tmod 10 → (48 : Int) + r.tmod 10 = ((UInt8.ofNat (48 + r.natAbs % 10)).toNat : Int)) := digit_byte r
      have F2 : Hid (r.tmod 10 < 0 → (48 : Int) + -r.tmod 10 = ((UInt8.ofNat (48 + r.natAbs % 10)).toNat : Int)) := digit_byte_neg r
      have FX : Hid (∃ D : UInt8, D = UInt8.ofNat (48 + r.natAbs % 10)) := ⟨_, rfl⟩
      obtain ⟨D, hD⟩ := FX.out
      rw [← hD] at HM F1 F2 HS
      clear hm hmod hdiv FX hD
      rcases Nat.eq_zero_or_pos m with hm0 | hm0
      · subst hm0
        clear c1 hc
        by_cases hs : r.tmod 10 < 0
        · have F : Hid _ := F2.out hs
          clear F1 F2
          go_wp2_with (at_builtin; refine Hid.out ?_)
          refine Lib.hid ?_
          refine wpList_append_some rfl _ _ 47 rfl w.heap.size 5 i0 (.int .u8 0) 1 1 Tryd.underlying47 hi0 hz0 hz1 hz2 rfl (by decide) (.slice (some ⟨wr.heap.size, 0, none⟩) 1 1) 1 _ rfl (World.ownsRow_lit wr #[.int .u8 _] 1 hbase (by decide) rfl) ⟨g, 0, none⟩ _ _ (Lib.byteCells xs) rfl hl1 (hcells _) (one_bytes _) (by decide) (by show _ ≤ 9223372036854775807; omega) (by omega) (by simp; omega) ?_
          intro gg cap wn hown1 hgrow hat hlg
          have R1 : Hid (wn.ownsRow w.heap.size 5 1 (.slice (some ⟨gg, 0, none⟩) (1 + 0) cap) (1 + 0) (Lib.byteCells (D :: xs))) := by
            rw [F.out] at hown1
            exact hown1
          have R2 : Hid (Below w.heap.size w wn) := (HK.out.alloc hbase _).grown hgrow (by simp; omega) (by simp [Value.ownBlock]; omega)
          clear hown1 hgrow hat hcells
          go_wp2_with fail
          go_roundw
          case rel => exact ⟨gg, cap, _, D :: xs, r.tdiv 10, rfl, rfl, HM.out, HS, R1, hlg, HR, hq0, hq1, R2⟩
          case measure => first | (simp; omega) | simp
        · have F : Hid _ := F1.out (by omega)
          clear F1 F2
          go_wp2_with (at_builtin; refine Hid.out ?_)
          refine Lib.hid ?_
          refine wpList_append_some rfl _ _ 47 rfl w.heap.size 5 i0 (.int .u8 0) 1 1 Tryd.underlying47 hi0 hz0 hz1 hz2 rfl (by decide) (.slice (some ⟨wr.heap.size, 0, none⟩) 1 1) 1 _ rfl (World.ownsRow_lit wr #[.int .u8 _] 1 hbase (by decide) rfl) ⟨g, 0, none⟩ _ _ (Lib.byteCells xs) rfl hl1 (hcells _) (one_bytes _) (by decide) (by show _ ≤ 9223372036854775807; omega) (by omega) (by simp; omega) ?_
          intro gg cap wn hown1 hgrow hat hlg
          have R1 : Hid (wn.ownsRow w.heap.size 5 1 (.slice (some ⟨gg, 0, none⟩) (1 + 0) cap) (1 + 0) (Lib.byteCells (D :: xs))) := by
            rw [F.out] at hown1
            exact hown1
          have R2 : Hid (Below w.heap.size w wn) := (HK.out.alloc hbase _).grown hgrow (by simp; omega) (by simp [Value.ownBlock]; omega)
          clear hown1 hgrow hat hcells
          go_wp2_with fail
          go_roundw
          case rel => exact ⟨gg, cap, _, D :: xs, r.tdiv 10, rfl, rfl, HM.out, HS, R1, hlg, HR, hq0, hq1, R2⟩
          case measure => first | (simp; omega) | simp
      · have hr0 : r ≠ 0 := by omega
        have hr1 : (r != 0) = true := by simpa using hr0
        have hm1 : ((m : Int) == 0) = false := by simp; omega
        clear hc c1
        by_cases hs : r.tmod 10 < 0
        · have F : Hid _ := F2.out hs
          clear F1 F2
          go_wp2_with (at_builtin; refine Hid.out ?_)
          refine Lib.hid ?_
          refine wpList_append_some rfl _ _ 47 rfl w.heap.size 5 i0 (.int .u8 0) 1 1 Tryd.underlying47 hi0 hz0 hz1 hz2 rfl (by decide) (.slice (some ⟨wr.heap.size, 0, none⟩) 1 1) 1 _ rfl (World.ownsRow_lit wr #[.int .u8 _] 1 hbase (by decide) rfl) ⟨g, 0, none⟩ _ _ (Lib.byteCells xs) rfl hl1 (hcells _) (one_bytes _) (by decide) (by show _ ≤ 9223372036854775807; omega) (by omega) (by simp; omega) ?_
          intro gg cap wn hown1 hgrow hat hlg
          have R1 : Hid (wn.ownsRow w.heap.size 5 1 (.slice (some ⟨gg, 0, none⟩) (1 + m) cap) (1 + m) (Lib.byteCells (D :: xs))) := by
            rw [F.out] at hown1
            exact hown1
          have R2 : Hid (Below w.heap.size w wn) := (HK.out.alloc hbase _).grown hgrow (by simp; omega) (by simp [Value.ownBlock]; omega)
          clear hown1 hgrow hat hcells
          go_wp2_with fail
          go_roundw
          case rel => exact ⟨gg, cap, _, D :: xs, r.tdiv 10, rfl, rfl, HM.out, HS, R1, hlg, HR, hq0, hq1, R2⟩
          case measure => first | (simp; omega) | simp
        · have F : Hid _ := F1.out (by omega)
          clear F1 F2
          go_wp2_with (at_builtin; refine Hid.out ?_)
          refine Lib.hid ?_
          refine wpList_append_some rfl _ _ 47 rfl w.heap.size 5 i0 (.int .u8 0) 1 1 Tryd.underlying47 hi0 hz0 hz1 hz2 rfl (by decide) (.slice (some ⟨wr.heap.size, 0, none⟩) 1 1) 1 _ rfl (World.ownsRow_lit wr #[.int .u8 _] 1 hbase (by decide) rfl) ⟨g, 0, none⟩ _ _ (Lib.byteCells xs) rfl hl1 (hcells _) (one_bytes _) (by decide) (by show _ ≤ 9223372036854775807; omega) (by omega) (by simp; omega) ?_
          intro gg cap wn hown1 hgrow hat hlg
          have R1 : Hid (wn.ownsRow w.heap.size 5 1 (.slice (some ⟨gg, 0, none⟩) (1 + m) cap) (1 + m) (Lib.byteCells (D :: xs))) := by
            rw [F.out] at hown1
            exact hown1
          have R2 : Hid (Below w.heap.size w wn) := (HK.out.alloc hbase _).grown hgrow (by simp; omega) (by simp [Value.ownBlock]; omega)
          clear hown1 hgrow hat hcells
          go_wp2_with fail
          go_roundw
          case rel => exact ⟨gg, cap, _, D :: xs, r.tdiv 10, rfl, rfl, HM.out, HS, R1, hlg, HR, hq0, hq1, R2⟩
          case measure => first | (simp; omega) | simp
    · have hr0 : r = 0 := by omega
      have hm0 : m ≠ 0 := by omega
      subst hr0
      have hxs : xs = Lib.decDigits n.natAbs := HD.out.done (by intro h; rw [h] at hm; exact hm0 hm)
      have hit := itoa_parts n
      rw [← hxs] at hit
      have hm1 : ((m : Int) == 0) = false := by simp; omega
      have hr1 : ((0 : Int) != 0) = false := rfl
      have hl1 : (Lib.byteCells xs).length = m * 1 := by simp [Lib.byteCells, hm]
      have HM : Hid (m = xs.length) := hm
      clear hmod hdiv hq0 hq1 hc r0 r1 hxs hm hz0' hz1' hmod10
      by_cases hn : n < 0
      · have HI : Hid (Lib.itoa n = 45 :: xs) := by show _ = _; rw [hit, if_pos hn]; rfl
        clear hit
        go_wp2_with (at_builtin; refine Hid.out ?_)
        refine Lib.hid ?_
        refine wpList_append_some rfl _ _ 47 rfl w.heap.size 5 i0 (.int .u8 0) 1 1 Tryd.underlying47 hi0 hz0 hz1 hz2 rfl (by decide) (.slice (some ⟨wr.heap.size, 0, none⟩) 1 1) 1 _ rfl (World.ownsRow_lit wr #[.int .u8 45] 1 hbase (by decide) rfl) ⟨g, 0, none⟩ _ _ (Lib.byteCells xs) rfl hl1 (hcells _) (one_bytes _) (by decide) (by show _ ≤ 9223372036854775807; omega) (by omega) (by simp; omega) ?_
        intro gg cap wn hown1 hgrow hat hlg
        have R1 : wn.ownsRow w.heap.size 5 1 (.slice (some ⟨gg, 0, none⟩) (1 + m) cap) (1 + m) (Lib.byteCells (45 :: xs)) := hown1
        have R2 : Hid (Below w.heap.size w wn) := (HK.out.alloc hbase _).grown hgrow (by simp; omega) (by simp [Value.ownBlock]; omega)
        have hcv : (convert 47 9 (.slice (some ⟨gg, 0, none⟩) (1 + m) cap)).run Tryd.prog wn = .ok (.string ⟨(Lib.itoa n).toArray⟩) wn := by
          have e : 1 + m = (45 :: xs).length := by rw [HM.out]; simp; omega
          rw [HI.out, e]
          exact run_convert_bytes_back (P := Tryd.prog) wn 47 9 5 ⟨gg, 0, none⟩ cap (45 :: xs) Tryd.underlying47 Tryd.underlying5 Tryd.underlying9 (fun j hj => R1.cells (g := gg) rfl j _ (byteCells_at _ j hj))
        clear hown1 hgrow hat hcells R1
        go_wp2_with fail
        go_ret
        exact ⟨rfl, R2.out⟩
      · have HI : Hid (Lib.itoa n = xs) := by show _ = _; rw [hit, if_neg hn]; rfl
        clear hit
        have hcv : (convert 47 9 (.slice (some ⟨g, 0, none⟩) m cp)).run Tryd.prog wr = .ok (.string ⟨(Lib.itoa n).toArray⟩) wr := by
          rw [HI.out, HM.out]
          exact run_convert_bytes_back (P := Tryd.prog) wr 47 9 5 ⟨g, 0, none⟩ cp xs Tryd.underlying47 Tryd.underlying5 Tryd.underlying9 (fun j hj => HO.out.cells (g := g) rfl j _ (byteCells_at _ j hj))
        clear hcells
        go_wp2_with fail
        go_ret
        exact ⟨rfl, HK.out⟩

end Go.Proofs.YtjjcljdbmgjoeaaDoor
