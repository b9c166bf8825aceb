/- The reference's parts of a text between marks: they are strings.Split's. -/
import Derived.Test.YtlhhedmammjieaaDoorProg
import Derived.WalkKit
import Derived.WalkSpells
import Derived.WalkLawsBesides
import Derived.IntWalk
import Derived.Handy
import Derived.OwnWalk
import Derived.Lib.Hide
import Derived.Test.YtlhhedmammjieaaDoorApp2
import Derived.Test.YtlhhedmammjieaaDoorCutPlain
namespace Go.Proofs.YtlhhedmammjieaaDoor
open Go.RowKit

theorem info_str : (Tryd.prog.info? 9).map (fun i => (i.zero, i.size, i.bytes)) = some (some (.string ⟨#[]⟩), 1, 16) := by kernel_rfl

theorem byte_at (s : ByteArray) (k : Nat) (h : k < s.size) : s.data.toList[k]? = some s[k] := by
  rw [List.getElem?_eq_getElem (by rw [len_eq]; exact h)]; rfl

set_option maxRecDepth 20000 in
set_option maxHeartbeats 2000000 in
theorem cut_any (s : ByteArray) (w : World) (hs : s.size ≤ 1048576) : Calls Tryd.prog 32 #[.string s, .int .u8 44] w fun e w' => ∃ g cp, e = .returned (.slice (some ⟨g, 0, none⟩) (sp s).length cp) ∧ World.ownsRow w' w.heap.size 9 1 (.slice (some ⟨g, 0, none⟩) (sp s).length cp) (sp s).length ((sp s).map Value.string) ∧ g < w'.heap.size ∧ Below w.heap.size w w' := by
  obtain ⟨i0, hi0, hz0, hz1, hz2⟩ := info_parts info_str
  go_enter Tryd.func32, Tryd.ntmps32
  go_wp2
  go_loopw [5, 6, 7] (fun out fr is wr => ∃ (g cp m f i : Nat) (xs : List ByteArray), out = .slice (some ⟨g, 0, none⟩) m cp ∧ fr = .int .i64 f ∧ is = .int .i64 i ∧ i ≤ s.size + 1 ∧ f ≤ i ∧ m ≤ i ∧ Hid (m = xs.length) ∧ Hid (World.ownsRow wr w.heap.size 9 1 (.slice (some ⟨g, 0, none⟩) m cp) m (xs.map Value.string)) ∧ g < wr.heap.size ∧ Hid (i ≤ s.size → Cut s f i xs) ∧ Hid (i = s.size + 1 → xs = sp s) ∧ Hid (Below w.heap.size w wr)) (fun _ _ is _ => s.size + 1 - (intOf is).toNat)
  case atStart =>
    refine ⟨w.heap.size, 0, 0, 0, 0, [], rfl, rfl, rfl, by omega, by omega, by omega, rfl, ?_, by simp, fun _ => Cut.start s, fun h => by omega, by show Below w.heap.size w _; go_grown⟩
    refine ⟨rfl, .inr ⟨w.heap.size, 0, #[], rfl, Nat.le_refl _, ?_, Nat.le_refl _, Nat.zero_le _, rfl, rfl⟩⟩
    exact heap_alloc_new w (Obj.cells #[] 9)
  case round =>
    obtain ⟨g, cp, m, f, i, xs, rfl, rfl, rfl, hi, hf, hm, HM, HO, hg, HC, HD, HK⟩ := hrel
    have hbase : w.heap.size ≤ wr.heap.size := HK.out.size
    have hgb : w.heap.size ≤ g := (HO.out.lt g rfl).1
    by_cases hle : i ≤ s.size
    · by_cases he : i = s.size
      · have HE : Hid (xs ++ [s.extract f i] = sp s) := (HC.out hle).done he
        subst he
        clear HC HD
        go_wp2_with (at_builtin; refine Hid.out ?_)
        refine Lib.hid ?_
        refine wpList_append_one rfl _ _ 42 rfl w.heap.size 9 i0 (.string ⟨#[]⟩) 16 Tryd.underlying42 hi0 hz0 hz1 hz2 rfl (.slice (some ⟨g, 0, none⟩) m cp) m (xs.map Value.string) rfl (HO.out.alloc _) ⟨wr.heap.size, 0, none⟩ 1 (.string (s.extract f s.size)) rfl (new_cell wr _ _) rfl (by show _ ≤ 9223372036854775807; omega) (by omega) (by simp; omega) ?_
        intro gg cap wn hown1 hgrow hat hlg
        have R1 : Hid (World.ownsRow wn w.heap.size 9 1 (.slice (some ⟨gg, 0, none⟩) (m + 1) cap) (m + 1) ((xs ++ [s.extract f s.size]).map Value.string)) := by
          rw [List.map_append]
          exact hown1
        have R2 : Hid (Below w.heap.size w wn) := (HK.out.alloc hbase _).grown hgrow (by simp; omega) (by simp [Value.ownBlock]; omega)
        have HM2 : Hid (m + 1 = (xs ++ [s.extract f s.size]).length) := by show _ = _; rw [HM.out]; simp
        clear hown1 hgrow hat
        go_wp2_with fail
        go_roundw
        case rel => exact ⟨gg, cap, m + 1, s.size + 1, s.size + 1, xs ++ [s.extract f s.size], rfl, by go_num, by go_num, by omega, by omega, by omega, HM2, R1, hlg, fun h => by omega, fun _ => HE.out, R2⟩
        case measure => first | (simp [intOf]; omega) | simp [intOf]
      · have hlt : i < s.size := by omega
        have hne : ((i : Int) == (s.size : Int)) = false := by simp; omega
        have hb8 : (s[i].toNat : Int) < 256 := by have := s[i].toNat_lt; omega
        by_cases hc : (s[i].toNat : Int) = 44
        · have HE : Hid (Cut s (i + 1) (i + 1) (xs ++ [s.extract f i])) := (HC.out hle).hit hlt (by
            rw [byte_at s i hlt]
            have : s[i] = 44 := UInt8.toNat_inj.1 (by show s[i].toNat = 44; omega)
            rw [this])
          clear HC HD
          go_wp2_with (at_builtin; refine Hid.out ?_)
          refine Lib.hid ?_
          refine wpList_append_one rfl _ _ 42 rfl w.heap.size 9 i0 (.string ⟨#[]⟩) 16 Tryd.underlying42 hi0 hz0 hz1 hz2 rfl (.slice (some ⟨g, 0, none⟩) m cp) m (xs.map Value.string) rfl (HO.out.alloc _) ⟨wr.heap.size, 0, none⟩ 1 (.string (s.extract f i)) rfl (new_cell wr _ _) rfl (by show _ ≤ 9223372036854775807; omega) (by omega) (by simp; omega) ?_
          intro gg cap wn hown1 hgrow hat hlg
          have R1 : Hid (World.ownsRow wn w.heap.size 9 1 (.slice (some ⟨gg, 0, none⟩) (m + 1) cap) (m + 1) ((xs ++ [s.extract f i]).map Value.string)) := by
            rw [List.map_append]
            exact hown1
          have R2 : Hid (Below w.heap.size w wn) := (HK.out.alloc hbase _).grown hgrow (by simp; omega) (by simp [Value.ownBlock]; omega)
          have HM2 : Hid (m + 1 = (xs ++ [s.extract f i]).length) := by show _ = _; rw [HM.out]; simp
          clear hown1 hgrow hat
          go_wp2_with fail
          go_roundw
          case rel => exact ⟨gg, cap, m + 1, i + 1, i + 1, xs ++ [s.extract f i], rfl, by go_num, by go_num, by omega, by omega, by omega, HM2, R1, hlg, fun _ => HE.out, fun h => by omega, R2⟩
          case measure => first | (simp [intOf]; omega) | simp [intOf]
        · have HE : Hid (Cut s f (i + 1) xs) := (HC.out hle).next hlt (by
            rw [byte_at s i hlt]
            intro h
            have : s[i] = 44 := by simpa using h
            exact hc (by rw [this]; rfl))
          have hce : ((s[i].toNat : Int) == 44) = false := by simpa using hc
          clear HC HD
          go_wp2
          go_roundw
          case rel => exact ⟨g, cp, m, f, i + 1, xs, rfl, rfl, by go_num, by omega, by omega, by omega, HM, HO, hg, fun _ => HE.out, fun h => by omega, HK⟩
          case measure => first | (simp [intOf]; omega) | simp [intOf]
    · obtain rfl : i = s.size + 1 := by omega
      have HE : Hid (xs = sp s) := HD.out rfl
      go_wp2
      go_ret
      have hx := HE.out
      have hm' := HM.out
      subst hx hm'
      exact ⟨g, cp, rfl, HO.out, hg, HK.out⟩

end Go.Proofs.YtlhhedmammjieaaDoor
