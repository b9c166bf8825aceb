/- The reference's eight hexadecimal digits. -/
import Derived.Test.YtlhhedmammjieaaDoorHex
import Derived.Test.YtlhhedmammjieaaDoorApp2
import Derived.OwnWalk
namespace Go.Proofs.YtlhhedmammjieaaDoor
open Go.RowKit Opn

theorem info_u8h : (Tryd.prog.info? 5).map (fun i => (i.zero, i.size, i.bytes)) = some (some (.int .u8 0), 1, 1) := by kernel_rfl

theorem and15i (u : Nat) (h : u < 4294967296) : bits BinOp.and IntKind.i64 (u : Int) 15 = ((u % 16 : Nat) : Int) := by
  show IntKind.i64.wrap ((BitVec.ofInt 64 (u : Int) &&& BitVec.ofInt 64 15).toNat : Int) = _
  rw [BitVec.toNat_and, show (BitVec.ofInt 64 (15 : Int)).toNat = 2 ^ 4 - 1 from rfl, Nat.and_two_pow_sub_one_eq_mod]
  have e : (BitVec.ofInt 64 (u : Int)).toNat = u := by
    rw [BitVec.toNat_ofInt]
    have : ((u : Int) % ((2 ^ 64 : Nat) : Int)) = u := Int.emod_eq_of_lt (by omega) (by omega)
    rw [this]; rfl
  rw [e, IntKind.wrap_i64]
  have hm : u % 2 ^ 4 < 16 := Nat.mod_lt _ (by decide)
  show _ = ((u % 2 ^ 4 : Nat) : Int)
  omega

def dig16 : ByteArray := ⟨#[48, 49, 50, 51, 52, 53, 54, 55, 56, 57, 97, 98, 99, 100, 101, 102]⟩
theorem dig16_all : ∀ m : Fin 16, (dig16[m.val]'(Nat.lt_of_lt_of_le m.isLt (by decide))).toNat = (hexDig m.val).toNat := by decide
theorem dig16_at (m : Nat) (h : m < 16) : ((⟨#[48, 49, 50, 51, 52, 53, 54, 55, 56, 57, 97, 98, 99, 100, 101, 102]⟩ : ByteArray)[m]'h).toNat = (hexDig m).toNat := dig16_all ⟨m, h⟩

theorem pad_eight (n : Nat) : hexPad 8 n = [hexDig (n / 268435456 % 16), hexDig (n / 16777216 % 16), hexDig (n / 1048576 % 16), hexDig (n / 65536 % 16), hexDig (n / 4096 % 16), hexDig (n / 256 % 16), hexDig (n / 16 % 16), hexDig (n % 16)] := by
  simp [hexPad, Nat.div_div_eq_div_mul]

set_option maxRecDepth 20000 in
set_option maxHeartbeats 4000000 in
theorem hex_spec (x : Nat) (w : World) (hx : x < 4294967296) : Calls Tryd.prog 29 #[.float .f32 x] w fun e w' => e = .returned (.string ⟨(hex8 x).toArray⟩) ∧ Below w.heap.size w w' := by
  obtain ⟨i0, hi0, hz0, hz1, hz2⟩ := info_parts info_u8h
  have hbs := bits_spec x w hx
  have hn := bitsOf_lt x hx
  have HP := Lib.hid (pad_eight (bitsOf x))
  unfold hex8
  generalize bitsOf x = n at *
  have HL : Hid ((hexPad 8 n).length = 8) := hexPad_length 8 n
  go_enter Tryd.func29, Tryd.ntmps29
  go_wp2_with (go_at_call 34; refine hbs.mono ?_; rintro e w0 ⟨rfl, hw0⟩; subst hw0)
  go_loopw [4, 5] (fun out ks wr => ∃ (g cp q : Nat), out = .slice (some ⟨g, 0, none⟩) q cp ∧ ks = .int .i64 (28 - 4 * (q : Int)) ∧ q ≤ 8 ∧ g < wr.heap.size ∧ Hid (World.ownsRow wr w0.heap.size 5 1 (.slice (some ⟨g, 0, none⟩) q cp) q (Lib.byteCells ((hexPad 8 n).take q))) ∧ Hid (Below w0.heap.size w0 wr)) (fun out _ _ => 8 - (match out with | .slice _ m _ => m | _ => 0))
  case atStart =>
    refine ⟨w0.heap.size, 0, 0, rfl, rfl, by omega, by simp, ?_, by show Below w0.heap.size w0 _; go_grown⟩
    refine ⟨rfl, .inr ⟨w0.heap.size, 0, #[], rfl, Nat.le_refl _, ?_, Nat.le_refl _, Nat.zero_le _, rfl, rfl⟩⟩
    exact heap_alloc_new w0 (Obj.cells #[] 5)
  case round =>
    obtain ⟨g, cp, q, rfl, rfl, hq, hg, HO, HK⟩ := hrel
    have hbase : w0.heap.size ≤ wr.heap.size := HK.out.size
    have hgb : w0.heap.size ≤ g := (HO.out.lt g rfl).1
    have hq8 : q = 0 ∨ q = 1 ∨ q = 2 ∨ q = 3 ∨ q = 4 ∨ q = 5 ∨ q = 6 ∨ q = 7 ∨ q = 8 := by omega
    rcases hq8 with rfl | rfl | rfl | rfl | rfl | rfl | rfl | rfl | rfl
    · have hv : n / 268435456 < 4294967296 := by omega
      have ha := and15i (n / 268435456) hv
      have hm16 : n / 268435456 % 16 < 16 := Nat.mod_lt _ (by decide)
      have HT : Hid (Lib.byteCells ((hexPad 8 n).take 1) = Lib.byteCells ((hexPad 8 n).take 0) ++ [Value.int .u8 ((hexDig (n / 268435456 % 16)).toNat : Int)]) := by
        show _ = _
        rw [HP.out]; rfl
      have hdv : ((n : Int) / 268435456) = ((n / 268435456 : Nat) : Int) := by omega
      generalize n / 268435456 = v at *
      generalize v % 16 = m at *
      have hd := dig16_at m hm16
      go_wp2_with (at_builtin; refine Hid.out ?_)
      refine Lib.hid ?_
      refine wpList_append_one rfl _ _ 62 rfl w0.heap.size 5 i0 (.int .u8 0) 1 Tryd.underlying62 hi0 hz0 hz1 hz2 rfl (.slice (some ⟨g, 0, none⟩) 0 cp) 0 _ rfl (HO.out.alloc _) ⟨wr.heap.size, 0, none⟩ 1 (.int .u8 ((hexDig m).toNat : Int)) rfl (new_cell wr _ _) rfl (by decide) (by decide) (by simp; omega) ?_
      intro gg cap wn hown1 hgrow hat hlg
      have R1 : Hid (World.ownsRow wn w0.heap.size 5 1 (.slice (some ⟨gg, 0, none⟩) 1 cap) 1 (Lib.byteCells ((hexPad 8 n).take 1))) := by
        show World.ownsRow _ _ _ _ _ _ _
        rw [HT.out]
        exact hown1
      have R2 : Hid (Below w0.heap.size w0 wn) := (HK.out.alloc hbase _).grown hgrow (by simp; omega) (by simp [Value.ownBlock]; omega)
      clear hown1 hgrow hat
      go_wp2_with fail
      go_roundw
      case rel => exact ⟨gg, cap, 1, rfl, by first | rfl | go_num, by omega, hlg, R1, R2⟩
      case measure => simp
    · have hv : n / 16777216 < 4294967296 := by omega
      have ha := and15i (n / 16777216) hv
      have hm16 : n / 16777216 % 16 < 16 := Nat.mod_lt _ (by decide)
      have HT : Hid (Lib.byteCells ((hexPad 8 n).take 2) = Lib.byteCells ((hexPad 8 n).take 1) ++ [Value.int .u8 ((hexDig (n / 16777216 % 16)).toNat : Int)]) := by
        show _ = _
        rw [HP.out]; rfl
      have hdv : ((n : Int) / 16777216) = ((n / 16777216 : Nat) : Int) := by omega
      generalize n / 16777216 = v at *
      generalize v % 16 = m at *
      have hd := dig16_at m hm16
      go_wp2_with (at_builtin; refine Hid.out ?_)
      refine Lib.hid ?_
      refine wpList_append_one rfl _ _ 62 rfl w0.heap.size 5 i0 (.int .u8 0) 1 Tryd.underlying62 hi0 hz0 hz1 hz2 rfl (.slice (some ⟨g, 0, none⟩) 1 cp) 1 _ rfl (HO.out.alloc _) ⟨wr.heap.size, 0, none⟩ 1 (.int .u8 ((hexDig m).toNat : Int)) rfl (new_cell wr _ _) rfl (by decide) (by decide) (by simp; omega) ?_
      intro gg cap wn hown1 hgrow hat hlg
      have R1 : Hid (World.ownsRow wn w0.heap.size 5 1 (.slice (some ⟨gg, 0, none⟩) 2 cap) 2 (Lib.byteCells ((hexPad 8 n).take 2))) := by
        show World.ownsRow _ _ _ _ _ _ _
        rw [HT.out]
        exact hown1
      have R2 : Hid (Below w0.heap.size w0 wn) := (HK.out.alloc hbase _).grown hgrow (by simp; omega) (by simp [Value.ownBlock]; omega)
      clear hown1 hgrow hat
      go_wp2_with fail
      go_roundw
      case rel => exact ⟨gg, cap, 2, rfl, by first | rfl | go_num, by omega, hlg, R1, R2⟩
      case measure => simp
    · have hv : n / 1048576 < 4294967296 := by omega
      have ha := and15i (n / 1048576) hv
      have hm16 : n / 1048576 % 16 < 16 := Nat.mod_lt _ (by decide)
      have HT : Hid (Lib.byteCells ((hexPad 8 n).take 3) = Lib.byteCells ((hexPad 8 n).take 2) ++ [Value.int .u8 ((hexDig (n / 1048576 % 16)).toNat : Int)]) := by
        show _ = _
        rw [HP.out]; rfl
      have hdv : ((n : Int) / 1048576) = ((n / 1048576 : Nat) : Int) := by omega
      generalize n / 1048576 = v at *
      generalize v % 16 = m at *
      have hd := dig16_at m hm16
      go_wp2_with (at_builtin; refine Hid.out ?_)
      refine Lib.hid ?_
      refine wpList_append_one rfl _ _ 62 rfl w0.heap.size 5 i0 (.int .u8 0) 1 Tryd.underlying62 hi0 hz0 hz1 hz2 rfl (.slice (some ⟨g, 0, none⟩) 2 cp) 2 _ rfl (HO.out.alloc _) ⟨wr.heap.size, 0, none⟩ 1 (.int .u8 ((hexDig m).toNat : Int)) rfl (new_cell wr _ _) rfl (by decide) (by decide) (by simp; omega) ?_
      intro gg cap wn hown1 hgrow hat hlg
      have R1 : Hid (World.ownsRow wn w0.heap.size 5 1 (.slice (some ⟨gg, 0, none⟩) 3 cap) 3 (Lib.byteCells ((hexPad 8 n).take 3))) := by
        show World.ownsRow _ _ _ _ _ _ _
        rw [HT.out]
        exact hown1
      have R2 : Hid (Below w0.heap.size w0 wn) := (HK.out.alloc hbase _).grown hgrow (by simp; omega) (by simp [Value.ownBlock]; omega)
      clear hown1 hgrow hat
      go_wp2_with fail
      go_roundw
      case rel => exact ⟨gg, cap, 3, rfl, by first | rfl | go_num, by omega, hlg, R1, R2⟩
      case measure => simp
    · have hv : n / 65536 < 4294967296 := by omega
      have ha := and15i (n / 65536) hv
      have hm16 : n / 65536 % 16 < 16 := Nat.mod_lt _ (by decide)
      have HT : Hid (Lib.byteCells ((hexPad 8 n).take 4) = Lib.byteCells ((hexPad 8 n).take 3) ++ [Value.int .u8 ((hexDig (n / 65536 % 16)).toNat : Int)]) := by
        show _ = _
        rw [HP.out]; rfl
      have hdv : ((n : Int) / 65536) = ((n / 65536 : Nat) : Int) := by omega
      generalize n / 65536 = v at *
      generalize v % 16 = m at *
      have hd := dig16_at m hm16
      go_wp2_with (at_builtin; refine Hid.out ?_)
      refine Lib.hid ?_
      refine wpList_append_one rfl _ _ 62 rfl w0.heap.size 5 i0 (.int .u8 0) 1 Tryd.underlying62 hi0 hz0 hz1 hz2 rfl (.slice (some ⟨g, 0, none⟩) 3 cp) 3 _ rfl (HO.out.alloc _) ⟨wr.heap.size, 0, none⟩ 1 (.int .u8 ((hexDig m).toNat : Int)) rfl (new_cell wr _ _) rfl (by decide) (by decide) (by simp; omega) ?_
      intro gg cap wn hown1 hgrow hat hlg
      have R1 : Hid (World.ownsRow wn w0.heap.size 5 1 (.slice (some ⟨gg, 0, none⟩) 4 cap) 4 (Lib.byteCells ((hexPad 8 n).take 4))) := by
        show World.ownsRow _ _ _ _ _ _ _
        rw [HT.out]
        exact hown1
      have R2 : Hid (Below w0.heap.size w0 wn) := (HK.out.alloc hbase _).grown hgrow (by simp; omega) (by simp [Value.ownBlock]; omega)
      clear hown1 hgrow hat
      go_wp2_with fail
      go_roundw
      case rel => exact ⟨gg, cap, 4, rfl, by first | rfl | go_num, by omega, hlg, R1, R2⟩
      case measure => simp
    · have hv : n / 4096 < 4294967296 := by omega
      have ha := and15i (n / 4096) hv
      have hm16 : n / 4096 % 16 < 16 := Nat.mod_lt _ (by decide)
      have HT : Hid (Lib.byteCells ((hexPad 8 n).take 5) = Lib.byteCells ((hexPad 8 n).take 4) ++ [Value.int .u8 ((hexDig (n / 4096 % 16)).toNat : Int)]) := by
        show _ = _
        rw [HP.out]; rfl
      have hdv : ((n : Int) / 4096) = ((n / 4096 : Nat) : Int) := by omega
      generalize n / 4096 = v at *
      generalize v % 16 = m at *
      have hd := dig16_at m hm16
      go_wp2_with (at_builtin; refine Hid.out ?_)
      refine Lib.hid ?_
      refine wpList_append_one rfl _ _ 62 rfl w0.heap.size 5 i0 (.int .u8 0) 1 Tryd.underlying62 hi0 hz0 hz1 hz2 rfl (.slice (some ⟨g, 0, none⟩) 4 cp) 4 _ rfl (HO.out.alloc _) ⟨wr.heap.size, 0, none⟩ 1 (.int .u8 ((hexDig m).toNat : Int)) rfl (new_cell wr _ _) rfl (by decide) (by decide) (by simp; omega) ?_
      intro gg cap wn hown1 hgrow hat hlg
      have R1 : Hid (World.ownsRow wn w0.heap.size 5 1 (.slice (some ⟨gg, 0, none⟩) 5 cap) 5 (Lib.byteCells ((hexPad 8 n).take 5))) := by
        show World.ownsRow _ _ _ _ _ _ _
        rw [HT.out]
        exact hown1
      have R2 : Hid (Below w0.heap.size w0 wn) := (HK.out.alloc hbase _).grown hgrow (by simp; omega) (by simp [Value.ownBlock]; omega)
      clear hown1 hgrow hat
      go_wp2_with fail
      go_roundw
      case rel => exact ⟨gg, cap, 5, rfl, by first | rfl | go_num, by omega, hlg, R1, R2⟩
      case measure => simp
    · have hv : n / 256 < 4294967296 := by omega
      have ha := and15i (n / 256) hv
      have hm16 : n / 256 % 16 < 16 := Nat.mod_lt _ (by decide)
      have HT : Hid (Lib.byteCells ((hexPad 8 n).take 6) = Lib.byteCells ((hexPad 8 n).take 5) ++ [Value.int .u8 ((hexDig (n / 256 % 16)).toNat : Int)]) := by
        show _ = _
        rw [HP.out]; rfl
      have hdv : ((n : Int) / 256) = ((n / 256 : Nat) : Int) := by omega
      generalize n / 256 = v at *
      generalize v % 16 = m at *
      have hd := dig16_at m hm16
      go_wp2_with (at_builtin; refine Hid.out ?_)
      refine Lib.hid ?_
      refine wpList_append_one rfl _ _ 62 rfl w0.heap.size 5 i0 (.int .u8 0) 1 Tryd.underlying62 hi0 hz0 hz1 hz2 rfl (.slice (some ⟨g, 0, none⟩) 5 cp) 5 _ rfl (HO.out.alloc _) ⟨wr.heap.size, 0, none⟩ 1 (.int .u8 ((hexDig m).toNat : Int)) rfl (new_cell wr _ _) rfl (by decide) (by decide) (by simp; omega) ?_
      intro gg cap wn hown1 hgrow hat hlg
      have R1 : Hid (World.ownsRow wn w0.heap.size 5 1 (.slice (some ⟨gg, 0, none⟩) 6 cap) 6 (Lib.byteCells ((hexPad 8 n).take 6))) := by
        show World.ownsRow _ _ _ _ _ _ _
        rw [HT.out]
        exact hown1
      have R2 : Hid (Below w0.heap.size w0 wn) := (HK.out.alloc hbase _).grown hgrow (by simp; omega) (by simp [Value.ownBlock]; omega)
      clear hown1 hgrow hat
      go_wp2_with fail
      go_roundw
      case rel => exact ⟨gg, cap, 6, rfl, by first | rfl | go_num, by omega, hlg, R1, R2⟩
      case measure => simp
    · have hv : n / 16 < 4294967296 := by omega
      have ha := and15i (n / 16) hv
      have hm16 : n / 16 % 16 < 16 := Nat.mod_lt _ (by decide)
      have HT : Hid (Lib.byteCells ((hexPad 8 n).take 7) = Lib.byteCells ((hexPad 8 n).take 6) ++ [Value.int .u8 ((hexDig (n / 16 % 16)).toNat : Int)]) := by
        show _ = _
        rw [HP.out]; rfl
      have hdv : ((n : Int) / 16) = ((n / 16 : Nat) : Int) := by omega
      generalize n / 16 = v at *
      generalize v % 16 = m at *
      have hd := dig16_at m hm16
      go_wp2_with (at_builtin; refine Hid.out ?_)
      refine Lib.hid ?_
      refine wpList_append_one rfl _ _ 62 rfl w0.heap.size 5 i0 (.int .u8 0) 1 Tryd.underlying62 hi0 hz0 hz1 hz2 rfl (.slice (some ⟨g, 0, none⟩) 6 cp) 6 _ rfl (HO.out.alloc _) ⟨wr.heap.size, 0, none⟩ 1 (.int .u8 ((hexDig m).toNat : Int)) rfl (new_cell wr _ _) rfl (by decide) (by decide) (by simp; omega) ?_
      intro gg cap wn hown1 hgrow hat hlg
      have R1 : Hid (World.ownsRow wn w0.heap.size 5 1 (.slice (some ⟨gg, 0, none⟩) 7 cap) 7 (Lib.byteCells ((hexPad 8 n).take 7))) := by
        show World.ownsRow _ _ _ _ _ _ _
        rw [HT.out]
        exact hown1
      have R2 : Hid (Below w0.heap.size w0 wn) := (HK.out.alloc hbase _).grown hgrow (by simp; omega) (by simp [Value.ownBlock]; omega)
      clear hown1 hgrow hat
      go_wp2_with fail
      go_roundw
      case rel => exact ⟨gg, cap, 7, rfl, by first | rfl | go_num, by omega, hlg, R1, R2⟩
      case measure => simp
    · have hv : n < 4294967296 := by omega
      have ha := and15i (n) hv
      have hm16 : n % 16 < 16 := Nat.mod_lt _ (by decide)
      have HT : Hid (Lib.byteCells ((hexPad 8 n).take 8) = Lib.byteCells ((hexPad 8 n).take 7) ++ [Value.int .u8 ((hexDig (n % 16)).toNat : Int)]) := by
        show _ = _
        rw [HP.out]; rfl
      generalize n % 16 = m at *
      have hd := dig16_at m hm16
      go_wp2_with (at_builtin; refine Hid.out ?_)
      refine Lib.hid ?_
      refine wpList_append_one rfl _ _ 62 rfl w0.heap.size 5 i0 (.int .u8 0) 1 Tryd.underlying62 hi0 hz0 hz1 hz2 rfl (.slice (some ⟨g, 0, none⟩) 7 cp) 7 _ rfl (HO.out.alloc _) ⟨wr.heap.size, 0, none⟩ 1 (.int .u8 ((hexDig m).toNat : Int)) rfl (new_cell wr _ _) rfl (by decide) (by decide) (by simp; omega) ?_
      intro gg cap wn hown1 hgrow hat hlg
      have R1 : Hid (World.ownsRow wn w0.heap.size 5 1 (.slice (some ⟨gg, 0, none⟩) 8 cap) 8 (Lib.byteCells ((hexPad 8 n).take 8))) := by
        show World.ownsRow _ _ _ _ _ _ _
        rw [HT.out]
        exact hown1
      have R2 : Hid (Below w0.heap.size w0 wn) := (HK.out.alloc hbase _).grown hgrow (by simp; omega) (by simp [Value.ownBlock]; omega)
      clear hown1 hgrow hat
      go_wp2_with fail
      go_roundw
      case rel => exact ⟨gg, cap, 8, rfl, by first | rfl | go_num, by omega, hlg, R1, R2⟩
      case measure => simp
    · have hcv := run_convert_bytes_back (P := Tryd.prog) wr 62 9 5 ⟨g, 0, none⟩ cp (hexPad 8 n) Tryd.underlying62 Tryd.underlying5 Tryd.underlying9 (fun j hj => HO.out.cells (g := g) rfl j _ (by
        rw [List.take_of_length_le (by rw [HL.out]; exact Nat.le_refl _)]
        simp [Lib.byteCells, hj]))
      rw [HL.out] at hcv
      go_wp2
      go_ret
      exact ⟨rfl, HK.out⟩

end Go.Proofs.YtlhhedmammjieaaDoor
