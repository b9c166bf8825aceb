/- strconv.FormatInt at base 16: hexadecimal digits. -/
import Derived.Test.YtlhhedmammjieaaDoorProg
import Derived.WalkKit
import Derived.WalkSpells
import Derived.WalkLawsBesides
import Derived.IntWalk
import Derived.Handy
import Derived.Laws.IdiomStrings
import Derived.Lib.UnsafeStr
import Derived.Lib.Hide
import Derived.Test.YtlhhedmammjieaaDoorHexPlain
namespace Go.Proofs.YtlhhedmammjieaaDoor
open Go.RowKit

theorem and15 (u : Nat) (h : u < 4294967296) : bits BinOp.and IntKind.u64 (u : Int) 15 = ((u % 16 : Nat) : Int) := by
  show IntKind.u64.wrap ((BitVec.ofInt 64 (u : Int) &&& BitVec.ofInt 64 15).toNat : Int) = _
  rw [BitVec.toNat_and, show (BitVec.ofInt 64 (15 : Int)).toNat = 2 ^ 4 - 1 from rfl, Nat.and_two_pow_sub_one_eq_mod]
  have e : (BitVec.ofInt 64 (u : Int)).toNat = u := by
    rw [BitVec.toNat_ofInt]
    have : ((u : Int) % ((2 ^ 64 : Nat) : Int)) = u := Int.emod_eq_of_lt (by omega) (by omega)
    rw [this]; rfl
  rw [e]
  have hm : u % 2 ^ 4 < 16 := Nat.mod_lt _ (by decide)
  show ((u % 2 ^ 4 : Nat) : Int) % 18446744073709551616 = _
  rw [Int.emod_eq_of_lt (by omega) (by omega)]

def digs : ByteArray := ⟨#[48, 49, 50, 51, 52, 53, 54, 55, 56, 57, 97, 98, 99, 100, 101, 102, 103, 104, 105, 106, 107, 108, 109, 110, 111, 112, 113, 114, 115, 116, 117, 118, 119, 120, 121, 122]⟩
theorem dig_all : ∀ m : Fin 16, (digs[m.val]'(Nat.lt_of_lt_of_le m.isLt (by decide))).toNat = (hexDig m.val).toNat := by decide
theorem dig_at (m : Nat) (h : m < 36) (h16 : m < 16) : ((⟨#[48, 49, 50, 51, 52, 53, 54, 55, 56, 57, 97, 98, 99, 100, 101, 102, 103, 104, 105, 106, 107, 108, 109, 110, 111, 112, 113, 114, 115, 116, 117, 118, 119, 120, 121, 122]⟩ : ByteArray)[m]'h).toNat = (hexDig m).toNat := dig_all ⟨m, h16⟩

theorem arr_len : Tryd.prog.arrayLen 109 = 65 := by kernel_rfl
theorem arr_slice (b j : Nat) (hj : j < 65) (W : World) : (Instr.sliceAt 109 (.pointer (some ⟨b, 0, none⟩)) (some (.int .i64 (j : Int))) none none).run Tryd.prog W = .ok (.slice (some ⟨b, j, none⟩) (65 - j) (65 - j)) W := by
  rw [run_sliceAt_array_l W 109 ⟨b, 0, none⟩ (by simp [Program.arrayLen, Program.elem, Tryd.underlying109]) .i64 (j : Int) (by omega) (by rw [arr_len]; omega)]
  rw [arr_len]
  go_simp
  try omega

/-- the buffer's last bytes, from i on -/
def Bt (wr : World) (b i : Nat) (ys : List UInt8) : Prop :=
  i + ys.length = 65 ∧ b < wr.heap.size ∧ (∀ j, j < 65 → ∃ v, wr.cell? ⟨b, j, none⟩ = some v ∧ wr.frozen? ⟨b, j, none⟩ = false) ∧ ∀ j (hj : j < ys.length), wr.cell? ⟨b, i + j, none⟩ = some (.int .u8 (ys[j].toNat : Int))

theorem zero_size : Tryd.zeroCells109.size = 65 := by kernel_rfl

theorem Bt.start (w : World) : Bt (w.alloc (Obj.cells Tryd.zeroCells109 109)) w.heap.size 65 [] := by
  have h := heap_alloc_new w (Obj.cells Tryd.zeroCells109 109)
  refine ⟨rfl, by show _ < (w.heap.push _).size; rw [Array.size_push]; omega, fun j hj => ?_, fun j hj => absurd hj (Nat.not_lt_zero _)⟩
  have hj' : j < Tryd.zeroCells109.size := by rw [zero_size]; exact hj
  exact ⟨Tryd.zeroCells109[j], by rw [cell_of_row _ _ j _ _ _ h, Array.getElem?_eq_getElem hj'], by unfold World.frozen?; rw [h]; show (decide (0 ≤ j) && decide (j < 0)) = false; simp⟩

theorem Bt.put {wr : World} {b i : Nat} {ys : List UInt8} (h : Bt wr b (i + 1) ys) (d : UInt8) : Bt (wr.setCell ⟨b, i, none⟩ (.int .u8 (d.toNat : Int))) b i (d :: ys) := by
  obtain ⟨h1, h2, h3, h4⟩ := h
  refine ⟨by simp; omega, by simpa [World.setCell] using h2, fun j hj => ?_, fun j hj => ?_⟩
  · obtain ⟨v, hv, hf⟩ := h3 j hj
    by_cases e : i = j
    · subst e
      exact ⟨_, World.cell?_setCell_same wr _ _ hv, by rw [World.frozen?_setCell]; exact hf⟩
    · exact ⟨v, by rw [World.cell?_setCell_other (h := fun h => e (by injection h))]; exact hv, by rw [World.frozen?_setCell]; exact hf⟩
  · cases j with
    | zero =>
      obtain ⟨v, hv, hf⟩ := h3 i (by omega)
      exact World.cell?_setCell_same wr _ _ hv
    | succ j =>
      rw [World.cell?_setCell_other (h := fun h => by injection h; omega), show i + (j + 1) = i + 1 + j by omega]
      exact h4 j (by simpa using hj)

set_option maxRecDepth 20000 in
set_option maxHeartbeats 2000000 in
theorem bits16 (n : Nat) (w : World) (hn : n < 4294967296) (ht : w.cell? ⟨8, 15, none⟩ = some (.int .u8 4)) : Calls Tryd.prog 69 #[.slice none 0 0, .int .u64 n, .int .i64 16, .bool false, .bool false] w fun e w' => e = .returned (.tuple #[.slice none 0 0, .string ⟨(hexNum n).toArray⟩]) ∧ Below w.heap.size w w' := by
  have k1 : IntKind.u64.wrap (bits BinOp.and IntKind.u64 16 (IntKind.u64.wrap (-16)) * 285870213051353865) = 4573923408821661840 := by decide +kernel
  have k2 : bits BinOp.and IntKind.i64 16 15 = 0 := by decide +kernel
  have hlt : 8 < w.heap.size := by
    rcases Nat.lt_or_ge 8 w.heap.size with h' | h'
    · exact h'
    · simp [World.cell?, Array.getElem?_eq_none h'] at ht
  have ht' : (w.alloc (Obj.cells Tryd.zeroCells109 109)).cell? ⟨8, 15, none⟩ = some (.int .u8 4) := by
    rw [((Below.refl w.heap.size w).alloc (Nat.le_refl _) _).cell (p := ⟨8, 15, none⟩) hlt]; exact ht
  go_enter Tryd.func69, Tryd.ntmps69
  go_wp2
  go_loopw [1, 13] (fun us is wr => ∃ (u i : Nat) (ys : List UInt8), us = .int .u64 u ∧ is = .int .i64 i ∧ u < 4294967296 ∧ i ≤ 65 ∧ 58 ≤ i ∧ Hid (u < 16 ^ (i - 57)) ∧ Hid (hexNum n = hexNum u ++ ys) ∧ Hid (Bt wr w.heap.size i ys) ∧ Hid (Below w.heap.size w wr)) (fun us _ _ => (intOf us).toNat)
  case atStart => exact ⟨n, 65, [], rfl, rfl, hn, by omega, by omega, by show n < 16 ^ 8; omega, by show _ = _; rw [List.append_nil], Bt.start w, by show Below w.heap.size w _; go_grown⟩
  case round =>
    obtain ⟨u, i, ys, rfl, rfl, hu, hi, hi2, HU, HX, HB, HK⟩ := hrel
    obtain ⟨j, rfl⟩ : ∃ j, i = j + 1 := ⟨i - 1, by omega⟩
    obtain ⟨v0, c1, c2⟩ := HB.out.2.2.1 j (by omega)
    have ha := and15 u hu
    have hm16 : u % 16 < 16 := Nat.mod_lt _ (by decide)
    by_cases h16 : 16 ≤ u
    · have HS := Lib.hid (hexNum_step u ys h16)
      have HP : Hid (Bt (wr.setCell ⟨w.heap.size, j, none⟩ (.int .u8 ((hexDig (u % 16)).toNat : Int))) w.heap.size j (hexDig (u % 16) :: ys)) := HB.out.put _
      have HK2 : Hid (Below w.heap.size w (wr.setCell ⟨w.heap.size, j, none⟩ (.int .u8 ((hexDig (u % 16)).toNat : Int)))) := HK.out.setCell (p := ⟨w.heap.size, j, none⟩) (Nat.le_refl _) _
      have hj : 58 ≤ j ∧ u / 16 < 16 ^ (j - 57) := by
        have hu' := HU.out
        have hj : 58 ≤ j := by
          rcases Nat.lt_or_ge 57 j with h | h
          · omega
          · have e : j + 1 - 57 = 1 := by omega
            rw [e] at hu'; omega
        refine ⟨hj, ?_⟩
        have e : 16 ^ (j + 1 - 57) = 16 * 16 ^ (j - 57) := by
          rw [show j + 1 - 57 = (j - 57) + 1 by omega, Nat.pow_succ, Nat.mul_comm]
        omega
      obtain ⟨hj58, hjU⟩ := hj
      have HJ := Lib.hid hjU
      clear hjU HB
      generalize u % 16 = m at *
      have hd := dig_at m (by omega) hm16
      go_wp2
      go_roundw
      case rel =>
        exact ⟨u / 16, j, hexDig m :: ys, by simp, rfl, by omega, by omega, hj58, HJ, by show _ = _; rw [HX.out]; exact HS.out, HP, HK2⟩
      case measure => simp [intOf]; omega
    · have HP : Hid (Bt (wr.setCell ⟨w.heap.size, j, none⟩ (.int .u8 ((hexDig u).toNat : Int))) w.heap.size j (hexDig u :: ys)) := HB.out.put _
      have HK2 : Hid (Below w.heap.size w (wr.setCell ⟨w.heap.size, j, none⟩ (.int .u8 ((hexDig u).toNat : Int)))) := HK.out.setCell (p := ⟨w.heap.size, j, none⟩) (Nat.le_refl _) _
      have hsl := arr_slice w.heap.size j (by omega)
      have hd := dig_at u (by omega) (by omega)
      have HE : Hid (hexNum n = hexDig u :: ys) := by
        show _ = _
        rw [HX.out, hexNum_end u (by omega)]; rfl
      have hl : 65 - j = (hexDig u :: ys).length := by have := HP.out.1; omega
      have hcv := run_convert_bytes_back (P := Tryd.prog) (wr.setCell ⟨w.heap.size, j, none⟩ (.int .u8 ((hexDig u).toNat : Int))) 62 9 5 ⟨w.heap.size, j, none⟩ (65 - j) (hexDig u :: ys) Tryd.underlying62 Tryd.underlying5 Tryd.underlying9 (fun k hk => by
        rw [show (⟨w.heap.size, j, none⟩ : Addr).add k = ⟨w.heap.size, j + k, none⟩ by simp [Addr.add]]
        exact HP.out.2.2.2 k hk)
      rw [← hl, ← HE.out] at hcv
      have HH := Lib.hid hl
      clear hl HB HP
      go_wp2
      go_ret2
      exact ⟨rfl, HK2.out⟩

end Go.Proofs.YtlhhedmammjieaaDoor
