/- The hexadecimal digits of a number: reference and program. -/
import Derived.Test.YtlhhedmammjieaaDoorVec
import Derived.Test.YtlhhedmammjieaaDoorHexFmt
import Derived.Test.YtlhhedmammjieaaDoorRep
import Derived.Deep.AppendLies
import Derived.Lib.LaidTab
import Derived.Lib.AppendIntMem
import Derived.WideShapes
namespace Go.Proofs.YtlhhedmammjieaaDoor
open Go.RowKit Opn

@[go_sem] theorem call_Float32bits (x : Nat) (w : World) : (callFunc 43 #[.float .f32 x]).run Tryd.prog w = .ok (.value (.int .u32 x)) w := by kernel_rfl
@[go_sem] theorem call_Float32frombits (n : Int) (w : World) : (callFunc 37 #[.int .u32 n]).run Tryd.prog w = .ok (.value (.float .f32 n.toNat)) w := by kernel_rfl

def bitsOf (x : Nat) : Nat := if FloatKind.f32.format.infRung < Flt.rung FloatKind.f32.format x then 2143289344 else x
theorem bitsOf_lt (x : Nat) (hx : x < 4294967296) : bitsOf x < 4294967296 := by unfold bitsOf; split <;> omega

theorem bits_spec (x : Nat) (w : World) (hx : x < 4294967296) : Calls Tryd.prog 34 #[.float .f32 x] w fun e w' => e = .returned (.int .i64 ((bitsOf x : Nat) : Int)) ∧ w' = w := by
  have hx' : (x : Int) < 4294967296 := by omega
  by_cases h : FloatKind.f32.format.infRung < Flt.rung FloatKind.f32.format x
  · have hn : (FloatKind.f32.format.order x x != some .eq) = true := by rw [Flt.order_nan_left _ (Flt.ok _) _ _ h]; rfl
    have hb : bitsOf x = 2143289344 := by unfold bitsOf; rw [if_pos h]
    rw [hb]
    clear h hx hb
    go_enter Tryd.func34, Tryd.ntmps34
    go_wp2
    go_ret
    exact ⟨rfl, rfl⟩
  · have hn : (FloatKind.f32.format.order x x != some .eq) = false := by rw [bne, Flt.feq (by omega) (by omega)]; simp
    have hb : bitsOf x = x := by unfold bitsOf; rw [if_neg h]
    rw [hb]
    clear h hx hb
    go_enter Tryd.func34, Tryd.ntmps34
    go_wp2
    go_ret
    exact ⟨rfl, rfl⟩

theorem bits_impl (x : Nat) (w : World) (hx : x < 4294967296) : Calls Tryd.prog 40 #[.float .f32 x] w fun e w' => e = .returned (.int .i64 ((bitsOf x : Nat) : Int)) ∧ w' = w := by
  have hx' : (x : Int) < 4294967296 := by omega
  by_cases h : FloatKind.f32.format.infRung < Flt.rung FloatKind.f32.format x
  · have hn : (FloatKind.f32.format.order x x != some .eq) = true := by rw [Flt.order_nan_left _ (Flt.ok _) _ _ h]; rfl
    have hb : bitsOf x = 2143289344 := by unfold bitsOf; rw [if_pos h]
    rw [hb]
    clear h hx hb
    go_enter Tryd.func40, Tryd.ntmps40
    go_wp2
    go_ret
    exact ⟨rfl, rfl⟩
  · have hn : (FloatKind.f32.format.order x x != some .eq) = false := by rw [bne, Flt.feq (by omega) (by omega)]; simp
    have hb : bitsOf x = x := by unfold bitsOf; rw [if_neg h]
    rw [hb]
    clear h hx hb
    go_enter Tryd.func40, Tryd.ntmps40
    go_wp2
    go_ret
    exact ⟨rfl, rfl⟩

/-- the table that math/bits.TrailingZeros64 reads, at 15 -/
def Tz (w : World) : Prop := w.cell? ⟨8, 15, none⟩ = some (.int .u8 4)
theorem Tz.on {w w' : World} (h : Tz w) (hb : Below w.heap.size w w') : Tz w' := by
  unfold Tz at *
  have hlt : 8 < w.heap.size := by
    rcases Nat.lt_or_ge 8 w.heap.size with h' | h'
    · exact h'
    · simp [World.cell?, Array.getElem?_eq_none h'] at h
  rw [hb.cell hlt]; exact h

theorem fmt16 (n : Nat) (w : World) (hn : n < 4294967296) (ht : Tz w) : Calls Tryd.prog 39 #[.int .i64 n, .int .i64 16] w fun e w' => e = .returned (.string ⟨(hexNum n).toArray⟩) ∧ Below w.heap.size w w' := by
  go_enter Tryd.func39, Tryd.ntmps39
  go_wp2_with (first | (go_at_call 69; refine (bits16 n _ hn ht).mono ?_; rintro e w1 ⟨rfl, hb1⟩; have HB := Lib.hid hb1; clear hb1; refine Hid.out ?_) | go_in)
  refine Lib.hid ?_
  go_wp2
  go_ret
  exact ⟨rfl, HB.out⟩

def hex8 (x : Nat) : List UInt8 := hexPad 8 (bitsOf x)
theorem hex8_length (x : Nat) : (hex8 x).length = 8 := hexPad_length _ _

theorem rep_zero : ∀ c : Nat, Lib.repeatL [48] c = List.replicate c 48
  | 0 => rfl
  | c + 1 => by rw [Lib.repeatL, rep_zero c]; rfl

theorem bytes_append (a b : List UInt8) : (⟨a.toArray⟩ : ByteArray) ++ ⟨b.toArray⟩ = ⟨(a ++ b).toArray⟩ := by
  apply Go.WideShapes.bytes_inj
  simp

theorem digits_impl (x : Nat) (w : World) (hx : x < 4294967296) (ht : Tz w) : Calls Tryd.prog 30 #[.float .f32 x] w fun e w' => e = .returned (.string ⟨(hex8 x).toArray⟩) ∧ Below w.heap.size w w' := by
  have hb := bitsOf_lt x hx
  have hl := hexNum_length 7 (bitsOf x) hb
  have hp : hex8 x = List.replicate (8 - (hexNum (bitsOf x)).length) 48 ++ hexNum (bitsOf x) := (hexPad_num 7 (bitsOf x) hb).symm
  have hbi := bits_impl x w hx
  have hf := fmt16 (bitsOf x) w hb ht
  have hlen : (⟨(hexNum (bitsOf x)).toArray⟩ : ByteArray).size = (hexNum (bitsOf x)).length := List.size_toArray ..
  have HR : Hid (∀ W, Calls Tryd.prog 41 #[.string ⟨#[48]⟩, .int .i64 ((8 - (hexNum (bitsOf x)).length : Nat) : Int)] W fun e w' => e = .returned (.string ⟨(List.replicate (8 - (hexNum (bitsOf x)).length) 48).toArray⟩) ∧ Below W.heap.size W w') := fun W => by
    have h := Tryd.strings_Repeat ⟨#[48]⟩ (8 - (hexNum (bitsOf x)).length) W (by omega) (by show 1 * _ ≤ _; omega)
    rw [show (⟨#[48]⟩ : ByteArray).data.toList = [48] from rfl, rep_zero] at h
    exact h
  rw [hp]
  have HC : Hid ((⟨(List.replicate (8 - (hexNum (bitsOf x)).length) 48).toArray⟩ : ByteArray) ++ ⟨(hexNum (bitsOf x)).toArray⟩ = ⟨(List.replicate (8 - (hexNum (bitsOf x)).length) 48 ++ hexNum (bitsOf x)).toArray⟩) := bytes_append _ _
  have hrl : (⟨(List.replicate (8 - (hexNum (bitsOf x)).length) (48 : UInt8)).toArray⟩ : ByteArray).size = 8 - (hexNum (bitsOf x)).length := by
    show (List.replicate (8 - (hexNum (bitsOf x)).length) (48 : UInt8)).toArray.size = _
    simp
  generalize List.replicate (8 - (hexNum (bitsOf x)).length) (48 : UInt8) = z at *
  generalize hexNum (bitsOf x) = h at *
  generalize bitsOf x = n at *
  have e8 : (8 : Int) - (h.length : Int) = ((8 - h.length : Nat) : Int) := by omega
  have hz : z.length = 8 - h.length := hrl
  clear hp hrl hlen
  go_enter Tryd.func30, Tryd.ntmps30
  go_wp2_with (first | (go_at_call 40; refine hbi.mono ?_; rintro e w0 ⟨rfl, rfl⟩) | (go_at_call 39; refine hf.mono ?_; rintro e w1 ⟨rfl, hb1⟩; have HB := Lib.hid hb1; clear hb1; refine Hid.out ?_))
  refine Lib.hid ?_
  go_wp2_with (go_at_call 41; refine (HR.out _).mono ?_; rintro e w2 ⟨rfl, hb2⟩; have HB2 := Lib.hid hb2; clear hb2; refine Hid.out ?_)
  refine Lib.hid ?_
  have HB3 : Hid (Below w0.heap.size w0 w2) := HB.out.trans (HB2.out.mono HB.out.size)
  have hc := HC.out
  go_wp2
  go_ret
  exact ⟨rfl, HB3.out⟩

end Go.Proofs.YtlhhedmammjieaaDoor
