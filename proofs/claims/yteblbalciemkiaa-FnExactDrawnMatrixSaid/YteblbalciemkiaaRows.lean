/-
  No cell of these rows narrows 'for every input' (looked for: loops, veiled, ifaces, maps, wideKeys, modest, calm, conditions, laid).
  DERIVED. THE GIVEN ROWS OF THIS SEAT. 8 by the template 'for every input the law returns true; each argument reads behind the call as it read before'; 0 by the template 'total and deterministic' (their statements: YteblbalciemkiaaTotals.lean).
  GIVEN WITH THE SEED: the statements are not yours to turn. If you find one false, say at which input.
  Laid BY PROGRAM, IN A SANDBOX (cutbox-rows.mjs): the forced cells as the released guide's own fill.sh prints them over the translation 23f04b492ea59a3b… (all of the seat's roots in one cut). By AI agents, Wed Nov 11 2026. No macro, syntax, notation, axiom, sorry.
-/
import Derived.Test.YteblbalciemkiaaChecked
import GoSem.Claim
import GoSem.ClaimJoined
import GoSem.ClaimMapViews
import Derived.JoinedTies
import Derived.KernelRfl
namespace Go.Proofs.Yteblbalciemkiaa
/- THE CELL 'sum', in the pinned program and in every row, IS THE sha256 OF THE DUMP (.gsa) THAT YteblbalciemkiaaProg.lean LOADS. Nothing in Lean hashes anything: it is a label: what it is worth is what the hold of that sum in a sandbox is worth. -/
noncomputable def Try.pinned : Pinned := { name := "yteblbalciemkiaa", sum := "23f04b492ea59a3b6350d0ac4b858abcbc29afb27cdbafb73a9b4c08028666f5", checked := Try.checked }
namespace Rows
def none {H : Type} : Left H := { results := [], args := [] }

/-- 'laws.FnExactHilbertMatrix': WHATEVER THE INPUT: true; the input reads as it did. -/
def fnExactHilbertMatrixSpec : ChangeSpec := { name := "fnExactHilbertMatrix", fn := fun _ => fun
  | [d] => { results := [.lit (.bool true)], args := [d] }
  | _ => none }
def fnExactHilbertMatrixRow : OpenClaim := { program := "yteblbalciemkiaa", sum := "23f04b492ea59a3b6350d0ac4b858abcbc29afb27cdbafb73a9b4c08028666f5", func := "loop.example/g01327/laws.FnExactHilbertMatrix", spec := "fnExactHilbertMatrix", unfollowed := true, recurses := true, apart := false }
def FnExactHilbertMatrixSaid : Prop := fnExactHilbertMatrixRow.holds Try.pinned (OpenSpec.ofChange fnExactHilbertMatrixSpec)

/-- ITS FALSE NEIGHBOUR: 'it returns false'. Refute it at one input. -/
def fnExactHilbertMatrixWrong : ChangeSpec := { name := "fnExactHilbertMatrix", fn := fun _ => fun
  | [d] => { results := [.lit (.bool false)], args := [d] }
  | _ => none }
def FnExactHilbertMatrixWrongFalsely : Prop := fnExactHilbertMatrixRow.holds Try.pinned (OpenSpec.ofChange fnExactHilbertMatrixWrong)

/-- 'laws.FnExactDrawnMatrix': WHATEVER THE INPUT: true; the input reads as it did. -/
def fnExactDrawnMatrixSpec : ChangeSpec := { name := "fnExactDrawnMatrix", fn := fun _ => fun
  | [d1, d2, d3] => { results := [.lit (.bool true)], args := [d1, d2, d3] }
  | _ => none }
def fnExactDrawnMatrixRow : OpenClaim := { program := "yteblbalciemkiaa", sum := "23f04b492ea59a3b6350d0ac4b858abcbc29afb27cdbafb73a9b4c08028666f5", func := "loop.example/g01327/laws.FnExactDrawnMatrix", spec := "fnExactDrawnMatrix", unfollowed := true, recurses := true, apart := false }
def FnExactDrawnMatrixSaid : Prop := fnExactDrawnMatrixRow.holds Try.pinned (OpenSpec.ofChange fnExactDrawnMatrixSpec)

/-- ITS FALSE NEIGHBOUR: 'it returns false'. Refute it at one input. -/
def fnExactDrawnMatrixWrong : ChangeSpec := { name := "fnExactDrawnMatrix", fn := fun _ => fun
  | [d1, d2, d3] => { results := [.lit (.bool false)], args := [d1, d2, d3] }
  | _ => none }
def FnExactDrawnMatrixWrongFalsely : Prop := fnExactDrawnMatrixRow.holds Try.pinned (OpenSpec.ofChange fnExactDrawnMatrixWrong)

/-- 'laws.FnExactUnitMatrix': WHATEVER THE INPUT: true; the input reads as it did. -/
def fnExactUnitMatrixSpec : ChangeSpec := { name := "fnExactUnitMatrix", fn := fun _ => fun
  | [d] => { results := [.lit (.bool true)], args := [d] }
  | _ => none }
def fnExactUnitMatrixRow : OpenClaim := { program := "yteblbalciemkiaa", sum := "23f04b492ea59a3b6350d0ac4b858abcbc29afb27cdbafb73a9b4c08028666f5", func := "loop.example/g01327/laws.FnExactUnitMatrix", spec := "fnExactUnitMatrix", unfollowed := true, recurses := true, apart := false }
def FnExactUnitMatrixSaid : Prop := fnExactUnitMatrixRow.holds Try.pinned (OpenSpec.ofChange fnExactUnitMatrixSpec)

/-- ITS FALSE NEIGHBOUR: 'it returns false'. Refute it at one input. -/
def fnExactUnitMatrixWrong : ChangeSpec := { name := "fnExactUnitMatrix", fn := fun _ => fun
  | [d] => { results := [.lit (.bool false)], args := [d] }
  | _ => none }
def FnExactUnitMatrixWrongFalsely : Prop := fnExactUnitMatrixRow.holds Try.pinned (OpenSpec.ofChange fnExactUnitMatrixWrong)

/-- 'laws.FnExactSameChain': WHATEVER THE INPUT: true; the input reads as it did. -/
def fnExactSameChainSpec : ChangeSpec := { name := "fnExactSameChain", fn := fun _ => fun
  | [d1, d2] => { results := [.lit (.bool true)], args := [d1, d2] }
  | _ => none }
def fnExactSameChainRow : OpenClaim := { program := "yteblbalciemkiaa", sum := "23f04b492ea59a3b6350d0ac4b858abcbc29afb27cdbafb73a9b4c08028666f5", func := "loop.example/g01327/laws.FnExactSameChain", spec := "fnExactSameChain", inPlace := ["math.Float32bits", "math.Float64bits"], unfollowed := true, recurses := true, apart := false }
def FnExactSameChainSaid : Prop := fnExactSameChainRow.holds Try.pinned (OpenSpec.ofChange fnExactSameChainSpec)

/-- ITS FALSE NEIGHBOUR: 'it returns false'. Refute it at one input. -/
def fnExactSameChainWrong : ChangeSpec := { name := "fnExactSameChain", fn := fun _ => fun
  | [d1, d2] => { results := [.lit (.bool false)], args := [d1, d2] }
  | _ => none }
def FnExactSameChainWrongFalsely : Prop := fnExactSameChainRow.holds Try.pinned (OpenSpec.ofChange fnExactSameChainWrong)

/-- 'laws.FnExactSameMatrix': WHATEVER THE INPUT: true; the input reads as it did. -/
def fnExactSameMatrixSpec : ChangeSpec := { name := "fnExactSameMatrix", fn := fun _ => fun
  | [d1, d2] => { results := [.lit (.bool true)], args := [d1, d2] }
  | _ => none }
def fnExactSameMatrixRow : OpenClaim := { program := "yteblbalciemkiaa", sum := "23f04b492ea59a3b6350d0ac4b858abcbc29afb27cdbafb73a9b4c08028666f5", func := "loop.example/g01327/laws.FnExactSameMatrix", spec := "fnExactSameMatrix", inPlace := ["math.Float32bits", "math.Float64bits"], unfollowed := true, recurses := true, apart := false }
def FnExactSameMatrixSaid : Prop := fnExactSameMatrixRow.holds Try.pinned (OpenSpec.ofChange fnExactSameMatrixSpec)

/-- ITS FALSE NEIGHBOUR: 'it returns false'. Refute it at one input. -/
def fnExactSameMatrixWrong : ChangeSpec := { name := "fnExactSameMatrix", fn := fun _ => fun
  | [d1, d2] => { results := [.lit (.bool false)], args := [d1, d2] }
  | _ => none }
def FnExactSameMatrixWrongFalsely : Prop := fnExactSameMatrixRow.holds Try.pinned (OpenSpec.ofChange fnExactSameMatrixWrong)

/-- 'laws.FnExactValidMatrix': WHATEVER THE INPUT: true; the input reads as it did. -/
def fnExactValidMatrixSpec : ChangeSpec := { name := "fnExactValidMatrix", fn := fun _ => fun
  | [d] => { results := [.lit (.bool true)], args := [d] }
  | _ => none }
def fnExactValidMatrixRow : OpenClaim := { program := "yteblbalciemkiaa", sum := "23f04b492ea59a3b6350d0ac4b858abcbc29afb27cdbafb73a9b4c08028666f5", func := "loop.example/g01327/laws.FnExactValidMatrix", spec := "fnExactValidMatrix", inPlace := ["math.Float64bits", "math.Float64frombits"], unfollowed := true, recurses := true, apart := false }
def FnExactValidMatrixSaid : Prop := fnExactValidMatrixRow.holds Try.pinned (OpenSpec.ofChange fnExactValidMatrixSpec)

/-- ITS FALSE NEIGHBOUR: 'it returns false'. Refute it at one input. -/
def fnExactValidMatrixWrong : ChangeSpec := { name := "fnExactValidMatrix", fn := fun _ => fun
  | [d] => { results := [.lit (.bool false)], args := [d] }
  | _ => none }
def FnExactValidMatrixWrongFalsely : Prop := fnExactValidMatrixRow.holds Try.pinned (OpenSpec.ofChange fnExactValidMatrixWrong)

/-- 'laws.FnExactSameFactor': WHATEVER THE INPUT: true; the input reads as it did. -/
def fnExactSameFactorSpec : ChangeSpec := { name := "fnExactSameFactor", fn := fun _ => fun
  | [d1, d2] => { results := [.lit (.bool true)], args := [d1, d2] }
  | _ => none }
def fnExactSameFactorRow : OpenClaim := { program := "yteblbalciemkiaa", sum := "23f04b492ea59a3b6350d0ac4b858abcbc29afb27cdbafb73a9b4c08028666f5", func := "loop.example/g01327/laws.FnExactSameFactor", spec := "fnExactSameFactor", inPlace := ["math.Float32bits", "math.Float64bits"], unfollowed := true, recurses := true, apart := false }
def FnExactSameFactorSaid : Prop := fnExactSameFactorRow.holds Try.pinned (OpenSpec.ofChange fnExactSameFactorSpec)

/-- ITS FALSE NEIGHBOUR: 'it returns false'. Refute it at one input. -/
def fnExactSameFactorWrong : ChangeSpec := { name := "fnExactSameFactor", fn := fun _ => fun
  | [d1, d2] => { results := [.lit (.bool false)], args := [d1, d2] }
  | _ => none }
def FnExactSameFactorWrongFalsely : Prop := fnExactSameFactorRow.holds Try.pinned (OpenSpec.ofChange fnExactSameFactorWrong)

/-- 'laws.FnExactWholeNorm': WHATEVER THE INPUT: true; the input reads as it did. -/
def fnExactWholeNormSpec : ChangeSpec := { name := "fnExactWholeNorm", fn := fun _ => fun
  | [d] => { results := [.lit (.bool true)], args := [d] }
  | _ => none }
def fnExactWholeNormRow : OpenClaim := { program := "yteblbalciemkiaa", sum := "23f04b492ea59a3b6350d0ac4b858abcbc29afb27cdbafb73a9b4c08028666f5", func := "loop.example/g01327/laws.FnExactWholeNorm", spec := "fnExactWholeNorm", inPlace := ["math.sqrt", "math.Float64bits", "math.Float64frombits"], unfollowed := true, recurses := true, apart := false }
def FnExactWholeNormSaid : Prop := fnExactWholeNormRow.holds Try.pinned (OpenSpec.ofChange fnExactWholeNormSpec)

/-- ITS FALSE NEIGHBOUR: 'it returns false'. Refute it at one input. -/
def fnExactWholeNormWrong : ChangeSpec := { name := "fnExactWholeNorm", fn := fun _ => fun
  | [d] => { results := [.lit (.bool false)], args := [d] }
  | _ => none }
def FnExactWholeNormWrongFalsely : Prop := fnExactWholeNormRow.holds Try.pinned (OpenSpec.ofChange fnExactWholeNormWrong)

/- THE SECOND FORM. 'bulk': how many values and letters a reading holds, each counted each time it is reached (what is shared counts as often as it is met; a slice's spare places count too). A statement '..UptoSaid' is the law's where the arguments, and the package variables that the reading takes, are together of bulk at most 1048576: NARROWER than '..Said'. Prove '..Said' where nothing that the law and all that it calls make is longer than what came in: it says more and counts as full. Else prove '..UptoSaid'. A law counts once. -/
mutual
def uptoBulk {H : Type} : DataW H → Nat
  | .lit (.string bytes) => bytes.length + 1
  | .lit _ => 1
  | .nil => 1
  | .ptr d => uptoBulk d + 1
  | .slice elems spare => uptoBulkAll elems + uptoBulkAll spare + 1
  | .agg parts => uptoBulkAll parts + 1
  | .iface _ d => uptoBulk d + 1
  | .map entries => uptoBulkEntries entries + 1
  | .held _ => 1
def uptoBulkAll {H : Type} : List (DataW H) → Nat
  | [] => 0
  | d :: r => uptoBulk d + uptoBulkAll r
def uptoBulkEntries {H : Type} : List (Lit × DataW H) → Nat
  | [] => 0
  | x :: r => uptoBulkEntry x + uptoBulkEntries r
def uptoBulkEntry {H : Type} : Lit × DataW H → Nat
  | (.string bytes, d) => bytes.length + uptoBulk d + 1
  | (_, d) => uptoBulk d + 1
 end
def uptoSmall : (H : Type) → List (DataW H) → Bool := fun _ ds => decide (uptoBulkAll ds ≤ 1048576)
def OpenSpec.upto (s : _root_.Go.ChangeSpec) : _root_.Go.OpenSpec := { _root_.Go.OpenSpec.ofChange s with cond := some uptoSmall }

/-- 'laws.FnExactHilbertMatrix', WHERE WHAT IT READS IS OF BULK AT MOST 1048576: true; the input reads as it did. -/
def fnExactHilbertMatrixUptoRow : OpenClaim := { program := "yteblbalciemkiaa", sum := "23f04b492ea59a3b6350d0ac4b858abcbc29afb27cdbafb73a9b4c08028666f5", func := "loop.example/g01327/laws.FnExactHilbertMatrix", spec := "fnExactHilbertMatrix", unfollowed := true, recurses := true, apart := false, narrowed := true }
def FnExactHilbertMatrixUptoSaid : Prop := fnExactHilbertMatrixUptoRow.holds Try.pinned (OpenSpec.upto fnExactHilbertMatrixSpec)

/-- 'laws.FnExactDrawnMatrix', WHERE WHAT IT READS IS OF BULK AT MOST 1048576: true; the input reads as it did. -/
def fnExactDrawnMatrixUptoRow : OpenClaim := { program := "yteblbalciemkiaa", sum := "23f04b492ea59a3b6350d0ac4b858abcbc29afb27cdbafb73a9b4c08028666f5", func := "loop.example/g01327/laws.FnExactDrawnMatrix", spec := "fnExactDrawnMatrix", unfollowed := true, recurses := true, apart := false, narrowed := true }
def FnExactDrawnMatrixUptoSaid : Prop := fnExactDrawnMatrixUptoRow.holds Try.pinned (OpenSpec.upto fnExactDrawnMatrixSpec)

/-- 'laws.FnExactUnitMatrix', WHERE WHAT IT READS IS OF BULK AT MOST 1048576: true; the input reads as it did. -/
def fnExactUnitMatrixUptoRow : OpenClaim := { program := "yteblbalciemkiaa", sum := "23f04b492ea59a3b6350d0ac4b858abcbc29afb27cdbafb73a9b4c08028666f5", func := "loop.example/g01327/laws.FnExactUnitMatrix", spec := "fnExactUnitMatrix", unfollowed := true, recurses := true, apart := false, narrowed := true }
def FnExactUnitMatrixUptoSaid : Prop := fnExactUnitMatrixUptoRow.holds Try.pinned (OpenSpec.upto fnExactUnitMatrixSpec)

/-- 'laws.FnExactSameChain', WHERE WHAT IT READS IS OF BULK AT MOST 1048576: true; the input reads as it did. -/
def fnExactSameChainUptoRow : OpenClaim := { program := "yteblbalciemkiaa", sum := "23f04b492ea59a3b6350d0ac4b858abcbc29afb27cdbafb73a9b4c08028666f5", func := "loop.example/g01327/laws.FnExactSameChain", spec := "fnExactSameChain", inPlace := ["math.Float32bits", "math.Float64bits"], unfollowed := true, recurses := true, apart := false, narrowed := true }
def FnExactSameChainUptoSaid : Prop := fnExactSameChainUptoRow.holds Try.pinned (OpenSpec.upto fnExactSameChainSpec)

/-- 'laws.FnExactSameMatrix', WHERE WHAT IT READS IS OF BULK AT MOST 1048576: true; the input reads as it did. -/
def fnExactSameMatrixUptoRow : OpenClaim := { program := "yteblbalciemkiaa", sum := "23f04b492ea59a3b6350d0ac4b858abcbc29afb27cdbafb73a9b4c08028666f5", func := "loop.example/g01327/laws.FnExactSameMatrix", spec := "fnExactSameMatrix", inPlace := ["math.Float32bits", "math.Float64bits"], unfollowed := true, recurses := true, apart := false, narrowed := true }
def FnExactSameMatrixUptoSaid : Prop := fnExactSameMatrixUptoRow.holds Try.pinned (OpenSpec.upto fnExactSameMatrixSpec)

/-- 'laws.FnExactValidMatrix', WHERE WHAT IT READS IS OF BULK AT MOST 1048576: true; the input reads as it did. -/
def fnExactValidMatrixUptoRow : OpenClaim := { program := "yteblbalciemkiaa", sum := "23f04b492ea59a3b6350d0ac4b858abcbc29afb27cdbafb73a9b4c08028666f5", func := "loop.example/g01327/laws.FnExactValidMatrix", spec := "fnExactValidMatrix", inPlace := ["math.Float64bits", "math.Float64frombits"], unfollowed := true, recurses := true, apart := false, narrowed := true }
def FnExactValidMatrixUptoSaid : Prop := fnExactValidMatrixUptoRow.holds Try.pinned (OpenSpec.upto fnExactValidMatrixSpec)

/-- 'laws.FnExactSameFactor', WHERE WHAT IT READS IS OF BULK AT MOST 1048576: true; the input reads as it did. -/
def fnExactSameFactorUptoRow : OpenClaim := { program := "yteblbalciemkiaa", sum := "23f04b492ea59a3b6350d0ac4b858abcbc29afb27cdbafb73a9b4c08028666f5", func := "loop.example/g01327/laws.FnExactSameFactor", spec := "fnExactSameFactor", inPlace := ["math.Float32bits", "math.Float64bits"], unfollowed := true, recurses := true, apart := false, narrowed := true }
def FnExactSameFactorUptoSaid : Prop := fnExactSameFactorUptoRow.holds Try.pinned (OpenSpec.upto fnExactSameFactorSpec)

/-- 'laws.FnExactWholeNorm', WHERE WHAT IT READS IS OF BULK AT MOST 1048576: true; the input reads as it did. -/
def fnExactWholeNormUptoRow : OpenClaim := { program := "yteblbalciemkiaa", sum := "23f04b492ea59a3b6350d0ac4b858abcbc29afb27cdbafb73a9b4c08028666f5", func := "loop.example/g01327/laws.FnExactWholeNorm", spec := "fnExactWholeNorm", inPlace := ["math.sqrt", "math.Float64bits", "math.Float64frombits"], unfollowed := true, recurses := true, apart := false, narrowed := true }
def FnExactWholeNormUptoSaid : Prop := fnExactWholeNormUptoRow.holds Try.pinned (OpenSpec.upto fnExactWholeNormSpec)

end Rows
end Go.Proofs.Yteblbalciemkiaa
