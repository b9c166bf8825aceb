/-
  No cell of these rows narrows 'for every input' (looked for: loops, veiled, ifaces, maps, wideKeys, modest, calm, conditions, laid).
  DERIVED. THE GIVEN ROWS OF THIS SEAT. 7 by the template 'for every input the law returns true; each argument reads behind the call as it read before'; 0 by the template 'total and deterministic' (their statements: YtailiaipljfnpaaTotals.lean).
  GIVEN WITH THE SEED: the statements are not yours to turn. If you find one false, say at which input.
  Laid BY PROGRAM, IN A SANDBOX (cutbox-rows.mjs): the forced cells as the released guide's own fill.sh prints them over the translation cf041de035511fdb… (all of the seat's roots in one cut). By AI agents, Wed Nov 11 2026. No macro, syntax, notation, axiom, sorry.
-/
import Derived.Test.YtailiaipljfnpaaChecked
import GoSem.Claim
import GoSem.ClaimJoined
import GoSem.ClaimMapViews
import Derived.JoinedTies
import Derived.KernelRfl
namespace Go.Proofs.Ytailiaipljfnpaa
/- THE CELL 'sum', in the pinned program and in every row, IS THE sha256 OF THE DUMP (.gsa) THAT YtailiaipljfnpaaProg.lean LOADS. Nothing in Lean hashes anything: it is a label: what it is worth is what the hold of that sum in a sandbox is worth. -/
noncomputable def Try.pinned : Pinned := { name := "ytailiaipljfnpaa", sum := "cf041de035511fdbe45fc5f51f991eac6f5a5b5540a91f25b1754a9fc468415d", checked := Try.checked }
namespace Rows
def none {H : Type} : Left H := { results := [], args := [] }

/-- 'laws.FnExactSumNumbers': WHATEVER THE INPUT: true; the input reads as it did. -/
def fnExactSumNumbersSpec : ChangeSpec := { name := "fnExactSumNumbers", fn := fun _ => fun
  | [d] => { results := [.lit (.bool true)], args := [d] }
  | _ => none }
def fnExactSumNumbersRow : OpenClaim := { program := "ytailiaipljfnpaa", sum := "cf041de035511fdbe45fc5f51f991eac6f5a5b5540a91f25b1754a9fc468415d", func := "loop.example/g01327/laws.FnExactSumNumbers", spec := "fnExactSumNumbers", apart := false }
def FnExactSumNumbersSaid : Prop := fnExactSumNumbersRow.holds Try.pinned (OpenSpec.ofChange fnExactSumNumbersSpec)

/-- ITS FALSE NEIGHBOUR: 'it returns false'. Refute it at one input. -/
def fnExactSumNumbersWrong : ChangeSpec := { name := "fnExactSumNumbers", fn := fun _ => fun
  | [d] => { results := [.lit (.bool false)], args := [d] }
  | _ => none }
def FnExactSumNumbersWrongFalsely : Prop := fnExactSumNumbersRow.holds Try.pinned (OpenSpec.ofChange fnExactSumNumbersWrong)

/-- 'laws.FnExactDotNumbers': WHATEVER THE INPUT: true; the input reads as it did. -/
def fnExactDotNumbersSpec : ChangeSpec := { name := "fnExactDotNumbers", fn := fun _ => fun
  | [d1, d2] => { results := [.lit (.bool true)], args := [d1, d2] }
  | _ => none }
def fnExactDotNumbersRow : OpenClaim := { program := "ytailiaipljfnpaa", sum := "cf041de035511fdbe45fc5f51f991eac6f5a5b5540a91f25b1754a9fc468415d", func := "loop.example/g01327/laws.FnExactDotNumbers", spec := "fnExactDotNumbers", apart := false }
def FnExactDotNumbersSaid : Prop := fnExactDotNumbersRow.holds Try.pinned (OpenSpec.ofChange fnExactDotNumbersSpec)

/-- ITS FALSE NEIGHBOUR: 'it returns false'. Refute it at one input. -/
def fnExactDotNumbersWrong : ChangeSpec := { name := "fnExactDotNumbers", fn := fun _ => fun
  | [d1, d2] => { results := [.lit (.bool false)], args := [d1, d2] }
  | _ => none }
def FnExactDotNumbersWrongFalsely : Prop := fnExactDotNumbersRow.holds Try.pinned (OpenSpec.ofChange fnExactDotNumbersWrong)

/-- 'laws.FnExactIsVector': WHATEVER THE INPUT: true; the input reads as it did. -/
def fnExactIsVectorSpec : ChangeSpec := { name := "fnExactIsVector", fn := fun _ => fun
  | [d] => { results := [.lit (.bool true)], args := [d] }
  | _ => none }
def fnExactIsVectorRow : OpenClaim := { program := "ytailiaipljfnpaa", sum := "cf041de035511fdbe45fc5f51f991eac6f5a5b5540a91f25b1754a9fc468415d", func := "loop.example/g01327/laws.FnExactIsVector", spec := "fnExactIsVector", inPlace := ["math.Float64bits", "math.Float64frombits"], unfollowed := true, recurses := true, apart := false }
def FnExactIsVectorSaid : Prop := fnExactIsVectorRow.holds Try.pinned (OpenSpec.ofChange fnExactIsVectorSpec)

/-- ITS FALSE NEIGHBOUR: 'it returns false'. Refute it at one input. -/
def fnExactIsVectorWrong : ChangeSpec := { name := "fnExactIsVector", fn := fun _ => fun
  | [d] => { results := [.lit (.bool false)], args := [d] }
  | _ => none }
def FnExactIsVectorWrongFalsely : Prop := fnExactIsVectorRow.holds Try.pinned (OpenSpec.ofChange fnExactIsVectorWrong)

/-- 'laws.FnExactCarrySum': WHATEVER THE INPUT: true; the input reads as it did. -/
def fnExactCarrySumSpec : ChangeSpec := { name := "fnExactCarrySum", fn := fun _ => fun
  | [d] => { results := [.lit (.bool true)], args := [d] }
  | _ => none }
def fnExactCarrySumRow : OpenClaim := { program := "ytailiaipljfnpaa", sum := "cf041de035511fdbe45fc5f51f991eac6f5a5b5540a91f25b1754a9fc468415d", func := "loop.example/g01327/laws.FnExactCarrySum", spec := "fnExactCarrySum", inPlace := ["math.Float64bits", "math.Float64frombits"], unfollowed := true, recurses := true, apart := false }
def FnExactCarrySumSaid : Prop := fnExactCarrySumRow.holds Try.pinned (OpenSpec.ofChange fnExactCarrySumSpec)

/-- ITS FALSE NEIGHBOUR: 'it returns false'. Refute it at one input. -/
def fnExactCarrySumWrong : ChangeSpec := { name := "fnExactCarrySum", fn := fun _ => fun
  | [d] => { results := [.lit (.bool false)], args := [d] }
  | _ => none }
def FnExactCarrySumWrongFalsely : Prop := fnExactCarrySumRow.holds Try.pinned (OpenSpec.ofChange fnExactCarrySumWrong)

/-- 'laws.FnExactLongDot': WHATEVER THE INPUT: true; the input reads as it did. -/
def fnExactLongDotSpec : ChangeSpec := { name := "fnExactLongDot", fn := fun _ => fun
  | [d1, d2] => { results := [.lit (.bool true)], args := [d1, d2] }
  | _ => none }
def fnExactLongDotRow : OpenClaim := { program := "ytailiaipljfnpaa", sum := "cf041de035511fdbe45fc5f51f991eac6f5a5b5540a91f25b1754a9fc468415d", func := "loop.example/g01327/laws.FnExactLongDot", spec := "fnExactLongDot", inPlace := ["math.Float64bits", "math.Float64frombits"], unfollowed := true, recurses := true, apart := false }
def FnExactLongDotSaid : Prop := fnExactLongDotRow.holds Try.pinned (OpenSpec.ofChange fnExactLongDotSpec)

/-- ITS FALSE NEIGHBOUR: 'it returns false'. Refute it at one input. -/
def fnExactLongDotWrong : ChangeSpec := { name := "fnExactLongDot", fn := fun _ => fun
  | [d1, d2] => { results := [.lit (.bool false)], args := [d1, d2] }
  | _ => none }
def FnExactLongDotWrongFalsely : Prop := fnExactLongDotRow.holds Try.pinned (OpenSpec.ofChange fnExactLongDotWrong)

/-- 'laws.FnExactDotVectors': WHATEVER THE INPUT: true; the input reads as it did. -/
def fnExactDotVectorsSpec : ChangeSpec := { name := "fnExactDotVectors", fn := fun _ => fun
  | [d1, d2] => { results := [.lit (.bool true)], args := [d1, d2] }
  | _ => none }
def fnExactDotVectorsRow : OpenClaim := { program := "ytailiaipljfnpaa", sum := "cf041de035511fdbe45fc5f51f991eac6f5a5b5540a91f25b1754a9fc468415d", func := "loop.example/g01327/laws.FnExactDotVectors", spec := "fnExactDotVectors", inPlace := ["math.Float64bits", "math.Float64frombits"], unfollowed := true, recurses := true, apart := false }
def FnExactDotVectorsSaid : Prop := fnExactDotVectorsRow.holds Try.pinned (OpenSpec.ofChange fnExactDotVectorsSpec)

/-- ITS FALSE NEIGHBOUR: 'it returns false'. Refute it at one input. -/
def fnExactDotVectorsWrong : ChangeSpec := { name := "fnExactDotVectors", fn := fun _ => fun
  | [d1, d2] => { results := [.lit (.bool false)], args := [d1, d2] }
  | _ => none }
def FnExactDotVectorsWrongFalsely : Prop := fnExactDotVectorsRow.holds Try.pinned (OpenSpec.ofChange fnExactDotVectorsWrong)

/-- 'laws.FnExactRankOfValues': WHATEVER THE INPUT: true; the input reads as it did. -/
def fnExactRankOfValuesSpec : ChangeSpec := { name := "fnExactRankOfValues", fn := fun _ => fun
  | [d1, d2] => { results := [.lit (.bool true)], args := [d1, d2] }
  | _ => none }
def fnExactRankOfValuesRow : OpenClaim := { program := "ytailiaipljfnpaa", sum := "cf041de035511fdbe45fc5f51f991eac6f5a5b5540a91f25b1754a9fc468415d", func := "loop.example/g01327/laws.FnExactRankOfValues", spec := "fnExactRankOfValues", inPlace := ["math.Float64bits", "math.Float64frombits"], unfollowed := true, recurses := true, apart := false }
def FnExactRankOfValuesSaid : Prop := fnExactRankOfValuesRow.holds Try.pinned (OpenSpec.ofChange fnExactRankOfValuesSpec)

/-- ITS FALSE NEIGHBOUR: 'it returns false'. Refute it at one input. -/
def fnExactRankOfValuesWrong : ChangeSpec := { name := "fnExactRankOfValues", fn := fun _ => fun
  | [d1, d2] => { results := [.lit (.bool false)], args := [d1, d2] }
  | _ => none }
def FnExactRankOfValuesWrongFalsely : Prop := fnExactRankOfValuesRow.holds Try.pinned (OpenSpec.ofChange fnExactRankOfValuesWrong)

/- THE SECOND FORM. 'bulk': how many values and letters a reading holds, each counted each time it is reached (what is shared counts as often as it is met; a slice's spare places count too). A statement '..UptoSaid' is the law's where the arguments, and the package variables that the reading takes, are together of bulk at most 1048576: NARROWER than '..Said'. Prove '..Said' where nothing that the law and all that it calls make is longer than what came in: it says more and counts as full. Else prove '..UptoSaid'. A law counts once. -/
mutual
def uptoBulk {H : Type} : DataW H → Nat
  | .lit (.string bytes) => bytes.length + 1
  | .lit _ => 1
  | .nil => 1
  | .ptr d => uptoBulk d + 1
  | .slice elems spare => uptoBulkAll elems + uptoBulkAll spare + 1
  | .agg parts => uptoBulkAll parts + 1
  | .iface _ d => uptoBulk d + 1
  | .map entries => uptoBulkEntries entries + 1
  | .held _ => 1
def uptoBulkAll {H : Type} : List (DataW H) → Nat
  | [] => 0
  | d :: r => uptoBulk d + uptoBulkAll r
def uptoBulkEntries {H : Type} : List (Lit × DataW H) → Nat
  | [] => 0
  | x :: r => uptoBulkEntry x + uptoBulkEntries r
def uptoBulkEntry {H : Type} : Lit × DataW H → Nat
  | (.string bytes, d) => bytes.length + uptoBulk d + 1
  | (_, d) => uptoBulk d + 1
 end
def uptoSmall : (H : Type) → List (DataW H) → Bool := fun _ ds => decide (uptoBulkAll ds ≤ 1048576)
def OpenSpec.upto (s : _root_.Go.ChangeSpec) : _root_.Go.OpenSpec := { _root_.Go.OpenSpec.ofChange s with cond := some uptoSmall }

/-- 'laws.FnExactSumNumbers', WHERE WHAT IT READS IS OF BULK AT MOST 1048576: true; the input reads as it did. -/
def fnExactSumNumbersUptoRow : OpenClaim := { program := "ytailiaipljfnpaa", sum := "cf041de035511fdbe45fc5f51f991eac6f5a5b5540a91f25b1754a9fc468415d", func := "loop.example/g01327/laws.FnExactSumNumbers", spec := "fnExactSumNumbers", apart := false, narrowed := true }
def FnExactSumNumbersUptoSaid : Prop := fnExactSumNumbersUptoRow.holds Try.pinned (OpenSpec.upto fnExactSumNumbersSpec)

/-- 'laws.FnExactDotNumbers', WHERE WHAT IT READS IS OF BULK AT MOST 1048576: true; the input reads as it did. -/
def fnExactDotNumbersUptoRow : OpenClaim := { program := "ytailiaipljfnpaa", sum := "cf041de035511fdbe45fc5f51f991eac6f5a5b5540a91f25b1754a9fc468415d", func := "loop.example/g01327/laws.FnExactDotNumbers", spec := "fnExactDotNumbers", apart := false, narrowed := true }
def FnExactDotNumbersUptoSaid : Prop := fnExactDotNumbersUptoRow.holds Try.pinned (OpenSpec.upto fnExactDotNumbersSpec)

/-- 'laws.FnExactIsVector', WHERE WHAT IT READS IS OF BULK AT MOST 1048576: true; the input reads as it did. -/
def fnExactIsVectorUptoRow : OpenClaim := { program := "ytailiaipljfnpaa", sum := "cf041de035511fdbe45fc5f51f991eac6f5a5b5540a91f25b1754a9fc468415d", func := "loop.example/g01327/laws.FnExactIsVector", spec := "fnExactIsVector", inPlace := ["math.Float64bits", "math.Float64frombits"], unfollowed := true, recurses := true, apart := false, narrowed := true }
def FnExactIsVectorUptoSaid : Prop := fnExactIsVectorUptoRow.holds Try.pinned (OpenSpec.upto fnExactIsVectorSpec)

/-- 'laws.FnExactCarrySum', WHERE WHAT IT READS IS OF BULK AT MOST 1048576: true; the input reads as it did. -/
def fnExactCarrySumUptoRow : OpenClaim := { program := "ytailiaipljfnpaa", sum := "cf041de035511fdbe45fc5f51f991eac6f5a5b5540a91f25b1754a9fc468415d", func := "loop.example/g01327/laws.FnExactCarrySum", spec := "fnExactCarrySum", inPlace := ["math.Float64bits", "math.Float64frombits"], unfollowed := true, recurses := true, apart := false, narrowed := true }
def FnExactCarrySumUptoSaid : Prop := fnExactCarrySumUptoRow.holds Try.pinned (OpenSpec.upto fnExactCarrySumSpec)

/-- 'laws.FnExactLongDot', WHERE WHAT IT READS IS OF BULK AT MOST 1048576: true; the input reads as it did. -/
def fnExactLongDotUptoRow : OpenClaim := { program := "ytailiaipljfnpaa", sum := "cf041de035511fdbe45fc5f51f991eac6f5a5b5540a91f25b1754a9fc468415d", func := "loop.example/g01327/laws.FnExactLongDot", spec := "fnExactLongDot", inPlace := ["math.Float64bits", "math.Float64frombits"], unfollowed := true, recurses := true, apart := false, narrowed := true }
def FnExactLongDotUptoSaid : Prop := fnExactLongDotUptoRow.holds Try.pinned (OpenSpec.upto fnExactLongDotSpec)

/-- 'laws.FnExactDotVectors', WHERE WHAT IT READS IS OF BULK AT MOST 1048576: true; the input reads as it did. -/
def fnExactDotVectorsUptoRow : OpenClaim := { program := "ytailiaipljfnpaa", sum := "cf041de035511fdbe45fc5f51f991eac6f5a5b5540a91f25b1754a9fc468415d", func := "loop.example/g01327/laws.FnExactDotVectors", spec := "fnExactDotVectors", inPlace := ["math.Float64bits", "math.Float64frombits"], unfollowed := true, recurses := true, apart := false, narrowed := true }
def FnExactDotVectorsUptoSaid : Prop := fnExactDotVectorsUptoRow.holds Try.pinned (OpenSpec.upto fnExactDotVectorsSpec)

/-- 'laws.FnExactRankOfValues', WHERE WHAT IT READS IS OF BULK AT MOST 1048576: true; the input reads as it did. -/
def fnExactRankOfValuesUptoRow : OpenClaim := { program := "ytailiaipljfnpaa", sum := "cf041de035511fdbe45fc5f51f991eac6f5a5b5540a91f25b1754a9fc468415d", func := "loop.example/g01327/laws.FnExactRankOfValues", spec := "fnExactRankOfValues", inPlace := ["math.Float64bits", "math.Float64frombits"], unfollowed := true, recurses := true, apart := false, narrowed := true }
def FnExactRankOfValuesUptoSaid : Prop := fnExactRankOfValuesUptoRow.holds Try.pinned (OpenSpec.upto fnExactRankOfValuesSpec)

end Rows
end Go.Proofs.Ytailiaipljfnpaa
