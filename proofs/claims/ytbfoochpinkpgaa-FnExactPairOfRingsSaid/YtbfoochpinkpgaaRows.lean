/-
  No cell of these rows narrows 'for every input' (looked for: loops, veiled, ifaces, maps, wideKeys, modest, calm, conditions, laid).
  DERIVED. THE GIVEN ROWS OF THIS SEAT. 14 by the template 'for every input the law returns true; each argument reads behind the call as it read before'; 0 by the template 'total and deterministic' (their statements: YtbfoochpinkpgaaTotals.lean).
  GIVEN WITH THE SEED: the statements are not yours to turn. If you find one false, say at which input.
  Laid BY PROGRAM, IN A SANDBOX (cutbox-rows.mjs): the forced cells as the released guide's own fill.sh prints them over the translation cfcccced6d486763… (all of the seat's roots in one cut). By AI agents, Wed Nov 11 2026. No macro, syntax, notation, axiom, sorry.
-/
import Derived.Test.YtbfoochpinkpgaaChecked
import GoSem.Claim
import GoSem.ClaimJoined
import GoSem.ClaimMapViews
import Derived.JoinedTies
import Derived.KernelRfl
namespace Go.Proofs.Ytbfoochpinkpgaa
/- THE CELL 'sum', in the pinned program and in every row, IS THE sha256 OF THE DUMP (.gsa) THAT YtbfoochpinkpgaaProg.lean LOADS. Nothing in Lean hashes anything: it is a label: what it is worth is what the hold of that sum in a sandbox is worth. -/
noncomputable def Try.pinned : Pinned := { name := "ytbfoochpinkpgaa", sum := "cfcccced6d4867633c8d9af3fd457f4bf1104d32ee4cd3d60f591ff7286f1e35", checked := Try.checked }
namespace Rows
def none {H : Type} : Left H := { results := [], args := [] }

/-- 'laws.FnExactStrongestOf': WHATEVER THE INPUT: true; the input reads as it did. -/
def fnExactStrongestOfSpec : ChangeSpec := { name := "fnExactStrongestOf", fn := fun _ => fun
  | [d] => { results := [.lit (.bool true)], args := [d] }
  | _ => none }
def fnExactStrongestOfRow : OpenClaim := { program := "ytbfoochpinkpgaa", sum := "cfcccced6d4867633c8d9af3fd457f4bf1104d32ee4cd3d60f591ff7286f1e35", func := "loop.example/g01237/laws.FnExactStrongestOf", spec := "fnExactStrongestOf", inPlace := ["math.sqrt"], unfollowed := true, recurses := true, apart := false }
def FnExactStrongestOfSaid : Prop := fnExactStrongestOfRow.holds Try.pinned (OpenSpec.ofChange fnExactStrongestOfSpec)

/-- ITS FALSE NEIGHBOUR: 'it returns false'. Refute it at one input. -/
def fnExactStrongestOfWrong : ChangeSpec := { name := "fnExactStrongestOf", fn := fun _ => fun
  | [d] => { results := [.lit (.bool false)], args := [d] }
  | _ => none }
def FnExactStrongestOfWrongFalsely : Prop := fnExactStrongestOfRow.holds Try.pinned (OpenSpec.ofChange fnExactStrongestOfWrong)

/-- 'laws.FnExactUnevenOf': WHATEVER THE INPUT: true; the input reads as it did. -/
def fnExactUnevenOfSpec : ChangeSpec := { name := "fnExactUnevenOf", fn := fun _ => fun
  | [d] => { results := [.lit (.bool true)], args := [d] }
  | _ => none }
def fnExactUnevenOfRow : OpenClaim := { program := "ytbfoochpinkpgaa", sum := "cfcccced6d4867633c8d9af3fd457f4bf1104d32ee4cd3d60f591ff7286f1e35", func := "loop.example/g01237/laws.FnExactUnevenOf", spec := "fnExactUnevenOf", inPlace := ["math.sqrt"], unfollowed := true, recurses := true, apart := false }
def FnExactUnevenOfSaid : Prop := fnExactUnevenOfRow.holds Try.pinned (OpenSpec.ofChange fnExactUnevenOfSpec)

/-- ITS FALSE NEIGHBOUR: 'it returns false'. Refute it at one input. -/
def fnExactUnevenOfWrong : ChangeSpec := { name := "fnExactUnevenOf", fn := fun _ => fun
  | [d] => { results := [.lit (.bool false)], args := [d] }
  | _ => none }
def FnExactUnevenOfWrongFalsely : Prop := fnExactUnevenOfRow.holds Try.pinned (OpenSpec.ofChange fnExactUnevenOfWrong)

/-- 'laws.FnExactHelixWire': WHATEVER THE INPUT: true; the input reads as it did. -/
def fnExactHelixWireSpec : ChangeSpec := { name := "fnExactHelixWire", fn := fun _ => fun
  | [d1, d2, d3, d4, d5] => { results := [.lit (.bool true)], args := [d1, d2, d3, d4, d5] }
  | _ => none }
def fnExactHelixWireRow : OpenClaim := { program := "ytbfoochpinkpgaa", sum := "cfcccced6d4867633c8d9af3fd457f4bf1104d32ee4cd3d60f591ff7286f1e35", func := "loop.example/g01237/laws.FnExactHelixWire", spec := "fnExactHelixWire", inPlace := ["math.Float64frombits", "math.Float64bits"], unfollowed := true, recurses := true, apart := false }
def FnExactHelixWireSaid : Prop := fnExactHelixWireRow.holds Try.pinned (OpenSpec.ofChange fnExactHelixWireSpec)

/-- ITS FALSE NEIGHBOUR: 'it returns false'. Refute it at one input. -/
def fnExactHelixWireWrong : ChangeSpec := { name := "fnExactHelixWire", fn := fun _ => fun
  | [d1, d2, d3, d4, d5] => { results := [.lit (.bool false)], args := [d1, d2, d3, d4, d5] }
  | _ => none }
def FnExactHelixWireWrongFalsely : Prop := fnExactHelixWireRow.holds Try.pinned (OpenSpec.ofChange fnExactHelixWireWrong)

/-- 'laws.FnExactRingWire': WHATEVER THE INPUT: true; the input reads as it did. -/
def fnExactRingWireSpec : ChangeSpec := { name := "fnExactRingWire", fn := fun _ => fun
  | [d1, d2, d3, d4] => { results := [.lit (.bool true)], args := [d1, d2, d3, d4] }
  | _ => none }
def fnExactRingWireRow : OpenClaim := { program := "ytbfoochpinkpgaa", sum := "cfcccced6d4867633c8d9af3fd457f4bf1104d32ee4cd3d60f591ff7286f1e35", func := "loop.example/g01237/laws.FnExactRingWire", spec := "fnExactRingWire", inPlace := ["math.Float64frombits", "math.Float64bits"], unfollowed := true, recurses := true, apart := false }
def FnExactRingWireSaid : Prop := fnExactRingWireRow.holds Try.pinned (OpenSpec.ofChange fnExactRingWireSpec)

/-- ITS FALSE NEIGHBOUR: 'it returns false'. Refute it at one input. -/
def fnExactRingWireWrong : ChangeSpec := { name := "fnExactRingWire", fn := fun _ => fun
  | [d1, d2, d3, d4] => { results := [.lit (.bool false)], args := [d1, d2, d3, d4] }
  | _ => none }
def FnExactRingWireWrongFalsely : Prop := fnExactRingWireRow.holds Try.pinned (OpenSpec.ofChange fnExactRingWireWrong)

/-- 'laws.FnExactLengthOf': WHATEVER THE INPUT: true; the input reads as it did. -/
def fnExactLengthOfSpec : ChangeSpec := { name := "fnExactLengthOf", fn := fun _ => fun
  | [d] => { results := [.lit (.bool true)], args := [d] }
  | _ => none }
def fnExactLengthOfRow : OpenClaim := { program := "ytbfoochpinkpgaa", sum := "cfcccced6d4867633c8d9af3fd457f4bf1104d32ee4cd3d60f591ff7286f1e35", func := "loop.example/g01237/laws.FnExactLengthOf", spec := "fnExactLengthOf", inPlace := ["math.sqrt"], unfollowed := true, recurses := true, apart := false }
def FnExactLengthOfSaid : Prop := fnExactLengthOfRow.holds Try.pinned (OpenSpec.ofChange fnExactLengthOfSpec)

/-- ITS FALSE NEIGHBOUR: 'it returns false'. Refute it at one input. -/
def fnExactLengthOfWrong : ChangeSpec := { name := "fnExactLengthOf", fn := fun _ => fun
  | [d] => { results := [.lit (.bool false)], args := [d] }
  | _ => none }
def FnExactLengthOfWrongFalsely : Prop := fnExactLengthOfRow.holds Try.pinned (OpenSpec.ofChange fnExactLengthOfWrong)

/-- 'laws.FnExactSpinWire': WHATEVER THE INPUT: true; the input reads as it did. -/
def fnExactSpinWireSpec : ChangeSpec := { name := "fnExactSpinWire", fn := fun _ => fun
  | [d1, d2] => { results := [.lit (.bool true)], args := [d1, d2] }
  | _ => none }
def fnExactSpinWireRow : OpenClaim := { program := "ytbfoochpinkpgaa", sum := "cfcccced6d4867633c8d9af3fd457f4bf1104d32ee4cd3d60f591ff7286f1e35", func := "loop.example/g01237/laws.FnExactSpinWire", spec := "fnExactSpinWire", inPlace := ["math.Float64frombits", "math.Float64bits"], unfollowed := true, recurses := true, apart := false }
def FnExactSpinWireSaid : Prop := fnExactSpinWireRow.holds Try.pinned (OpenSpec.ofChange fnExactSpinWireSpec)

/-- ITS FALSE NEIGHBOUR: 'it returns false'. Refute it at one input. -/
def fnExactSpinWireWrong : ChangeSpec := { name := "fnExactSpinWire", fn := fun _ => fun
  | [d1, d2] => { results := [.lit (.bool false)], args := [d1, d2] }
  | _ => none }
def FnExactSpinWireWrongFalsely : Prop := fnExactSpinWireRow.holds Try.pinned (OpenSpec.ofChange fnExactSpinWireWrong)

/-- 'laws.FnExactPairOfRings': WHATEVER THE INPUT: true; the input reads as it did. -/
def fnExactPairOfRingsSpec : ChangeSpec := { name := "fnExactPairOfRings", fn := fun _ => fun
  | [d1, d2, d3, d4] => { results := [.lit (.bool true)], args := [d1, d2, d3, d4] }
  | _ => none }
def fnExactPairOfRingsRow : OpenClaim := { program := "ytbfoochpinkpgaa", sum := "cfcccced6d4867633c8d9af3fd457f4bf1104d32ee4cd3d60f591ff7286f1e35", func := "loop.example/g01237/laws.FnExactPairOfRings", spec := "fnExactPairOfRings", inPlace := ["math.Float64frombits", "math.Float64bits"], unfollowed := true, recurses := true, apart := false }
def FnExactPairOfRingsSaid : Prop := fnExactPairOfRingsRow.holds Try.pinned (OpenSpec.ofChange fnExactPairOfRingsSpec)

/-- ITS FALSE NEIGHBOUR: 'it returns false'. Refute it at one input. -/
def fnExactPairOfRingsWrong : ChangeSpec := { name := "fnExactPairOfRings", fn := fun _ => fun
  | [d1, d2, d3, d4] => { results := [.lit (.bool false)], args := [d1, d2, d3, d4] }
  | _ => none }
def FnExactPairOfRingsWrongFalsely : Prop := fnExactPairOfRingsRow.holds Try.pinned (OpenSpec.ofChange fnExactPairOfRingsWrong)

/-- 'laws.FnExactFieldOf': WHATEVER THE INPUT: true; the input reads as it did. -/
def fnExactFieldOfSpec : ChangeSpec := { name := "fnExactFieldOf", fn := fun _ => fun
  | [d1, d2] => { results := [.lit (.bool true)], args := [d1, d2] }
  | _ => none }
def fnExactFieldOfRow : OpenClaim := { program := "ytbfoochpinkpgaa", sum := "cfcccced6d4867633c8d9af3fd457f4bf1104d32ee4cd3d60f591ff7286f1e35", func := "loop.example/g01237/laws.FnExactFieldOf", spec := "fnExactFieldOf", inPlace := ["math.sqrt"], unfollowed := true, recurses := true, apart := false }
def FnExactFieldOfSaid : Prop := fnExactFieldOfRow.holds Try.pinned (OpenSpec.ofChange fnExactFieldOfSpec)

/-- ITS FALSE NEIGHBOUR: 'it returns false'. Refute it at one input. -/
def fnExactFieldOfWrong : ChangeSpec := { name := "fnExactFieldOf", fn := fun _ => fun
  | [d1, d2] => { results := [.lit (.bool false)], args := [d1, d2] }
  | _ => none }
def FnExactFieldOfWrongFalsely : Prop := fnExactFieldOfRow.holds Try.pinned (OpenSpec.ofChange fnExactFieldOfWrong)

/-- 'laws.FnExactForceBetween': WHATEVER THE INPUT: true; the input reads as it did. -/
def fnExactForceBetweenSpec : ChangeSpec := { name := "fnExactForceBetween", fn := fun _ => fun
  | [d1, d2, d3] => { results := [.lit (.bool true)], args := [d1, d2, d3] }
  | _ => none }
def fnExactForceBetweenRow : OpenClaim := { program := "ytbfoochpinkpgaa", sum := "cfcccced6d4867633c8d9af3fd457f4bf1104d32ee4cd3d60f591ff7286f1e35", func := "loop.example/g01237/laws.FnExactForceBetween", spec := "fnExactForceBetween", inPlace := ["math.sqrt"], unfollowed := true, recurses := true, apart := false }
def FnExactForceBetweenSaid : Prop := fnExactForceBetweenRow.holds Try.pinned (OpenSpec.ofChange fnExactForceBetweenSpec)

/-- ITS FALSE NEIGHBOUR: 'it returns false'. Refute it at one input. -/
def fnExactForceBetweenWrong : ChangeSpec := { name := "fnExactForceBetween", fn := fun _ => fun
  | [d1, d2, d3] => { results := [.lit (.bool false)], args := [d1, d2, d3] }
  | _ => none }
def FnExactForceBetweenWrongFalsely : Prop := fnExactForceBetweenRow.holds Try.pinned (OpenSpec.ofChange fnExactForceBetweenWrong)

/-- 'laws.FnExactPairSum': WHATEVER THE INPUT: true; the input reads as it did. -/
def fnExactPairSumSpec : ChangeSpec := { name := "fnExactPairSum", fn := fun _ => fun
  | [d1, d2, d3, d4] => { results := [.lit (.bool true)], args := [d1, d2, d3, d4] }
  | _ => none }
def fnExactPairSumRow : OpenClaim := { program := "ytbfoochpinkpgaa", sum := "cfcccced6d4867633c8d9af3fd457f4bf1104d32ee4cd3d60f591ff7286f1e35", func := "loop.example/g01237/laws.FnExactPairSum", spec := "fnExactPairSum", inPlace := ["math.sqrt"], unfollowed := true, recurses := true, apart := false }
def FnExactPairSumSaid : Prop := fnExactPairSumRow.holds Try.pinned (OpenSpec.ofChange fnExactPairSumSpec)

/-- ITS FALSE NEIGHBOUR: 'it returns false'. Refute it at one input. -/
def fnExactPairSumWrong : ChangeSpec := { name := "fnExactPairSum", fn := fun _ => fun
  | [d1, d2, d3, d4] => { results := [.lit (.bool false)], args := [d1, d2, d3, d4] }
  | _ => none }
def FnExactPairSumWrongFalsely : Prop := fnExactPairSumRow.holds Try.pinned (OpenSpec.ofChange fnExactPairSumWrong)

/-- 'laws.FnExactFieldOfAll': WHATEVER THE INPUT: true; the input reads as it did. -/
def fnExactFieldOfAllSpec : ChangeSpec := { name := "fnExactFieldOfAll", fn := fun _ => fun
  | [d1, d2] => { results := [.lit (.bool true)], args := [d1, d2] }
  | _ => none }
def fnExactFieldOfAllRow : OpenClaim := { program := "ytbfoochpinkpgaa", sum := "cfcccced6d4867633c8d9af3fd457f4bf1104d32ee4cd3d60f591ff7286f1e35", func := "loop.example/g01237/laws.FnExactFieldOfAll", spec := "fnExactFieldOfAll", inPlace := ["math.sqrt"], unfollowed := true, recurses := true, apart := false }
def FnExactFieldOfAllSaid : Prop := fnExactFieldOfAllRow.holds Try.pinned (OpenSpec.ofChange fnExactFieldOfAllSpec)

/-- ITS FALSE NEIGHBOUR: 'it returns false'. Refute it at one input. -/
def fnExactFieldOfAllWrong : ChangeSpec := { name := "fnExactFieldOfAll", fn := fun _ => fun
  | [d1, d2] => { results := [.lit (.bool false)], args := [d1, d2] }
  | _ => none }
def FnExactFieldOfAllWrongFalsely : Prop := fnExactFieldOfAllRow.holds Try.pinned (OpenSpec.ofChange fnExactFieldOfAllWrong)

/-- 'laws.FnExactFluxIn': WHATEVER THE INPUT: true; the input reads as it did. -/
def fnExactFluxInSpec : ChangeSpec := { name := "fnExactFluxIn", fn := fun _ => fun
  | [d1, d2, d3, d4] => { results := [.lit (.bool true)], args := [d1, d2, d3, d4] }
  | _ => none }
def fnExactFluxInRow : OpenClaim := { program := "ytbfoochpinkpgaa", sum := "cfcccced6d4867633c8d9af3fd457f4bf1104d32ee4cd3d60f591ff7286f1e35", func := "loop.example/g01237/laws.FnExactFluxIn", spec := "fnExactFluxIn", inPlace := ["math.sqrt"], unfollowed := true, recurses := true, apart := false }
def FnExactFluxInSaid : Prop := fnExactFluxInRow.holds Try.pinned (OpenSpec.ofChange fnExactFluxInSpec)

/-- ITS FALSE NEIGHBOUR: 'it returns false'. Refute it at one input. -/
def fnExactFluxInWrong : ChangeSpec := { name := "fnExactFluxIn", fn := fun _ => fun
  | [d1, d2, d3, d4] => { results := [.lit (.bool false)], args := [d1, d2, d3, d4] }
  | _ => none }
def FnExactFluxInWrongFalsely : Prop := fnExactFluxInRow.holds Try.pinned (OpenSpec.ofChange fnExactFluxInWrong)

/-- 'laws.FnExactForceAlong': WHATEVER THE INPUT: true; the input reads as it did. -/
def fnExactForceAlongSpec : ChangeSpec := { name := "fnExactForceAlong", fn := fun _ => fun
  | [d1, d2, d3, d4, d5, d6] => { results := [.lit (.bool true)], args := [d1, d2, d3, d4, d5, d6] }
  | _ => none }
def fnExactForceAlongRow : OpenClaim := { program := "ytbfoochpinkpgaa", sum := "cfcccced6d4867633c8d9af3fd457f4bf1104d32ee4cd3d60f591ff7286f1e35", func := "loop.example/g01237/laws.FnExactForceAlong", spec := "fnExactForceAlong", inPlace := ["math.sqrt"], unfollowed := true, recurses := true, apart := false }
def FnExactForceAlongSaid : Prop := fnExactForceAlongRow.holds Try.pinned (OpenSpec.ofChange fnExactForceAlongSpec)

/-- ITS FALSE NEIGHBOUR: 'it returns false'. Refute it at one input. -/
def fnExactForceAlongWrong : ChangeSpec := { name := "fnExactForceAlong", fn := fun _ => fun
  | [d1, d2, d3, d4, d5, d6] => { results := [.lit (.bool false)], args := [d1, d2, d3, d4, d5, d6] }
  | _ => none }
def FnExactForceAlongWrongFalsely : Prop := fnExactForceAlongRow.holds Try.pinned (OpenSpec.ofChange fnExactForceAlongWrong)

/-- 'laws.FnExactAroundWire': WHATEVER THE INPUT: true; the input reads as it did. -/
def fnExactAroundWireSpec : ChangeSpec := { name := "fnExactAroundWire", fn := fun _ => fun
  | [d1, d2, d3] => { results := [.lit (.bool true)], args := [d1, d2, d3] }
  | _ => none }
def fnExactAroundWireRow : OpenClaim := { program := "ytbfoochpinkpgaa", sum := "cfcccced6d4867633c8d9af3fd457f4bf1104d32ee4cd3d60f591ff7286f1e35", func := "loop.example/g01237/laws.FnExactAroundWire", spec := "fnExactAroundWire", inPlace := ["math.sqrt"], unfollowed := true, recurses := true, apart := false }
def FnExactAroundWireSaid : Prop := fnExactAroundWireRow.holds Try.pinned (OpenSpec.ofChange fnExactAroundWireSpec)

/-- ITS FALSE NEIGHBOUR: 'it returns false'. Refute it at one input. -/
def fnExactAroundWireWrong : ChangeSpec := { name := "fnExactAroundWire", fn := fun _ => fun
  | [d1, d2, d3] => { results := [.lit (.bool false)], args := [d1, d2, d3] }
  | _ => none }
def FnExactAroundWireWrongFalsely : Prop := fnExactAroundWireRow.holds Try.pinned (OpenSpec.ofChange fnExactAroundWireWrong)

/- THE SECOND FORM. 'bulk': how many values and letters a reading holds, each counted each time it is reached (what is shared counts as often as it is met; a slice's spare places count too). A statement '..UptoSaid' is the law's where the arguments, and the package variables that the reading takes, are together of bulk at most 1048576: NARROWER than '..Said'. Prove '..Said' where nothing that the law and all that it calls make is longer than what came in: it says more and counts as full. Else prove '..UptoSaid'. A law counts once. -/
mutual
def uptoBulk {H : Type} : DataW H → Nat
  | .lit (.string bytes) => bytes.length + 1
  | .lit _ => 1
  | .nil => 1
  | .ptr d => uptoBulk d + 1
  | .slice elems spare => uptoBulkAll elems + uptoBulkAll spare + 1
  | .agg parts => uptoBulkAll parts + 1
  | .iface _ d => uptoBulk d + 1
  | .map entries => uptoBulkEntries entries + 1
  | .held _ => 1
def uptoBulkAll {H : Type} : List (DataW H) → Nat
  | [] => 0
  | d :: r => uptoBulk d + uptoBulkAll r
def uptoBulkEntries {H : Type} : List (Lit × DataW H) → Nat
  | [] => 0
  | x :: r => uptoBulkEntry x + uptoBulkEntries r
def uptoBulkEntry {H : Type} : Lit × DataW H → Nat
  | (.string bytes, d) => bytes.length + uptoBulk d + 1
  | (_, d) => uptoBulk d + 1
 end
def uptoSmall : (H : Type) → List (DataW H) → Bool := fun _ ds => decide (uptoBulkAll ds ≤ 1048576)
def OpenSpec.upto (s : _root_.Go.ChangeSpec) : _root_.Go.OpenSpec := { _root_.Go.OpenSpec.ofChange s with cond := some uptoSmall }

/-- 'laws.FnExactStrongestOf', WHERE WHAT IT READS IS OF BULK AT MOST 1048576: true; the input reads as it did. -/
def fnExactStrongestOfUptoRow : OpenClaim := { program := "ytbfoochpinkpgaa", sum := "cfcccced6d4867633c8d9af3fd457f4bf1104d32ee4cd3d60f591ff7286f1e35", func := "loop.example/g01237/laws.FnExactStrongestOf", spec := "fnExactStrongestOf", inPlace := ["math.sqrt"], unfollowed := true, recurses := true, apart := false, narrowed := true }
def FnExactStrongestOfUptoSaid : Prop := fnExactStrongestOfUptoRow.holds Try.pinned (OpenSpec.upto fnExactStrongestOfSpec)

/-- 'laws.FnExactUnevenOf', WHERE WHAT IT READS IS OF BULK AT MOST 1048576: true; the input reads as it did. -/
def fnExactUnevenOfUptoRow : OpenClaim := { program := "ytbfoochpinkpgaa", sum := "cfcccced6d4867633c8d9af3fd457f4bf1104d32ee4cd3d60f591ff7286f1e35", func := "loop.example/g01237/laws.FnExactUnevenOf", spec := "fnExactUnevenOf", inPlace := ["math.sqrt"], unfollowed := true, recurses := true, apart := false, narrowed := true }
def FnExactUnevenOfUptoSaid : Prop := fnExactUnevenOfUptoRow.holds Try.pinned (OpenSpec.upto fnExactUnevenOfSpec)

/-- 'laws.FnExactHelixWire', WHERE WHAT IT READS IS OF BULK AT MOST 1048576: true; the input reads as it did. -/
def fnExactHelixWireUptoRow : OpenClaim := { program := "ytbfoochpinkpgaa", sum := "cfcccced6d4867633c8d9af3fd457f4bf1104d32ee4cd3d60f591ff7286f1e35", func := "loop.example/g01237/laws.FnExactHelixWire", spec := "fnExactHelixWire", inPlace := ["math.Float64frombits", "math.Float64bits"], unfollowed := true, recurses := true, apart := false, narrowed := true }
def FnExactHelixWireUptoSaid : Prop := fnExactHelixWireUptoRow.holds Try.pinned (OpenSpec.upto fnExactHelixWireSpec)

/-- 'laws.FnExactRingWire', WHERE WHAT IT READS IS OF BULK AT MOST 1048576: true; the input reads as it did. -/
def fnExactRingWireUptoRow : OpenClaim := { program := "ytbfoochpinkpgaa", sum := "cfcccced6d4867633c8d9af3fd457f4bf1104d32ee4cd3d60f591ff7286f1e35", func := "loop.example/g01237/laws.FnExactRingWire", spec := "fnExactRingWire", inPlace := ["math.Float64frombits", "math.Float64bits"], unfollowed := true, recurses := true, apart := false, narrowed := true }
def FnExactRingWireUptoSaid : Prop := fnExactRingWireUptoRow.holds Try.pinned (OpenSpec.upto fnExactRingWireSpec)

/-- 'laws.FnExactLengthOf', WHERE WHAT IT READS IS OF BULK AT MOST 1048576: true; the input reads as it did. -/
def fnExactLengthOfUptoRow : OpenClaim := { program := "ytbfoochpinkpgaa", sum := "cfcccced6d4867633c8d9af3fd457f4bf1104d32ee4cd3d60f591ff7286f1e35", func := "loop.example/g01237/laws.FnExactLengthOf", spec := "fnExactLengthOf", inPlace := ["math.sqrt"], unfollowed := true, recurses := true, apart := false, narrowed := true }
def FnExactLengthOfUptoSaid : Prop := fnExactLengthOfUptoRow.holds Try.pinned (OpenSpec.upto fnExactLengthOfSpec)

/-- 'laws.FnExactSpinWire', WHERE WHAT IT READS IS OF BULK AT MOST 1048576: true; the input reads as it did. -/
def fnExactSpinWireUptoRow : OpenClaim := { program := "ytbfoochpinkpgaa", sum := "cfcccced6d4867633c8d9af3fd457f4bf1104d32ee4cd3d60f591ff7286f1e35", func := "loop.example/g01237/laws.FnExactSpinWire", spec := "fnExactSpinWire", inPlace := ["math.Float64frombits", "math.Float64bits"], unfollowed := true, recurses := true, apart := false, narrowed := true }
def FnExactSpinWireUptoSaid : Prop := fnExactSpinWireUptoRow.holds Try.pinned (OpenSpec.upto fnExactSpinWireSpec)

/-- 'laws.FnExactPairOfRings', WHERE WHAT IT READS IS OF BULK AT MOST 1048576: true; the input reads as it did. -/
def fnExactPairOfRingsUptoRow : OpenClaim := { program := "ytbfoochpinkpgaa", sum := "cfcccced6d4867633c8d9af3fd457f4bf1104d32ee4cd3d60f591ff7286f1e35", func := "loop.example/g01237/laws.FnExactPairOfRings", spec := "fnExactPairOfRings", inPlace := ["math.Float64frombits", "math.Float64bits"], unfollowed := true, recurses := true, apart := false, narrowed := true }
def FnExactPairOfRingsUptoSaid : Prop := fnExactPairOfRingsUptoRow.holds Try.pinned (OpenSpec.upto fnExactPairOfRingsSpec)

/-- 'laws.FnExactFieldOf', WHERE WHAT IT READS IS OF BULK AT MOST 1048576: true; the input reads as it did. -/
def fnExactFieldOfUptoRow : OpenClaim := { program := "ytbfoochpinkpgaa", sum := "cfcccced6d4867633c8d9af3fd457f4bf1104d32ee4cd3d60f591ff7286f1e35", func := "loop.example/g01237/laws.FnExactFieldOf", spec := "fnExactFieldOf", inPlace := ["math.sqrt"], unfollowed := true, recurses := true, apart := false, narrowed := true }
def FnExactFieldOfUptoSaid : Prop := fnExactFieldOfUptoRow.holds Try.pinned (OpenSpec.upto fnExactFieldOfSpec)

/-- 'laws.FnExactForceBetween', WHERE WHAT IT READS IS OF BULK AT MOST 1048576: true; the input reads as it did. -/
def fnExactForceBetweenUptoRow : OpenClaim := { program := "ytbfoochpinkpgaa", sum := "cfcccced6d4867633c8d9af3fd457f4bf1104d32ee4cd3d60f591ff7286f1e35", func := "loop.example/g01237/laws.FnExactForceBetween", spec := "fnExactForceBetween", inPlace := ["math.sqrt"], unfollowed := true, recurses := true, apart := false, narrowed := true }
def FnExactForceBetweenUptoSaid : Prop := fnExactForceBetweenUptoRow.holds Try.pinned (OpenSpec.upto fnExactForceBetweenSpec)

/-- 'laws.FnExactPairSum', WHERE WHAT IT READS IS OF BULK AT MOST 1048576: true; the input reads as it did. -/
def fnExactPairSumUptoRow : OpenClaim := { program := "ytbfoochpinkpgaa", sum := "cfcccced6d4867633c8d9af3fd457f4bf1104d32ee4cd3d60f591ff7286f1e35", func := "loop.example/g01237/laws.FnExactPairSum", spec := "fnExactPairSum", inPlace := ["math.sqrt"], unfollowed := true, recurses := true, apart := false, narrowed := true }
def FnExactPairSumUptoSaid : Prop := fnExactPairSumUptoRow.holds Try.pinned (OpenSpec.upto fnExactPairSumSpec)

/-- 'laws.FnExactFieldOfAll', WHERE WHAT IT READS IS OF BULK AT MOST 1048576: true; the input reads as it did. -/
def fnExactFieldOfAllUptoRow : OpenClaim := { program := "ytbfoochpinkpgaa", sum := "cfcccced6d4867633c8d9af3fd457f4bf1104d32ee4cd3d60f591ff7286f1e35", func := "loop.example/g01237/laws.FnExactFieldOfAll", spec := "fnExactFieldOfAll", inPlace := ["math.sqrt"], unfollowed := true, recurses := true, apart := false, narrowed := true }
def FnExactFieldOfAllUptoSaid : Prop := fnExactFieldOfAllUptoRow.holds Try.pinned (OpenSpec.upto fnExactFieldOfAllSpec)

/-- 'laws.FnExactFluxIn', WHERE WHAT IT READS IS OF BULK AT MOST 1048576: true; the input reads as it did. -/
def fnExactFluxInUptoRow : OpenClaim := { program := "ytbfoochpinkpgaa", sum := "cfcccced6d4867633c8d9af3fd457f4bf1104d32ee4cd3d60f591ff7286f1e35", func := "loop.example/g01237/laws.FnExactFluxIn", spec := "fnExactFluxIn", inPlace := ["math.sqrt"], unfollowed := true, recurses := true, apart := false, narrowed := true }
def FnExactFluxInUptoSaid : Prop := fnExactFluxInUptoRow.holds Try.pinned (OpenSpec.upto fnExactFluxInSpec)

/-- 'laws.FnExactForceAlong', WHERE WHAT IT READS IS OF BULK AT MOST 1048576: true; the input reads as it did. -/
def fnExactForceAlongUptoRow : OpenClaim := { program := "ytbfoochpinkpgaa", sum := "cfcccced6d4867633c8d9af3fd457f4bf1104d32ee4cd3d60f591ff7286f1e35", func := "loop.example/g01237/laws.FnExactForceAlong", spec := "fnExactForceAlong", inPlace := ["math.sqrt"], unfollowed := true, recurses := true, apart := false, narrowed := true }
def FnExactForceAlongUptoSaid : Prop := fnExactForceAlongUptoRow.holds Try.pinned (OpenSpec.upto fnExactForceAlongSpec)

/-- 'laws.FnExactAroundWire', WHERE WHAT IT READS IS OF BULK AT MOST 1048576: true; the input reads as it did. -/
def fnExactAroundWireUptoRow : OpenClaim := { program := "ytbfoochpinkpgaa", sum := "cfcccced6d4867633c8d9af3fd457f4bf1104d32ee4cd3d60f591ff7286f1e35", func := "loop.example/g01237/laws.FnExactAroundWire", spec := "fnExactAroundWire", inPlace := ["math.sqrt"], unfollowed := true, recurses := true, apart := false, narrowed := true }
def FnExactAroundWireUptoSaid : Prop := fnExactAroundWireUptoRow.holds Try.pinned (OpenSpec.upto fnExactAroundWireSpec)

end Rows
end Go.Proofs.Ytbfoochpinkpgaa
