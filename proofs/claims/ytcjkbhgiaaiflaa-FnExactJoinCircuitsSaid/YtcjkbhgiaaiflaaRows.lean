/-
  No cell of these rows narrows 'for every input' (looked for: loops, veiled, ifaces, maps, wideKeys, modest, calm, conditions, laid).
  DERIVED. THE GIVEN ROWS OF THIS SEAT. 12 by the template 'for every input the law returns true; each argument reads behind the call as it read before'; 0 by the template 'total and deterministic' (their statements: YtcjkbhgiaaiflaaTotals.lean).
  GIVEN WITH THE SEED: the statements are not yours to turn. If you find one false, say at which input.
  Laid BY PROGRAM, IN A SANDBOX (cutbox-rows.mjs): the forced cells as the released guide's own fill.sh prints them over the translation b7592cf78c762b81… (all of the seat's roots in one cut). By AI agents, Wed Nov 11 2026. No macro, syntax, notation, axiom, sorry.
-/
import Derived.Test.YtcjkbhgiaaiflaaChecked
import GoSem.Claim
import GoSem.ClaimJoined
import GoSem.ClaimMapViews
import Derived.JoinedTies
import Derived.KernelRfl
namespace Go.Proofs.Ytcjkbhgiaaiflaa
/- THE CELL 'sum', in the pinned program and in every row, IS THE sha256 OF THE DUMP (.gsa) THAT YtcjkbhgiaaiflaaProg.lean LOADS. Nothing in Lean hashes anything: it is a label: what it is worth is what the hold of that sum in a sandbox is worth. -/
noncomputable def Try.pinned : Pinned := { name := "ytcjkbhgiaaiflaa", sum := "b7592cf78c762b81d809fe86f30b53ec76d46c841525b7dbd72ebe8056dd6f86", checked := Try.checked }
namespace Rows
def none {H : Type} : Left H := { results := [], args := [] }

/-- 'laws.FnExactSameCircuit': WHATEVER THE INPUT: true; the input reads as it did. -/
def fnExactSameCircuitSpec : ChangeSpec := { name := "fnExactSameCircuit", fn := fun _ => fun
  | [d1, d2] => { results := [.lit (.bool true)], args := [d1, d2] }
  | _ => none }
def fnExactSameCircuitRow : OpenClaim := { program := "ytcjkbhgiaaiflaa", sum := "b7592cf78c762b81d809fe86f30b53ec76d46c841525b7dbd72ebe8056dd6f86", func := "loop.example/g01237/laws.FnExactSameCircuit", spec := "fnExactSameCircuit", inPlace := ["math.Float32bits", "math.Float64bits"], unfollowed := true, recurses := true, apart := false }
def FnExactSameCircuitSaid : Prop := fnExactSameCircuitRow.holds Try.pinned (OpenSpec.ofChange fnExactSameCircuitSpec)

/-- ITS FALSE NEIGHBOUR: 'it returns false'. Refute it at one input. -/
def fnExactSameCircuitWrong : ChangeSpec := { name := "fnExactSameCircuit", fn := fun _ => fun
  | [d1, d2] => { results := [.lit (.bool false)], args := [d1, d2] }
  | _ => none }
def FnExactSameCircuitWrongFalsely : Prop := fnExactSameCircuitRow.holds Try.pinned (OpenSpec.ofChange fnExactSameCircuitWrong)

/-- 'laws.FnExactValidCircuit': WHATEVER THE INPUT: true; the input reads as it did. -/
def fnExactValidCircuitSpec : ChangeSpec := { name := "fnExactValidCircuit", fn := fun _ => fun
  | [d] => { results := [.lit (.bool true)], args := [d] }
  | _ => none }
def fnExactValidCircuitRow : OpenClaim := { program := "ytcjkbhgiaaiflaa", sum := "b7592cf78c762b81d809fe86f30b53ec76d46c841525b7dbd72ebe8056dd6f86", func := "loop.example/g01237/laws.FnExactValidCircuit", spec := "fnExactValidCircuit", unfollowed := true, recurses := true, apart := false }
def FnExactValidCircuitSaid : Prop := fnExactValidCircuitRow.holds Try.pinned (OpenSpec.ofChange fnExactValidCircuitSpec)

/-- ITS FALSE NEIGHBOUR: 'it returns false'. Refute it at one input. -/
def fnExactValidCircuitWrong : ChangeSpec := { name := "fnExactValidCircuit", fn := fun _ => fun
  | [d] => { results := [.lit (.bool false)], args := [d] }
  | _ => none }
def FnExactValidCircuitWrongFalsely : Prop := fnExactValidCircuitRow.holds Try.pinned (OpenSpec.ofChange fnExactValidCircuitWrong)

/-- 'laws.FnExactValidLoops': WHATEVER THE INPUT: true; the input reads as it did. -/
def fnExactValidLoopsSpec : ChangeSpec := { name := "fnExactValidLoops", fn := fun _ => fun
  | [d] => { results := [.lit (.bool true)], args := [d] }
  | _ => none }
def fnExactValidLoopsRow : OpenClaim := { program := "ytcjkbhgiaaiflaa", sum := "b7592cf78c762b81d809fe86f30b53ec76d46c841525b7dbd72ebe8056dd6f86", func := "loop.example/g01237/laws.FnExactValidLoops", spec := "fnExactValidLoops", unfollowed := true, recurses := true, apart := false }
def FnExactValidLoopsSaid : Prop := fnExactValidLoopsRow.holds Try.pinned (OpenSpec.ofChange fnExactValidLoopsSpec)

/-- ITS FALSE NEIGHBOUR: 'it returns false'. Refute it at one input. -/
def fnExactValidLoopsWrong : ChangeSpec := { name := "fnExactValidLoops", fn := fun _ => fun
  | [d] => { results := [.lit (.bool false)], args := [d] }
  | _ => none }
def FnExactValidLoopsWrongFalsely : Prop := fnExactValidLoopsRow.holds Try.pinned (OpenSpec.ofChange fnExactValidLoopsWrong)

/-- 'laws.FnExactEnergyOfLoops': WHATEVER THE INPUT: true; the input reads as it did. -/
def fnExactEnergyOfLoopsSpec : ChangeSpec := { name := "fnExactEnergyOfLoops", fn := fun _ => fun
  | [d] => { results := [.lit (.bool true)], args := [d] }
  | _ => none }
def fnExactEnergyOfLoopsRow : OpenClaim := { program := "ytcjkbhgiaaiflaa", sum := "b7592cf78c762b81d809fe86f30b53ec76d46c841525b7dbd72ebe8056dd6f86", func := "loop.example/g01237/laws.FnExactEnergyOfLoops", spec := "fnExactEnergyOfLoops", unfollowed := true, recurses := true, apart := false }
def FnExactEnergyOfLoopsSaid : Prop := fnExactEnergyOfLoopsRow.holds Try.pinned (OpenSpec.ofChange fnExactEnergyOfLoopsSpec)

/-- ITS FALSE NEIGHBOUR: 'it returns false'. Refute it at one input. -/
def fnExactEnergyOfLoopsWrong : ChangeSpec := { name := "fnExactEnergyOfLoops", fn := fun _ => fun
  | [d] => { results := [.lit (.bool false)], args := [d] }
  | _ => none }
def FnExactEnergyOfLoopsWrongFalsely : Prop := fnExactEnergyOfLoopsRow.holds Try.pinned (OpenSpec.ofChange fnExactEnergyOfLoopsWrong)

/-- 'laws.FnExactTuneLoop': WHATEVER THE INPUT: true; the input reads as it did. -/
def fnExactTuneLoopSpec : ChangeSpec := { name := "fnExactTuneLoop", fn := fun _ => fun
  | [d1, d2, d3] => { results := [.lit (.bool true)], args := [d1, d2, d3] }
  | _ => none }
def fnExactTuneLoopRow : OpenClaim := { program := "ytcjkbhgiaaiflaa", sum := "b7592cf78c762b81d809fe86f30b53ec76d46c841525b7dbd72ebe8056dd6f86", func := "loop.example/g01237/laws.FnExactTuneLoop", spec := "fnExactTuneLoop", unfollowed := true, recurses := true, apart := false }
def FnExactTuneLoopSaid : Prop := fnExactTuneLoopRow.holds Try.pinned (OpenSpec.ofChange fnExactTuneLoopSpec)

/-- ITS FALSE NEIGHBOUR: 'it returns false'. Refute it at one input. -/
def fnExactTuneLoopWrong : ChangeSpec := { name := "fnExactTuneLoop", fn := fun _ => fun
  | [d1, d2, d3] => { results := [.lit (.bool false)], args := [d1, d2, d3] }
  | _ => none }
def FnExactTuneLoopWrongFalsely : Prop := fnExactTuneLoopRow.holds Try.pinned (OpenSpec.ofChange fnExactTuneLoopWrong)

/-- 'laws.FnExactImpedanceOf': WHATEVER THE INPUT: true; the input reads as it did. -/
def fnExactImpedanceOfSpec : ChangeSpec := { name := "fnExactImpedanceOf", fn := fun _ => fun
  | [d1, d2] => { results := [.lit (.bool true)], args := [d1, d2] }
  | _ => none }
def fnExactImpedanceOfRow : OpenClaim := { program := "ytcjkbhgiaaiflaa", sum := "b7592cf78c762b81d809fe86f30b53ec76d46c841525b7dbd72ebe8056dd6f86", func := "loop.example/g01237/laws.FnExactImpedanceOf", spec := "fnExactImpedanceOf", unfollowed := true, recurses := true, apart := false }
def FnExactImpedanceOfSaid : Prop := fnExactImpedanceOfRow.holds Try.pinned (OpenSpec.ofChange fnExactImpedanceOfSpec)

/-- ITS FALSE NEIGHBOUR: 'it returns false'. Refute it at one input. -/
def fnExactImpedanceOfWrong : ChangeSpec := { name := "fnExactImpedanceOf", fn := fun _ => fun
  | [d1, d2] => { results := [.lit (.bool false)], args := [d1, d2] }
  | _ => none }
def FnExactImpedanceOfWrongFalsely : Prop := fnExactImpedanceOfRow.holds Try.pinned (OpenSpec.ofChange fnExactImpedanceOfWrong)

/-- 'laws.FnExactDropLoop': WHATEVER THE INPUT: true; the input reads as it did. -/
def fnExactDropLoopSpec : ChangeSpec := { name := "fnExactDropLoop", fn := fun _ => fun
  | [d1, d2] => { results := [.lit (.bool true)], args := [d1, d2] }
  | _ => none }
def fnExactDropLoopRow : OpenClaim := { program := "ytcjkbhgiaaiflaa", sum := "b7592cf78c762b81d809fe86f30b53ec76d46c841525b7dbd72ebe8056dd6f86", func := "loop.example/g01237/laws.FnExactDropLoop", spec := "fnExactDropLoop", unfollowed := true, recurses := true, apart := false }
def FnExactDropLoopSaid : Prop := fnExactDropLoopRow.holds Try.pinned (OpenSpec.ofChange fnExactDropLoopSpec)

/-- ITS FALSE NEIGHBOUR: 'it returns false'. Refute it at one input. -/
def fnExactDropLoopWrong : ChangeSpec := { name := "fnExactDropLoop", fn := fun _ => fun
  | [d1, d2] => { results := [.lit (.bool false)], args := [d1, d2] }
  | _ => none }
def FnExactDropLoopWrongFalsely : Prop := fnExactDropLoopRow.holds Try.pinned (OpenSpec.ofChange fnExactDropLoopWrong)

/-- 'laws.FnExactLoopCoupling': WHATEVER THE INPUT: true; the input reads as it did. -/
def fnExactLoopCouplingSpec : ChangeSpec := { name := "fnExactLoopCoupling", fn := fun _ => fun
  | [d1, d2, d3] => { results := [.lit (.bool true)], args := [d1, d2, d3] }
  | _ => none }
def fnExactLoopCouplingRow : OpenClaim := { program := "ytcjkbhgiaaiflaa", sum := "b7592cf78c762b81d809fe86f30b53ec76d46c841525b7dbd72ebe8056dd6f86", func := "loop.example/g01237/laws.FnExactLoopCoupling", spec := "fnExactLoopCoupling", inPlace := ["math.sqrt"], unfollowed := true, recurses := true, apart := false }
def FnExactLoopCouplingSaid : Prop := fnExactLoopCouplingRow.holds Try.pinned (OpenSpec.ofChange fnExactLoopCouplingSpec)

/-- ITS FALSE NEIGHBOUR: 'it returns false'. Refute it at one input. -/
def fnExactLoopCouplingWrong : ChangeSpec := { name := "fnExactLoopCoupling", fn := fun _ => fun
  | [d1, d2, d3] => { results := [.lit (.bool false)], args := [d1, d2, d3] }
  | _ => none }
def FnExactLoopCouplingWrongFalsely : Prop := fnExactLoopCouplingRow.holds Try.pinned (OpenSpec.ofChange fnExactLoopCouplingWrong)

/-- 'laws.FnExactTransformerOf': WHATEVER THE INPUT: true; the input reads as it did. -/
def fnExactTransformerOfSpec : ChangeSpec := { name := "fnExactTransformerOf", fn := fun _ => fun
  | [d1, d2, d3, d4, d5] => { results := [.lit (.bool true)], args := [d1, d2, d3, d4, d5] }
  | _ => none }
def fnExactTransformerOfRow : OpenClaim := { program := "ytcjkbhgiaaiflaa", sum := "b7592cf78c762b81d809fe86f30b53ec76d46c841525b7dbd72ebe8056dd6f86", func := "loop.example/g01237/laws.FnExactTransformerOf", spec := "fnExactTransformerOf", inPlace := ["math.sqrt"], unfollowed := true, recurses := true, apart := false }
def FnExactTransformerOfSaid : Prop := fnExactTransformerOfRow.holds Try.pinned (OpenSpec.ofChange fnExactTransformerOfSpec)

/-- ITS FALSE NEIGHBOUR: 'it returns false'. Refute it at one input. -/
def fnExactTransformerOfWrong : ChangeSpec := { name := "fnExactTransformerOf", fn := fun _ => fun
  | [d1, d2, d3, d4, d5] => { results := [.lit (.bool false)], args := [d1, d2, d3, d4, d5] }
  | _ => none }
def FnExactTransformerOfWrongFalsely : Prop := fnExactTransformerOfRow.holds Try.pinned (OpenSpec.ofChange fnExactTransformerOfWrong)

/-- 'laws.FnExactQualityOf': WHATEVER THE INPUT: true; the input reads as it did. -/
def fnExactQualityOfSpec : ChangeSpec := { name := "fnExactQualityOf", fn := fun _ => fun
  | [d1, d2] => { results := [.lit (.bool true)], args := [d1, d2] }
  | _ => none }
def fnExactQualityOfRow : OpenClaim := { program := "ytcjkbhgiaaiflaa", sum := "b7592cf78c762b81d809fe86f30b53ec76d46c841525b7dbd72ebe8056dd6f86", func := "loop.example/g01237/laws.FnExactQualityOf", spec := "fnExactQualityOf", inPlace := ["math.sqrt"], unfollowed := true, recurses := true, apart := false }
def FnExactQualityOfSaid : Prop := fnExactQualityOfRow.holds Try.pinned (OpenSpec.ofChange fnExactQualityOfSpec)

/-- ITS FALSE NEIGHBOUR: 'it returns false'. Refute it at one input. -/
def fnExactQualityOfWrong : ChangeSpec := { name := "fnExactQualityOf", fn := fun _ => fun
  | [d1, d2] => { results := [.lit (.bool false)], args := [d1, d2] }
  | _ => none }
def FnExactQualityOfWrongFalsely : Prop := fnExactQualityOfRow.holds Try.pinned (OpenSpec.ofChange fnExactQualityOfWrong)

/-- 'laws.FnExactResonanceOf': WHATEVER THE INPUT: true; the input reads as it did. -/
def fnExactResonanceOfSpec : ChangeSpec := { name := "fnExactResonanceOf", fn := fun _ => fun
  | [d1, d2] => { results := [.lit (.bool true)], args := [d1, d2] }
  | _ => none }
def fnExactResonanceOfRow : OpenClaim := { program := "ytcjkbhgiaaiflaa", sum := "b7592cf78c762b81d809fe86f30b53ec76d46c841525b7dbd72ebe8056dd6f86", func := "loop.example/g01237/laws.FnExactResonanceOf", spec := "fnExactResonanceOf", inPlace := ["math.sqrt"], unfollowed := true, recurses := true, apart := false }
def FnExactResonanceOfSaid : Prop := fnExactResonanceOfRow.holds Try.pinned (OpenSpec.ofChange fnExactResonanceOfSpec)

/-- ITS FALSE NEIGHBOUR: 'it returns false'. Refute it at one input. -/
def fnExactResonanceOfWrong : ChangeSpec := { name := "fnExactResonanceOf", fn := fun _ => fun
  | [d1, d2] => { results := [.lit (.bool false)], args := [d1, d2] }
  | _ => none }
def FnExactResonanceOfWrongFalsely : Prop := fnExactResonanceOfRow.holds Try.pinned (OpenSpec.ofChange fnExactResonanceOfWrong)

/-- 'laws.FnExactJoinCircuits': WHATEVER THE INPUT: true; the input reads as it did. -/
def fnExactJoinCircuitsSpec : ChangeSpec := { name := "fnExactJoinCircuits", fn := fun _ => fun
  | [d1, d2] => { results := [.lit (.bool true)], args := [d1, d2] }
  | _ => none }
def fnExactJoinCircuitsRow : OpenClaim := { program := "ytcjkbhgiaaiflaa", sum := "b7592cf78c762b81d809fe86f30b53ec76d46c841525b7dbd72ebe8056dd6f86", func := "loop.example/g01237/laws.FnExactJoinCircuits", spec := "fnExactJoinCircuits", unfollowed := true, recurses := true, apart := false }
def FnExactJoinCircuitsSaid : Prop := fnExactJoinCircuitsRow.holds Try.pinned (OpenSpec.ofChange fnExactJoinCircuitsSpec)

/-- ITS FALSE NEIGHBOUR: 'it returns false'. Refute it at one input. -/
def fnExactJoinCircuitsWrong : ChangeSpec := { name := "fnExactJoinCircuits", fn := fun _ => fun
  | [d1, d2] => { results := [.lit (.bool false)], args := [d1, d2] }
  | _ => none }
def FnExactJoinCircuitsWrongFalsely : Prop := fnExactJoinCircuitsRow.holds Try.pinned (OpenSpec.ofChange fnExactJoinCircuitsWrong)

/- THE SECOND FORM. 'bulk': how many values and letters a reading holds, each counted each time it is reached (what is shared counts as often as it is met; a slice's spare places count too). A statement '..UptoSaid' is the law's where the arguments, and the package variables that the reading takes, are together of bulk at most 1048576: NARROWER than '..Said'. Prove '..Said' where nothing that the law and all that it calls make is longer than what came in: it says more and counts as full. Else prove '..UptoSaid'. A law counts once. -/
mutual
def uptoBulk {H : Type} : DataW H → Nat
  | .lit (.string bytes) => bytes.length + 1
  | .lit _ => 1
  | .nil => 1
  | .ptr d => uptoBulk d + 1
  | .slice elems spare => uptoBulkAll elems + uptoBulkAll spare + 1
  | .agg parts => uptoBulkAll parts + 1
  | .iface _ d => uptoBulk d + 1
  | .map entries => uptoBulkEntries entries + 1
  | .held _ => 1
def uptoBulkAll {H : Type} : List (DataW H) → Nat
  | [] => 0
  | d :: r => uptoBulk d + uptoBulkAll r
def uptoBulkEntries {H : Type} : List (Lit × DataW H) → Nat
  | [] => 0
  | x :: r => uptoBulkEntry x + uptoBulkEntries r
def uptoBulkEntry {H : Type} : Lit × DataW H → Nat
  | (.string bytes, d) => bytes.length + uptoBulk d + 1
  | (_, d) => uptoBulk d + 1
 end
def uptoSmall : (H : Type) → List (DataW H) → Bool := fun _ ds => decide (uptoBulkAll ds ≤ 1048576)
def OpenSpec.upto (s : _root_.Go.ChangeSpec) : _root_.Go.OpenSpec := { _root_.Go.OpenSpec.ofChange s with cond := some uptoSmall }

/-- 'laws.FnExactSameCircuit', WHERE WHAT IT READS IS OF BULK AT MOST 1048576: true; the input reads as it did. -/
def fnExactSameCircuitUptoRow : OpenClaim := { program := "ytcjkbhgiaaiflaa", sum := "b7592cf78c762b81d809fe86f30b53ec76d46c841525b7dbd72ebe8056dd6f86", func := "loop.example/g01237/laws.FnExactSameCircuit", spec := "fnExactSameCircuit", inPlace := ["math.Float32bits", "math.Float64bits"], unfollowed := true, recurses := true, apart := false, narrowed := true }
def FnExactSameCircuitUptoSaid : Prop := fnExactSameCircuitUptoRow.holds Try.pinned (OpenSpec.upto fnExactSameCircuitSpec)

/-- 'laws.FnExactValidCircuit', WHERE WHAT IT READS IS OF BULK AT MOST 1048576: true; the input reads as it did. -/
def fnExactValidCircuitUptoRow : OpenClaim := { program := "ytcjkbhgiaaiflaa", sum := "b7592cf78c762b81d809fe86f30b53ec76d46c841525b7dbd72ebe8056dd6f86", func := "loop.example/g01237/laws.FnExactValidCircuit", spec := "fnExactValidCircuit", unfollowed := true, recurses := true, apart := false, narrowed := true }
def FnExactValidCircuitUptoSaid : Prop := fnExactValidCircuitUptoRow.holds Try.pinned (OpenSpec.upto fnExactValidCircuitSpec)

/-- 'laws.FnExactValidLoops', WHERE WHAT IT READS IS OF BULK AT MOST 1048576: true; the input reads as it did. -/
def fnExactValidLoopsUptoRow : OpenClaim := { program := "ytcjkbhgiaaiflaa", sum := "b7592cf78c762b81d809fe86f30b53ec76d46c841525b7dbd72ebe8056dd6f86", func := "loop.example/g01237/laws.FnExactValidLoops", spec := "fnExactValidLoops", unfollowed := true, recurses := true, apart := false, narrowed := true }
def FnExactValidLoopsUptoSaid : Prop := fnExactValidLoopsUptoRow.holds Try.pinned (OpenSpec.upto fnExactValidLoopsSpec)

/-- 'laws.FnExactEnergyOfLoops', WHERE WHAT IT READS IS OF BULK AT MOST 1048576: true; the input reads as it did. -/
def fnExactEnergyOfLoopsUptoRow : OpenClaim := { program := "ytcjkbhgiaaiflaa", sum := "b7592cf78c762b81d809fe86f30b53ec76d46c841525b7dbd72ebe8056dd6f86", func := "loop.example/g01237/laws.FnExactEnergyOfLoops", spec := "fnExactEnergyOfLoops", unfollowed := true, recurses := true, apart := false, narrowed := true }
def FnExactEnergyOfLoopsUptoSaid : Prop := fnExactEnergyOfLoopsUptoRow.holds Try.pinned (OpenSpec.upto fnExactEnergyOfLoopsSpec)

/-- 'laws.FnExactTuneLoop', WHERE WHAT IT READS IS OF BULK AT MOST 1048576: true; the input reads as it did. -/
def fnExactTuneLoopUptoRow : OpenClaim := { program := "ytcjkbhgiaaiflaa", sum := "b7592cf78c762b81d809fe86f30b53ec76d46c841525b7dbd72ebe8056dd6f86", func := "loop.example/g01237/laws.FnExactTuneLoop", spec := "fnExactTuneLoop", unfollowed := true, recurses := true, apart := false, narrowed := true }
def FnExactTuneLoopUptoSaid : Prop := fnExactTuneLoopUptoRow.holds Try.pinned (OpenSpec.upto fnExactTuneLoopSpec)

/-- 'laws.FnExactImpedanceOf', WHERE WHAT IT READS IS OF BULK AT MOST 1048576: true; the input reads as it did. -/
def fnExactImpedanceOfUptoRow : OpenClaim := { program := "ytcjkbhgiaaiflaa", sum := "b7592cf78c762b81d809fe86f30b53ec76d46c841525b7dbd72ebe8056dd6f86", func := "loop.example/g01237/laws.FnExactImpedanceOf", spec := "fnExactImpedanceOf", unfollowed := true, recurses := true, apart := false, narrowed := true }
def FnExactImpedanceOfUptoSaid : Prop := fnExactImpedanceOfUptoRow.holds Try.pinned (OpenSpec.upto fnExactImpedanceOfSpec)

/-- 'laws.FnExactDropLoop', WHERE WHAT IT READS IS OF BULK AT MOST 1048576: true; the input reads as it did. -/
def fnExactDropLoopUptoRow : OpenClaim := { program := "ytcjkbhgiaaiflaa", sum := "b7592cf78c762b81d809fe86f30b53ec76d46c841525b7dbd72ebe8056dd6f86", func := "loop.example/g01237/laws.FnExactDropLoop", spec := "fnExactDropLoop", unfollowed := true, recurses := true, apart := false, narrowed := true }
def FnExactDropLoopUptoSaid : Prop := fnExactDropLoopUptoRow.holds Try.pinned (OpenSpec.upto fnExactDropLoopSpec)

/-- 'laws.FnExactLoopCoupling', WHERE WHAT IT READS IS OF BULK AT MOST 1048576: true; the input reads as it did. -/
def fnExactLoopCouplingUptoRow : OpenClaim := { program := "ytcjkbhgiaaiflaa", sum := "b7592cf78c762b81d809fe86f30b53ec76d46c841525b7dbd72ebe8056dd6f86", func := "loop.example/g01237/laws.FnExactLoopCoupling", spec := "fnExactLoopCoupling", inPlace := ["math.sqrt"], unfollowed := true, recurses := true, apart := false, narrowed := true }
def FnExactLoopCouplingUptoSaid : Prop := fnExactLoopCouplingUptoRow.holds Try.pinned (OpenSpec.upto fnExactLoopCouplingSpec)

/-- 'laws.FnExactTransformerOf', WHERE WHAT IT READS IS OF BULK AT MOST 1048576: true; the input reads as it did. -/
def fnExactTransformerOfUptoRow : OpenClaim := { program := "ytcjkbhgiaaiflaa", sum := "b7592cf78c762b81d809fe86f30b53ec76d46c841525b7dbd72ebe8056dd6f86", func := "loop.example/g01237/laws.FnExactTransformerOf", spec := "fnExactTransformerOf", inPlace := ["math.sqrt"], unfollowed := true, recurses := true, apart := false, narrowed := true }
def FnExactTransformerOfUptoSaid : Prop := fnExactTransformerOfUptoRow.holds Try.pinned (OpenSpec.upto fnExactTransformerOfSpec)

/-- 'laws.FnExactQualityOf', WHERE WHAT IT READS IS OF BULK AT MOST 1048576: true; the input reads as it did. -/
def fnExactQualityOfUptoRow : OpenClaim := { program := "ytcjkbhgiaaiflaa", sum := "b7592cf78c762b81d809fe86f30b53ec76d46c841525b7dbd72ebe8056dd6f86", func := "loop.example/g01237/laws.FnExactQualityOf", spec := "fnExactQualityOf", inPlace := ["math.sqrt"], unfollowed := true, recurses := true, apart := false, narrowed := true }
def FnExactQualityOfUptoSaid : Prop := fnExactQualityOfUptoRow.holds Try.pinned (OpenSpec.upto fnExactQualityOfSpec)

/-- 'laws.FnExactResonanceOf', WHERE WHAT IT READS IS OF BULK AT MOST 1048576: true; the input reads as it did. -/
def fnExactResonanceOfUptoRow : OpenClaim := { program := "ytcjkbhgiaaiflaa", sum := "b7592cf78c762b81d809fe86f30b53ec76d46c841525b7dbd72ebe8056dd6f86", func := "loop.example/g01237/laws.FnExactResonanceOf", spec := "fnExactResonanceOf", inPlace := ["math.sqrt"], unfollowed := true, recurses := true, apart := false, narrowed := true }
def FnExactResonanceOfUptoSaid : Prop := fnExactResonanceOfUptoRow.holds Try.pinned (OpenSpec.upto fnExactResonanceOfSpec)

/-- 'laws.FnExactJoinCircuits', WHERE WHAT IT READS IS OF BULK AT MOST 1048576: true; the input reads as it did. -/
def fnExactJoinCircuitsUptoRow : OpenClaim := { program := "ytcjkbhgiaaiflaa", sum := "b7592cf78c762b81d809fe86f30b53ec76d46c841525b7dbd72ebe8056dd6f86", func := "loop.example/g01237/laws.FnExactJoinCircuits", spec := "fnExactJoinCircuits", unfollowed := true, recurses := true, apart := false, narrowed := true }
def FnExactJoinCircuitsUptoSaid : Prop := fnExactJoinCircuitsUptoRow.holds Try.pinned (OpenSpec.upto fnExactJoinCircuitsSpec)

end Rows
end Go.Proofs.Ytcjkbhgiaaiflaa
