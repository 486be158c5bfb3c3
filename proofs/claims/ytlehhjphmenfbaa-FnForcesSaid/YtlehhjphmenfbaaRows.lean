/-
  No cell of these rows narrows 'for every input' (looked for: loops, veiled, ifaces, maps, wideKeys, modest, calm, conditions, laid).
  DERIVED. THE GIVEN ROWS OF THIS SEAT. 8 by the template 'for every input the law returns true; each argument reads behind the call as it read before'; 0 by the template 'total and deterministic' (their statements: YtlehhjphmenfbaaTotals.lean).
  GIVEN WITH THE SEED: the statements are not yours to turn. If you find one false, say at which input.
  Laid BY PROGRAM, IN A SANDBOX (cutbox-rows.mjs): the forced cells as the released guide's own fill.sh prints them over the translation e756a72eb9a8c787… (all of the seat's roots in one cut). By AI agents, Wed Nov 11 2026. No macro, syntax, notation, axiom, sorry.
-/
import Derived.Test.YtlehhjphmenfbaaChecked
import GoSem.Claim
import GoSem.ClaimJoined
import GoSem.ClaimMapViews
import Derived.JoinedTies
import Derived.KernelRfl
namespace Go.Proofs.Ytlehhjphmenfbaa
/- THE CELL 'sum', in the pinned program and in every row, IS THE sha256 OF THE DUMP (.gsa) THAT YtlehhjphmenfbaaProg.lean LOADS. Nothing in Lean hashes anything: it is a label: what it is worth is what the hold of that sum in a sandbox is worth. -/
noncomputable def Try.pinned : Pinned := { name := "ytlehhjphmenfbaa", sum := "e756a72eb9a8c78722647b13d993d4491fab02703237a7f1b912203cda9de1e1", checked := Try.checked }
namespace Rows
def none {H : Type} : Left H := { results := [], args := [] }

/-- 'laws.FnEven': WHATEVER THE INPUT: true; the input reads as it did. -/
def fnEvenSpec : ChangeSpec := { name := "fnEven", fn := fun _ => fun
  | [d1, d2] => { results := [.lit (.bool true)], args := [d1, d2] }
  | _ => none }
def fnEvenRow : OpenClaim := { program := "ytlehhjphmenfbaa", sum := "e756a72eb9a8c78722647b13d993d4491fab02703237a7f1b912203cda9de1e1", func := "loop.example/g01237/laws.FnEven", spec := "fnEven", inPlace := ["math.Float64frombits", "math.Float64bits", "math.sqrt"], unfollowed := true, recurses := true, apart := false }
def FnEvenSaid : Prop := fnEvenRow.holds Try.pinned (OpenSpec.ofChange fnEvenSpec)

/-- ITS FALSE NEIGHBOUR: 'it returns false'. Refute it at one input. -/
def fnEvenWrong : ChangeSpec := { name := "fnEven", fn := fun _ => fun
  | [d1, d2] => { results := [.lit (.bool false)], args := [d1, d2] }
  | _ => none }
def FnEvenWrongFalsely : Prop := fnEvenRow.holds Try.pinned (OpenSpec.ofChange fnEvenWrong)

/-- 'laws.FnAxis': WHATEVER THE INPUT: true; the input reads as it did. -/
def fnAxisSpec : ChangeSpec := { name := "fnAxis", fn := fun _ => fun
  | [d1, d2] => { results := [.lit (.bool true)], args := [d1, d2] }
  | _ => none }
def fnAxisRow : OpenClaim := { program := "ytlehhjphmenfbaa", sum := "e756a72eb9a8c78722647b13d993d4491fab02703237a7f1b912203cda9de1e1", func := "loop.example/g01237/laws.FnAxis", spec := "fnAxis", inPlace := ["math.Float64frombits", "math.Float64bits", "math.sqrt"], unfollowed := true, recurses := true, apart := false }
def FnAxisSaid : Prop := fnAxisRow.holds Try.pinned (OpenSpec.ofChange fnAxisSpec)

/-- ITS FALSE NEIGHBOUR: 'it returns false'. Refute it at one input. -/
def fnAxisWrong : ChangeSpec := { name := "fnAxis", fn := fun _ => fun
  | [d1, d2] => { results := [.lit (.bool false)], args := [d1, d2] }
  | _ => none }
def FnAxisWrongFalsely : Prop := fnAxisRow.holds Try.pinned (OpenSpec.ofChange fnAxisWrong)

/-- 'laws.FnLawsOfFields': WHATEVER THE INPUT: true; the input reads as it did. -/
def fnLawsOfFieldsSpec : ChangeSpec := { name := "fnLawsOfFields", fn := fun _ => fun
  | [d1, d2] => { results := [.lit (.bool true)], args := [d1, d2] }
  | _ => none }
def fnLawsOfFieldsRow : OpenClaim := { program := "ytlehhjphmenfbaa", sum := "e756a72eb9a8c78722647b13d993d4491fab02703237a7f1b912203cda9de1e1", func := "loop.example/g01237/laws.FnLawsOfFields", spec := "fnLawsOfFields", inPlace := ["math.sqrt"], unfollowed := true, recurses := true, apart := false }
def FnLawsOfFieldsSaid : Prop := fnLawsOfFieldsRow.holds Try.pinned (OpenSpec.ofChange fnLawsOfFieldsSpec)

/-- ITS FALSE NEIGHBOUR: 'it returns false'. Refute it at one input. -/
def fnLawsOfFieldsWrong : ChangeSpec := { name := "fnLawsOfFields", fn := fun _ => fun
  | [d1, d2] => { results := [.lit (.bool false)], args := [d1, d2] }
  | _ => none }
def FnLawsOfFieldsWrongFalsely : Prop := fnLawsOfFieldsRow.holds Try.pinned (OpenSpec.ofChange fnLawsOfFieldsWrong)

/-- 'laws.FnFields': WHATEVER THE INPUT: true; the input reads as it did. -/
def fnFieldsSpec : ChangeSpec := { name := "fnFields", fn := fun _ => fun
  | [d1, d2] => { results := [.lit (.bool true)], args := [d1, d2] }
  | _ => none }
def fnFieldsRow : OpenClaim := { program := "ytlehhjphmenfbaa", sum := "e756a72eb9a8c78722647b13d993d4491fab02703237a7f1b912203cda9de1e1", func := "loop.example/g01237/laws.FnFields", spec := "fnFields", inPlace := ["math.Float64frombits", "math.Float64bits", "math.sqrt"], unfollowed := true, recurses := true, apart := false }
def FnFieldsSaid : Prop := fnFieldsRow.holds Try.pinned (OpenSpec.ofChange fnFieldsSpec)

/-- ITS FALSE NEIGHBOUR: 'it returns false'. Refute it at one input. -/
def fnFieldsWrong : ChangeSpec := { name := "fnFields", fn := fun _ => fun
  | [d1, d2] => { results := [.lit (.bool false)], args := [d1, d2] }
  | _ => none }
def FnFieldsWrongFalsely : Prop := fnFieldsRow.holds Try.pinned (OpenSpec.ofChange fnFieldsWrong)

/-- 'laws.FnMoments': WHATEVER THE INPUT: true; the input reads as it did. -/
def fnMomentsSpec : ChangeSpec := { name := "fnMoments", fn := fun _ => fun
  | [d1, d2] => { results := [.lit (.bool true)], args := [d1, d2] }
  | _ => none }
def fnMomentsRow : OpenClaim := { program := "ytlehhjphmenfbaa", sum := "e756a72eb9a8c78722647b13d993d4491fab02703237a7f1b912203cda9de1e1", func := "loop.example/g01237/laws.FnMoments", spec := "fnMoments", inPlace := ["math.Float64frombits", "math.Float64bits", "math.sqrt"], unfollowed := true, recurses := true, apart := false }
def FnMomentsSaid : Prop := fnMomentsRow.holds Try.pinned (OpenSpec.ofChange fnMomentsSpec)

/-- ITS FALSE NEIGHBOUR: 'it returns false'. Refute it at one input. -/
def fnMomentsWrong : ChangeSpec := { name := "fnMoments", fn := fun _ => fun
  | [d1, d2] => { results := [.lit (.bool false)], args := [d1, d2] }
  | _ => none }
def FnMomentsWrongFalsely : Prop := fnMomentsRow.holds Try.pinned (OpenSpec.ofChange fnMomentsWrong)

/-- 'laws.FnWires': WHATEVER THE INPUT: true; the input reads as it did. -/
def fnWiresSpec : ChangeSpec := { name := "fnWires", fn := fun _ => fun
  | [d1, d2] => { results := [.lit (.bool true)], args := [d1, d2] }
  | _ => none }
def fnWiresRow : OpenClaim := { program := "ytlehhjphmenfbaa", sum := "e756a72eb9a8c78722647b13d993d4491fab02703237a7f1b912203cda9de1e1", func := "loop.example/g01237/laws.FnWires", spec := "fnWires", inPlace := ["math.sqrt", "math.Float64frombits", "math.Float64bits"], unfollowed := true, recurses := true, apart := false }
def FnWiresSaid : Prop := fnWiresRow.holds Try.pinned (OpenSpec.ofChange fnWiresSpec)

/-- ITS FALSE NEIGHBOUR: 'it returns false'. Refute it at one input. -/
def fnWiresWrong : ChangeSpec := { name := "fnWires", fn := fun _ => fun
  | [d1, d2] => { results := [.lit (.bool false)], args := [d1, d2] }
  | _ => none }
def FnWiresWrongFalsely : Prop := fnWiresRow.holds Try.pinned (OpenSpec.ofChange fnWiresWrong)

/-- 'laws.FnForces': WHATEVER THE INPUT: true; the input reads as it did. -/
def fnForcesSpec : ChangeSpec := { name := "fnForces", fn := fun _ => fun
  | [d1, d2] => { results := [.lit (.bool true)], args := [d1, d2] }
  | _ => none }
def fnForcesRow : OpenClaim := { program := "ytlehhjphmenfbaa", sum := "e756a72eb9a8c78722647b13d993d4491fab02703237a7f1b912203cda9de1e1", func := "loop.example/g01237/laws.FnForces", spec := "fnForces", inPlace := ["math.sqrt"], unfollowed := true, recurses := true, apart := false }
def FnForcesSaid : Prop := fnForcesRow.holds Try.pinned (OpenSpec.ofChange fnForcesSpec)

/-- ITS FALSE NEIGHBOUR: 'it returns false'. Refute it at one input. -/
def fnForcesWrong : ChangeSpec := { name := "fnForces", fn := fun _ => fun
  | [d1, d2] => { results := [.lit (.bool false)], args := [d1, d2] }
  | _ => none }
def FnForcesWrongFalsely : Prop := fnForcesRow.holds Try.pinned (OpenSpec.ofChange fnForcesWrong)

/-- 'laws.FnCouplings': WHATEVER THE INPUT: true; the input reads as it did. -/
def fnCouplingsSpec : ChangeSpec := { name := "fnCouplings", fn := fun _ => fun
  | [d1, d2] => { results := [.lit (.bool true)], args := [d1, d2] }
  | _ => none }
def fnCouplingsRow : OpenClaim := { program := "ytlehhjphmenfbaa", sum := "e756a72eb9a8c78722647b13d993d4491fab02703237a7f1b912203cda9de1e1", func := "loop.example/g01237/laws.FnCouplings", spec := "fnCouplings", inPlace := ["math.sqrt"], unfollowed := true, recurses := true, apart := false }
def FnCouplingsSaid : Prop := fnCouplingsRow.holds Try.pinned (OpenSpec.ofChange fnCouplingsSpec)

/-- ITS FALSE NEIGHBOUR: 'it returns false'. Refute it at one input. -/
def fnCouplingsWrong : ChangeSpec := { name := "fnCouplings", fn := fun _ => fun
  | [d1, d2] => { results := [.lit (.bool false)], args := [d1, d2] }
  | _ => none }
def FnCouplingsWrongFalsely : Prop := fnCouplingsRow.holds Try.pinned (OpenSpec.ofChange fnCouplingsWrong)

/- THE SECOND FORM. 'bulk': how many values and letters a reading holds, each counted each time it is reached (what is shared counts as often as it is met; a slice's spare places count too). A statement '..UptoSaid' is the law's where the arguments, and the package variables that the reading takes, are together of bulk at most 1048576: NARROWER than '..Said'. Prove '..Said' where nothing that the law and all that it calls make is longer than what came in: it says more and counts as full. Else prove '..UptoSaid'. A law counts once. -/
mutual
def uptoBulk {H : Type} : DataW H → Nat
  | .lit (.string bytes) => bytes.length + 1
  | .lit _ => 1
  | .nil => 1
  | .ptr d => uptoBulk d + 1
  | .slice elems spare => uptoBulkAll elems + uptoBulkAll spare + 1
  | .agg parts => uptoBulkAll parts + 1
  | .iface _ d => uptoBulk d + 1
  | .map entries => uptoBulkEntries entries + 1
  | .held _ => 1
def uptoBulkAll {H : Type} : List (DataW H) → Nat
  | [] => 0
  | d :: r => uptoBulk d + uptoBulkAll r
def uptoBulkEntries {H : Type} : List (Lit × DataW H) → Nat
  | [] => 0
  | x :: r => uptoBulkEntry x + uptoBulkEntries r
def uptoBulkEntry {H : Type} : Lit × DataW H → Nat
  | (.string bytes, d) => bytes.length + uptoBulk d + 1
  | (_, d) => uptoBulk d + 1
 end
def uptoSmall : (H : Type) → List (DataW H) → Bool := fun _ ds => decide (uptoBulkAll ds ≤ 1048576)
def OpenSpec.upto (s : _root_.Go.ChangeSpec) : _root_.Go.OpenSpec := { _root_.Go.OpenSpec.ofChange s with cond := some uptoSmall }

/-- 'laws.FnEven', WHERE WHAT IT READS IS OF BULK AT MOST 1048576: true; the input reads as it did. -/
def fnEvenUptoRow : OpenClaim := { program := "ytlehhjphmenfbaa", sum := "e756a72eb9a8c78722647b13d993d4491fab02703237a7f1b912203cda9de1e1", func := "loop.example/g01237/laws.FnEven", spec := "fnEven", inPlace := ["math.Float64frombits", "math.Float64bits", "math.sqrt"], unfollowed := true, recurses := true, apart := false, narrowed := true }
def FnEvenUptoSaid : Prop := fnEvenUptoRow.holds Try.pinned (OpenSpec.upto fnEvenSpec)

/-- 'laws.FnAxis', WHERE WHAT IT READS IS OF BULK AT MOST 1048576: true; the input reads as it did. -/
def fnAxisUptoRow : OpenClaim := { program := "ytlehhjphmenfbaa", sum := "e756a72eb9a8c78722647b13d993d4491fab02703237a7f1b912203cda9de1e1", func := "loop.example/g01237/laws.FnAxis", spec := "fnAxis", inPlace := ["math.Float64frombits", "math.Float64bits", "math.sqrt"], unfollowed := true, recurses := true, apart := false, narrowed := true }
def FnAxisUptoSaid : Prop := fnAxisUptoRow.holds Try.pinned (OpenSpec.upto fnAxisSpec)

/-- 'laws.FnLawsOfFields', WHERE WHAT IT READS IS OF BULK AT MOST 1048576: true; the input reads as it did. -/
def fnLawsOfFieldsUptoRow : OpenClaim := { program := "ytlehhjphmenfbaa", sum := "e756a72eb9a8c78722647b13d993d4491fab02703237a7f1b912203cda9de1e1", func := "loop.example/g01237/laws.FnLawsOfFields", spec := "fnLawsOfFields", inPlace := ["math.sqrt"], unfollowed := true, recurses := true, apart := false, narrowed := true }
def FnLawsOfFieldsUptoSaid : Prop := fnLawsOfFieldsUptoRow.holds Try.pinned (OpenSpec.upto fnLawsOfFieldsSpec)

/-- 'laws.FnFields', WHERE WHAT IT READS IS OF BULK AT MOST 1048576: true; the input reads as it did. -/
def fnFieldsUptoRow : OpenClaim := { program := "ytlehhjphmenfbaa", sum := "e756a72eb9a8c78722647b13d993d4491fab02703237a7f1b912203cda9de1e1", func := "loop.example/g01237/laws.FnFields", spec := "fnFields", inPlace := ["math.Float64frombits", "math.Float64bits", "math.sqrt"], unfollowed := true, recurses := true, apart := false, narrowed := true }
def FnFieldsUptoSaid : Prop := fnFieldsUptoRow.holds Try.pinned (OpenSpec.upto fnFieldsSpec)

/-- 'laws.FnMoments', WHERE WHAT IT READS IS OF BULK AT MOST 1048576: true; the input reads as it did. -/
def fnMomentsUptoRow : OpenClaim := { program := "ytlehhjphmenfbaa", sum := "e756a72eb9a8c78722647b13d993d4491fab02703237a7f1b912203cda9de1e1", func := "loop.example/g01237/laws.FnMoments", spec := "fnMoments", inPlace := ["math.Float64frombits", "math.Float64bits", "math.sqrt"], unfollowed := true, recurses := true, apart := false, narrowed := true }
def FnMomentsUptoSaid : Prop := fnMomentsUptoRow.holds Try.pinned (OpenSpec.upto fnMomentsSpec)

/-- 'laws.FnWires', WHERE WHAT IT READS IS OF BULK AT MOST 1048576: true; the input reads as it did. -/
def fnWiresUptoRow : OpenClaim := { program := "ytlehhjphmenfbaa", sum := "e756a72eb9a8c78722647b13d993d4491fab02703237a7f1b912203cda9de1e1", func := "loop.example/g01237/laws.FnWires", spec := "fnWires", inPlace := ["math.sqrt", "math.Float64frombits", "math.Float64bits"], unfollowed := true, recurses := true, apart := false, narrowed := true }
def FnWiresUptoSaid : Prop := fnWiresUptoRow.holds Try.pinned (OpenSpec.upto fnWiresSpec)

/-- 'laws.FnForces', WHERE WHAT IT READS IS OF BULK AT MOST 1048576: true; the input reads as it did. -/
def fnForcesUptoRow : OpenClaim := { program := "ytlehhjphmenfbaa", sum := "e756a72eb9a8c78722647b13d993d4491fab02703237a7f1b912203cda9de1e1", func := "loop.example/g01237/laws.FnForces", spec := "fnForces", inPlace := ["math.sqrt"], unfollowed := true, recurses := true, apart := false, narrowed := true }
def FnForcesUptoSaid : Prop := fnForcesUptoRow.holds Try.pinned (OpenSpec.upto fnForcesSpec)

/-- 'laws.FnCouplings', WHERE WHAT IT READS IS OF BULK AT MOST 1048576: true; the input reads as it did. -/
def fnCouplingsUptoRow : OpenClaim := { program := "ytlehhjphmenfbaa", sum := "e756a72eb9a8c78722647b13d993d4491fab02703237a7f1b912203cda9de1e1", func := "loop.example/g01237/laws.FnCouplings", spec := "fnCouplings", inPlace := ["math.sqrt"], unfollowed := true, recurses := true, apart := false, narrowed := true }
def FnCouplingsUptoSaid : Prop := fnCouplingsUptoRow.holds Try.pinned (OpenSpec.upto fnCouplingsSpec)

end Rows
end Go.Proofs.Ytlehhjphmenfbaa
