/-
  The Go function 'laws.FnExactPairOfRings' returns true for every input, and each argument reads afterwards as it read before; no condition.
-/
import Derived.Test.YtbfoochpinkpgaaLpD
import Derived.Test.YtbfoochpinkpgaaRows

namespace Go.Proofs.Ytbfoochpinkpgaa.fnExactPairOfRingsDone
open Go.ChangeShapes Go.WideShapes Go.ChangeAt Go.RowKit
open Go.Fw Go.Fw.W1

set_option maxRecDepth 100000 in
theorem lifted (os : Os) (started : os.Started) (H : Type) (enc : TypeId × Value → H) :
    ReturnsInHanded {} Try.checked os 9 .any (Rows.fnExactPairOfRingsSpec.pre6 enc Try.prog Try.f9 Rows.fnExactPairOfRingsRow.domain false) (Rows.fnExactPairOfRingsSpec.post enc Try.prog Try.f9 false true false false) := by
  refine returnsInHanded_of_change (C := Try.checked) own started (by kernel_rfl) Try.func9
    (ChangeSpec.witness6 (enc := enc) (C := Try.checked) false ⟨#[], #[.int .i64 0, .float .f32 0, .float .f32 0, .float .f32 0], []⟩ 8 (by kernel_rfl) (by kernel_rfl) (by kernel_rfl) (by kernel_rfl)) ?_
  intro W base args ds gs before hval0 hW hcnd _
  have hval : ∀ (j : Nat) t v, Try.f9.params[j]? = some t → args[j]? = some v → Value.okWide Try.prog W .any base t v := hval0
  have hW' := hW
  obtain ⟨p, q, hA0, hV, rfl, hfz, hnd⟩ := hW
  have hA : DataW.TrodAll enc Try.prog W 0 (fun _ => true) true Try.f9.params.toList args.toList ds p := hA0
  rw [Try.params9] at hA hval
  obtain ⟨v0, vs0, d0, ds0, p0, q0, hargs, rfl, rfl, h0, r0⟩ := trodAll_cons hA
  obtain ⟨v1, vs1, d1, ds1, p1, q1, rfl, rfl, rfl, h1, r1⟩ := trodAll_cons r0
  obtain ⟨v2, vs2, d2, ds2, p2, q2, rfl, rfl, rfl, h2, r2⟩ := trodAll_cons r1
  obtain ⟨v3, vs3, d3, ds3, p3, q3, rfl, rfl, rfl, h3, r3⟩ := trodAll_cons r2
  obtain ⟨rfl, rfl, rfl⟩ := trodAll_nil r3
  obtain rfl : args = #[v0, v1, v2, v3] := by cases args; simp_all
  obtain ⟨rfl, rfl⟩ := trodVars_none hV
  obtain ⟨a0, rfl, rfl, rfl, w0⟩ := open_int Try.underlying2 (hval 0 2 v0 rfl rfl) h0
  obtain ⟨a1, rfl, rfl, rfl, w1⟩ := Go.ChangeShapes.open_float Try.underlying24 (hval 1 24 v1 rfl rfl) h1
  obtain ⟨a2, rfl, rfl, rfl, w2⟩ := Go.ChangeShapes.open_float Try.underlying24 (hval 2 24 v2 rfl rfl) h2
  obtain ⟨a3, rfl, rfl, rfl, w3⟩ := Go.ChangeShapes.open_float Try.underlying24 (hval 3 24 v3 rfl rfl) h3
  clear hA0 hval0
  have pure := law9 (int_fits w0) (show FltA (.flt .f32 (can .f32 a1)) from ⟨_, ⟨a1, FR.mk w1⟩, rfl⟩) (show FltA (.flt .f32 (can .f32 a2)) from ⟨_, ⟨a2, FR.mk w2⟩, rfl⟩) (show FltA (.flt .f32 (can .f32 a3)) from ⟨_, ⟨a3, FR.mk w3⟩, rfl⟩)
  refine (pure.bool (w := W) (vs := _) rfl (fun i hi => ?_)).mono fun e W' ⟨he, bel⟩ => ?_
  · match i, hi with
    | 0, _ => exact (RelD.int .i64 a0)
    | 1, _ => exact (RelD.flt (FR.mk w1))
    | 2, _ => exact (RelD.flt (FR.mk w2))
    | 3, _ => exact (RelD.flt (FR.mk w3))
    | i + 4, hi => exact absurd (show i + 4 < 4 from hi) (by omega)
  · subst he
    exact ⟨_, rfl, _, _, _, [], _, [], hW', trodAll_mk1 (shut_bool Try.underlying4 _), (trodAll_cons_mk (shut_int Try.underlying2 w0) (trodAll_cons_mk (Go.ChangeShapes.shut_float Try.underlying24 w1) (trodAll_cons_mk (Go.ChangeShapes.shut_float Try.underlying24 w2) (trodAll_cons_mk (Go.ChangeShapes.shut_float Try.underlying24 w3) trodAll_mk0)))), rfl, bel.frame _, fun h => by cases h⟩

theorem over : Rows.fnExactPairOfRingsRow.holds Try.pinned (OpenSpec.ofChange Rows.fnExactPairOfRingsSpec) :=
  OpenClaim.holds_of_wide 9 Try.f9 rfl rfl rfl rfl rfl rfl rfl ⟨rfl, rfl, rfl, rfl, rfl⟩ rfl rfl rfl rfl rfl (by kernel_rfl) Try.func9 (by kernel_rfl)
    (of_decide_eq_true (by kernel_rfl)) (by unfold Func.isWrapper; first | (rw [if_pos (by decide +kernel)]; kernel_rfl) | (rw [if_neg (by decide +kernel)]; exact ⟨rfl, rfl⟩))
    (fun os started H enc _ => lifted os started H enc)

end Go.Proofs.Ytbfoochpinkpgaa.fnExactPairOfRingsDone
namespace Go.Proofs.Ytbfoochpinkpgaa
theorem fnExactPairOfRings_holds : Rows.FnExactPairOfRingsSaid := fnExactPairOfRingsDone.over
#print axioms fnExactPairOfRings_holds
end Go.Proofs.Ytbfoochpinkpgaa
