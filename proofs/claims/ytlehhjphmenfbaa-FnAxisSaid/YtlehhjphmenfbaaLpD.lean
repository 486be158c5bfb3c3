/-
  Tables of rings' sines, checked.
-/
import Derived.Test.YtlehhjphmenfbaaLpC
import Derived.Test.YtlehhjphmenfbaaLpB

namespace Go.Fw.E1
open Go.Proofs
set_option maxRecDepth 100000 in
theorem tb_ok : allUpTo (fun v => allUpTo (fun i => vbeq (vsine (fcvt .f32 .f64 (fop .add .f32 (ringQ (Int.ofNat (24 + v)) i) (can .f32 1048576000)))) (rsx v i) && vbeq (vsine (fcvt .f32 .f64 (ringQ (Int.ofNat (24 + v)) i))) (rsy v i)) (24 + v)) 25 = true := by decide +kernel
set_option maxRecDepth 100000 in
theorem rg_ok : allUpTo (fun v => allUpTo (fun r => allUpTo (fun i => band (vgood (rgx v (vr r) i)) (vgood (rgy v (vr r) i))) (24 + v)) 8) 25 = true := by decide +kernel
theorem vr_tab : allUpTo (fun c => vgood (vr c) && (Bool.not (vlow (vr c)) && Nat.ble 1 (vmag (vr c)))) 8 = true := by decide +kernel
theorem vr_good {c : Nat} (h : c < 8) : vgood (vr c) = true := by
  have := allUpTo_iff.1 vr_tab c h
  rw [Bool.and_eq_true] at this
  exact this.1
theorem vr_pos {c : Nat} (h : c < 8) : vlow (vr c) = false ∧ 1 ≤ vmag (vr c) := by
  have := allUpTo_iff.1 vr_tab c h
  rw [Bool.and_eq_true, Bool.and_eq_true, Bool.not_eq_true'] at this
  exact ⟨this.2.1, Nat.le_of_ble_eq_true this.2.2⟩
theorem vh_tab : allUpTo (fun c => vgood (vh c) && vgood (vp c)) 17 = true := by decide +kernel
theorem vh_good {c : Nat} (h : c < 17) : vgood (vh c) = true := by
  have := allUpTo_iff.1 vh_tab c h
  rw [Bool.and_eq_true] at this
  exact this.1
theorem vp_good {c : Nat} (h : c < 17) : vgood (vp c) = true := by
  have := allUpTo_iff.1 vh_tab c h
  rw [Bool.and_eq_true] at this
  exact this.2
set_option maxRecDepth 100000 in
theorem mm_ok : allUpTo (fun c => band (vgood (vMX (vr c))) (band (vgood (vMY (vr c))) (vgood (vMZ (vr c))))) 8 = true := by decide +kernel
set_option maxRecDepth 100000 in
theorem hx_ok : allUpTo (fun r => allUpTo (fun i => band (vgood (vmul (vr r) (vsine (fcvt .f32 .f64 (fop .add .f32 (ringQ (Int.ofNat 12) i) (can .f32 1048576000)))))) (band (vgood (vmul (vr r) (vsine (fcvt .f32 .f64 (ringQ (Int.ofNat 12) i))))) (fin (helixZ (can .f32 1048576000) i)))) 48) 8 = true := by decide +kernel
end Go.Fw.E1
