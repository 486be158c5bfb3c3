/-
  The law of rings' axes.
-/
import Derived.Test.YtlehhjphmenfbaaLpI
import Derived.Test.YtlehhjphmenfbaaLpJ
import Derived.Test.YtlehhjphmenfbaaLpK
import Derived.Test.YtlehhjphmenfbaaLpL
import Derived.Test.YtlehhjphmenfbaaLpM

namespace Go.Fw.E1
open Go.Proofs
theorem rowB_all {i : Nat} (h : i < 17) : rowB i = true := by
  by_cases h1 : i < 5
  · have := allUpTo_iff.1 rowBsa i h1
    rwa [Nat.zero_add] at this
  by_cases h2 : i < 9
  · have := allUpTo_iff.1 rowBsb (i - 5) (by omega)
    rwa [show 5 + (i - 5) = i by omega] at this
  by_cases h3 : i < 13
  · have := allUpTo_iff.1 rowBsc (i - 9) (by omega)
    rwa [show 9 + (i - 9) = i by omega] at this
  · have := allUpTo_iff.1 rowBsd (i - 13) (by omega)
    rwa [show 13 + (i - 13) = i by omega] at this
theorem quart_word : can .f32 1048576000 = lCu (Int.ofNat 0) := by decide +kernel
theorem rep_gX (i : Nat) : Rep .f32 (gX i) (rgx 0 (vr 0) i) := by
  unfold gX
  rw [show ringX 24 (can .f32 1048576000) i = ringX (Int.ofNat (24 + 0)) (lCu (Int.ofNat 0)) i by rw [quart_word]; rfl]
  exact rep_rgx (by omega) (rep_vr (by omega)) i
theorem rep_gY (i : Nat) : Rep .f32 (gY i) (rgy 0 (vr 0) i) := by
  unfold gY
  rw [show ringY 24 (can .f32 1048576000) i = ringY (Int.ofNat (24 + 0)) (lCu (Int.ofNat 0)) i by rw [quart_word]; rfl]
  exact rep_rgy (by omega) (rep_vr (by omega)) i
theorem rep_crX {a b c x y z : Nat} {A B C X Y Z : V} (hb : Rep .f32 b B) (hc : Rep .f32 c C) (hy : Rep .f32 y Y) (hz : Rep .f32 z Z) : Rep .f32 (crX a b c x y z) (vcrX A B C X Y Z) := rep_sub (rep_mul hb hz) (rep_mul hc hy)
theorem rep_crY {a b c x y z : Nat} {A B C X Y Z : V} (ha : Rep .f32 a A) (hc : Rep .f32 c C) (hx : Rep .f32 x X) (hz : Rep .f32 z Z) : Rep .f32 (crY a b c x y z) (vcrY A B C X Y Z) := rep_sub (rep_mul hc hx) (rep_mul ha hz)
theorem rep_crZ {a b c x y z : Nat} {A B C X Y Z : V} (ha : Rep .f32 a A) (hb : Rep .f32 b B) (hx : Rep .f32 x X) (hy : Rep .f32 y Y) : Rep .f32 (crZ a b c x y z) (vcrZ A B C X Y Z) := rep_sub (rep_mul ha hy) (rep_mul hb hx)
section
variable {x y z : Nat → Nat} {X Y Z : Nat → V} {n : Nat} (hx : ∀ i, Rep .f32 (x i) (X i)) (hy : ∀ i, Rep .f32 (y i) (Y i)) (hz : ∀ i, Rep .f32 (z i) (Z i))
include hx hy hz
omit hx in
theorem rep_arX : ∀ k, Rep .f32 (arX (sg n x y z) 0 k) (varX X Y Z n k)
  | 0 => rep0
  | k + 1 => rep_add (rep_arX k) (rep_crX (hy _) (hz _) (hy _) (hz _))
omit hy in
theorem rep_arY : ∀ k, Rep .f32 (arY (sg n x y z) 0 k) (varY X Y Z n k)
  | 0 => rep0
  | k + 1 => rep_add (rep_arY k) (rep_crY (hx _) (hz _) (hx _) (hz _))
omit hz in
theorem rep_arZ : ∀ k, Rep .f32 (arZ (sg n x y z) 0 k) (varZ X Y Z n k)
  | 0 => rep0
  | k + 1 => rep_add (rep_arZ k) (rep_crZ (hx _) (hy _) (hx _) (hy _))
end
theorem rep_05 : Rep .f32 (can .f32 1056964608) v05 := rep_of' (by kernel_rfl)
theorem rep_1 : Rep .f32 (can .f32 1065353216) v1 := rep_of' (by kernel_rfl)
theorem rep_3 : Rep .f32 (can .f32 1077936128) v3 := rep_of' (by kernel_rfl)
theorem rep_gZ (i : Nat) : Rep .f32 (gZ i) (rgz i) := repc0
theorem rep_mX {c : Nat} {C : V} (hc : Rep .f32 c C) : Rep .f32 (mX c) (vMX C) := rep_mul (rep_mul (rep_arX rep_gY rep_gZ 24) rep_05) hc
theorem rep_mY {c : Nat} {C : V} (hc : Rep .f32 c C) : Rep .f32 (mY c) (vMY C) := rep_mul (rep_mul (rep_arY rep_gX rep_gZ 24) rep_05) hc
theorem rep_mZ {c : Nat} {C : V} (hc : Rep .f32 c C) : Rep .f32 (mZ c) (vMZ C) := rep_mul (rep_mul (rep_arZ rep_gX rep_gY 24) rep_05) hc
section
variable {a b c p q r : Nat} {A B C P Q R : V} (ha : Rep .f32 a A) (hb : Rep .f32 b B) (hc : Rep .f32 c C) (hp : Rep .f32 p P) (hq : Rep .f32 q Q) (hr : Rep .f32 r R)
include ha hb hc hp hq hr
theorem rep_ffC {d e : Nat} {D E : V} (hd : Rep .f32 d D) (he : Rep .f32 e E) : Rep .f32 (ffC d e a b c p q r) (vffC D E A B C P Q R) :=
  have i := rep_inn hp hq hr hp hq hr
  rep_mul (rep_sub (rep_mul he (rep_quo (rep_mul rep_3 (rep_inn ha hb hc hp hq hr)) i)) hd) (rep_quo rep_1 (rep_mul i (rep_vsqrt i)))
end
section
variable {c p q s : Nat} {C P Q S : V} (hc : Rep .f32 c C) (hp : Rep .f32 p P) (hq : Rep .f32 q Q) (hs : Rep .f32 s S)
include hc hp hq hs
theorem rep_fFX : Rep .f32 (fFX c p q s) (vFX C P Q S) := rep_ffC (rep_mX hc) (rep_mY hc) (rep_mZ hc) hp hq hs (rep_mX hc) hp
theorem rep_fFY : Rep .f32 (fFY c p q s) (vFY C P Q S) := rep_ffC (rep_mX hc) (rep_mY hc) (rep_mZ hc) hp hq hs (rep_mY hc) hq
theorem rep_fFZ : Rep .f32 (fFZ c p q s) (vFZ C P Q S) := rep_ffC (rep_mX hc) (rep_mY hc) (rep_mZ hc) hp hq hs (rep_mZ hc) hs
theorem rep_bX : Rep .f32 (fwX 24 gX gY gZ true c p q s) (vmul (bSX P Q S) C) := by
  unfold bSX
  rw [usegX_eq]
  exact rep_mul (rep_fX rep_gX rep_gY rep_gZ hp hq hs 24) hc
theorem rep_bY : Rep .f32 (fwY 24 gX gY gZ true c p q s) (vmul (bSY P Q S) C) := by
  unfold bSY
  rw [usegY_eq]
  exact rep_mul (rep_fY rep_gX rep_gY rep_gZ hp hq hs 24) hc
theorem rep_bZ : Rep .f32 (fwZ 24 gX gY gZ true c p q s) (vmul (bSZ P Q S) C) := by
  unfold bSZ
  rw [usegZ_eq]
  exact rep_mul (rep_fZ rep_gX rep_gY rep_gZ hp hq hs 24) hc
end
theorem sq_mag {w : Nat} {v : V} (hr : Rep .f32 w v) (hg : vgood v = true) : ∃ a, Val .f32 w a ∧ a * a * (unit .f32 * unit .f32) = ((sqm v : Nat) : Rat) := by
  obtain ⟨a, h1, h2⟩ := mag_val hr hg
  refine ⟨a, h1, ?_⟩
  have e : ((sqm v : Nat) : Rat) = ((vmag v : Nat) : Rat) * ((vmag v : Nat) : Rat) := Rat.natCast_mul _ _
  rw [e]
  rcases h2 with ⟨h2, _⟩ | ⟨h2, _⟩
  · rw [← h2]; grind
  · have : ((vmag v : Nat) : Rat) = -(a * unit .f32) := by grind
    rw [this]; grind
theorem k002_val : Val .f64 (can .f64 4581421828931458171) (5764607523034235 / 288230376151711744) := Val.of_vof (by decide +kernel)
theorem k1e5_val : Val .f64 (can .f64 4532020583610935537) (5902958103587057 / 590295810358705651712) := Val.of_vof (by decide +kernel)
theorem near4 {i j k c : Nat} (hi : i < 17) (hj : j < 17) (hk : k < 17) (hc : c < 8) :
    C4p (lCu (Int.ofNat c)) (fop .add .f32 (qw i) (can .f32 1086324736)) (qw j) (qw k) true = true ∧ nr4 (lCu (Int.ofNat c)) (fop .add .f32 (qw i) (can .f32 1086324736)) (qw j) (qw k) = true ∧ vfin (mX (lCu (Int.ofNat c))) (mY (lCu (Int.ofNat c))) (mZ (lCu (Int.ofNat c))) = true := by
  have ch := allUpTo_iff.1 (allUpTo_iff.1 (allUpTo_iff.1 (rowB_all hi) j hj) k hk) c hc
  have ch : okB (bSX (vp i) (vh j) (vh k)) (bSY (vp i) (vh j) (vh k)) (bSZ (vp i) (vh j) (vh k)) (vr c) (vp i) (vh j) (vh k) = true := ch
  have rC := rep_vr hc
  have rP := (rep_qw hi).2
  have rQ := (rep_qw hj).1
  have rS := (rep_qw hk).1
  unfold okB okB2 at ch
  obtain ⟨a1, ch⟩ := bandT ch
  obtain ⟨a2, ch⟩ := bandT ch
  obtain ⟨a3, ch⟩ := bandT ch
  obtain ⟨b1', ch⟩ := bandT ch
  obtain ⟨b2', ch⟩ := bandT ch
  obtain ⟨b3', ch⟩ := bandT ch
  obtain ⟨c1, ch⟩ := bandT ch
  obtain ⟨c2, ch⟩ := bandT ch
  obtain ⟨c3, ch⟩ := bandT ch
  obtain ⟨d, ch⟩ := bandT ch
  obtain ⟨d1, d⟩ := bandT d
  obtain ⟨d2, d3⟩ := bandT d
  obtain ⟨g, e⟩ := bandT ch
  have e := Nat.le_of_ble_eq_true e
  have fwx := rep_bX rC rP rQ rS
  have fwy := rep_bY rC rP rQ rS
  have fwz := rep_bZ rC rP rQ rS
  have ffx := rep_fFX rC rP rQ rS
  have ffy := rep_fFY rC rP rQ rS
  have ffz := rep_fFZ rC rP rQ rS
  have dx := rep_sub fwx ffx
  have dy := rep_sub fwy ffy
  have dz := rep_sub fwz ffz
  have vP : fin (fop .add .f32 (qw i) (can .f32 1086324736)) = true := rep_fin rP (vp_good hi)
  have vQ : fin (qw j) = true := rep_fin rQ (vh_good hj)
  have vS : fin (qw k) = true := rep_fin rS (vh_good hk)
  have vC : fin (lCu (Int.ofNat c)) = true := rep_fin rC (vr_good hc)
  have hm := rep_fin (rep_mX rC) (allUpTo_iff.1 mm_ok c hc |> fun h => (bandT h).1)
  have hm2 := rep_fin (rep_mY rC) (allUpTo_iff.1 mm_ok c hc |> fun h => (bandT (bandT h).2).1)
  have hm3 := rep_fin (rep_mZ rC) (allUpTo_iff.1 mm_ok c hc |> fun h => (bandT (bandT h).2).2)
  have hM : vfin (mX (lCu (Int.ofNat c))) (mY (lCu (Int.ofNat c))) (mZ (lCu (Int.ofNat c))) = true := by
    unfold vfin; rw [hm, hm2, hm3]; rfl
  have hw : okW 24 (lCu (Int.ofNat c)) gX gY gZ = true := by
    unfold okW
    rw [decide_eq_true (show 2 ≤ 24 ∧ 24 ≤ 48 by omega), vC, Bool.true_and, Bool.true_and]
    refine allUpTo_iff.2 fun i hi => ?_
    obtain ⟨g1, g2⟩ := ring_good (v := 0) (r := 0) (by omega) (by omega) (i := i) (by omega)
    unfold vfinAt vfin
    rw [rep_fin (rep_gX i) g1, rep_fin (rep_gY i) g2, show fin (gZ i) = true from fin0]; rfl
  have o1 : fOk 24 (lCu (Int.ofNat c)) gX gY gZ true (fop .add .f32 (qw i) (can .f32 1086324736)) (qw j) (qw k) = true := by
    have v1 : vfin (fwX 24 gX gY gZ true (lCu (Int.ofNat c)) (fop .add .f32 (qw i) (can .f32 1086324736)) (qw j) (qw k)) (fwY 24 gX gY gZ true (lCu (Int.ofNat c)) (fop .add .f32 (qw i) (can .f32 1086324736)) (qw j) (qw k)) (fwZ 24 gX gY gZ true (lCu (Int.ofNat c)) (fop .add .f32 (qw i) (can .f32 1086324736)) (qw j) (qw k)) = true := by
      unfold vfin; rw [rep_fin fwx a1, rep_fin fwy a2, rep_fin fwz a3]; rfl
    have v2 : vfin (fop .add .f32 (qw i) (can .f32 1086324736)) (qw j) (qw k) = true := by
      unfold vfin; rw [vP, vQ, vS]; rfl
    unfold fOk
    rw [hw, v2, cond_true, Bool.true_and]
    exact v1
  refine ⟨?_, ?_, hM⟩
  · unfold C4p
    rw [o1, hM]
    unfold vfin
    rw [vP, vQ, vS, rep_fin ffx b1', rep_fin ffy b2', rep_fin ffz b3']; rfl
  · obtain ⟨x, X1, X2⟩ := sq_mag dx c1
    obtain ⟨y, Y1, Y2⟩ := sq_mag dy c2
    obtain ⟨z, Z1, Z2⟩ := sq_mag dz c3
    obtain ⟨p, P1, P2⟩ := sq_mag ffx b1'
    obtain ⟨q, Q1, Q2⟩ := sq_mag ffy b2'
    obtain ⟨s, S1, S2⟩ := sq_mag ffz b3'
    obtain ⟨p', P3, P4⟩ := near_mag (q := 10) ffx (bandT d1).1 (Nat.le_of_ble_eq_true (bandT d1).2) (by decide +kernel)
    obtain ⟨q', Q3, Q4⟩ := near_mag (q := 10) ffy (bandT d2).1 (Nat.le_of_ble_eq_true (bandT d2).2) (by decide +kernel)
    obtain ⟨s', S3, S4⟩ := near_mag (q := 10) ffz (bandT d3).1 (Nat.le_of_ble_eq_true (bandT d3).2) (by decide +kernel)
    obtain rfl := P1.unique P3
    obtain rfl := Q1.unique Q3
    obtain rfl := S1.unique S3
    have e := Rat.natCast_le_natCast.2 e
    have cm : ∀ a b : Nat, ((Nat.mul a b : Nat) : Rat) = (a : Rat) * (b : Rat) := fun a b => Rat.natCast_mul a b
    have ca : ∀ a b : Nat, ((Nat.add a b : Nat) : Rat) = (a : Rat) + (b : Rat) := fun a b => Rat.natCast_add a b
    rw [cm, ca, ca, ca, ca, ← X2, ← Y2, ← Z2, ← P2, ← Q2, ← S2] at e
    have u0 := unit_pos .f32
    have uu := Rat.mul_pos u0 u0
    have e4 : ((10000 : Nat) : Rat) = 10000 := rfl
    rw [e4] at e
    have E : 10000 * (x * x + y * y + z * z) ≤ p * p + q * q + s * s := by
      refine Rat.le_of_mul_le_mul_right (c := unit .f32 * unit .f32) ?_ uu
      grind
    have k1 := P4.mul P4
    have k2 := Q4.mul Q4
    have k3 := S4.mul S4
    have h400 : (4800 : Rat) ≤ most := by decide +kernel
    obtain ⟨l, L1, L2, L3⟩ := long_valL X1 Y1 Z1 rfl (by unfold Near at k1 k2 k3; grind)
    obtain ⟨f, F1, F2, F3⟩ := long_valL P1 Q1 S1 rfl (by unfold Near at k1 k2 k3; grind)
    have f20 : f ≤ 20 := by
      refine le_of_sq (by decide) ?_
      have : 300 * (4 * e22) + 32 * tiny .f32 + 300 ≤ 20 * 20 := by decide +kernel
      have ep := e22_pos
      have := Rat.mul_le_mul_of_nonneg_right (show p * p + q * q + s * s ≤ 300 by unfold Near at k1 k2 k3; grind) (Rat.le_of_lt ep)
      unfold Near at k1 k2 k3 F3
      grind
    have l1 : l ≤ 11 / 1000 * f + 1 / 1000000 := by
      refine le_of_sq (by have := Rat.mul_nonneg (show (0 : Rat) ≤ 11 / 1000 by decide +kernel) F2; have : (0 : Rat) ≤ 1 / 1000000 := by decide +kernel
                          grind) ?_
      have ep := e22_pos
      have es : e22 * 1024 ≤ 1 := by decide +kernel
      have d0 : 0 ≤ x * x + y * y + z * z := by have := sqn x; have := sqn y; have := sqn z; grind
      have f0 : 0 ≤ p * p + q * q + s * s := by have := sqn p; have := sqn q; have := sqn s; grind
      have m1 := small_mul d0 ep es
      have m2 := small_mul f0 ep es
      have t1 : 64 * tiny .f32 * 10000 ≤ 1 / 1000000 * (1 / 1000000) := by decide +kernel
      have tp := tiny_pos .f32
      have q0 := Rat.mul_nonneg (show (0 : Rat) ≤ 22 / 1000 * (1 / 1000000) by decide +kernel) F2
      have k121 : (11 / 1000 : Rat) * (11 / 1000) = 121 / 1000000 := by decide +kernel
      have k22 : (11 / 1000 : Rat) * (1 / 1000000) + 11 / 1000 * (1 / 1000000) = 22 / 1000 * (1 / 1000000) := by decide +kernel
      have r1 : (11 / 1000 * f + 1 / 1000000) * (11 / 1000 * f + 1 / 1000000) = 121 / 1000000 * (f * f) + 22 / 1000 * (1 / 1000000) * f + 1 / 1000000 * (1 / 1000000) := by grind
      rw [r1]
      have r2 := Rat.mul_le_mul_of_nonneg_left (show (p * p + q * q + s * s) - (p * p + q * q + s * s) * (4 * e22) - 32 * tiny .f32 ≤ f * f by unfold Near at F3; grind) (show (0 : Rat) ≤ 121 / 1000000 by decide +kernel)
      have g1 : l * l ≤ (x * x + y * y + z * z) + (x * x + y * y + z * z) * (4 * e22) + 32 * tiny .f32 := by unfold Near at L3; grind
      have g2 := Rat.mul_le_mul_of_nonneg_left E (show (0 : Rat) ≤ 1 / 10000 by decide +kernel)
      have k3 : (1 / 10000 : Rat) * 10000 = 1 := by decide +kernel
      have g3 : x * x + y * y + z * z ≤ 1 / 10000 * (p * p + q * q + s * s) := by grind
      have g4 := Rat.mul_le_mul_of_nonneg_right g3 (show 0 ≤ 4 * e22 by grind)
      have k5 : (121 / 1000000 : Rat) = 1 / 10000 + 21 / 1000000 := by decide +kernel
      have k6 : (21 / 1000000 : Rat) * 5 ≥ 1 / 10000 := by decide +kernel
      have g5 := Rat.mul_le_mul_of_nonneg_right k6 f0
      have k7 : (1 / 10000 : Rat) * (4 * e22) + 121 / 1000000 * (4 * e22) ≤ 1 / 1000000 := by decide +kernel
      have g6 := Rat.mul_le_mul_of_nonneg_right k7 f0
      have k8 : (21 / 1000000 : Rat) = 1 / 1000000 + 20 / 1000000 := by decide +kernel
      have g7 := Rat.mul_nonneg (show (0 : Rat) ≤ 20 / 1000000 by decide +kernel) f0
      have k9 : 32 * tiny .f32 + 121 / 1000000 * (32 * tiny .f32) ≤ 1 / 1000000 * (1 / 1000000) := by decide +kernel
      generalize p * p + q * q + s * s = F at *
      generalize x * x + y * y + z * z = D at *
      grind
    have c1' : (5764607523034235 / 288230376151711744 : Rat) ≤ 1 / 20 := by decide +kernel
    have c2' : (199 / 10000 : Rat) ≤ 5764607523034235 / 288230376151711744 := by decide +kernel
    have q1 := Rat.mul_le_mul_of_nonneg_right c1' F2
    have q2 := Rat.mul_le_mul_of_nonneg_right c2' F2
    have q3 := Rat.mul_nonneg (show (0 : Rat) ≤ 199 / 10000 by decide +kernel) F2
    have q4 : 1 / 20 * f ≤ 1 := by
      have := Rat.mul_le_mul_of_nonneg_left f20 (show (0 : Rat) ≤ 1 / 20 by decide +kernel)
      exact Rat.le_trans this (by decide +kernel)
    obtain ⟨m, M1, M2⟩ := k002_val.mul F1.widen (X := 1) (by unfold Near; constructor <;> grind) (by decide +kernel)
    have t1 : (1 : Rat) * ur .f64 + tiny .f64 ≤ 1 / 1000000000 := by decide +kernel
    have k5 : (9 / 1000000 : Rat) ≤ 5902958103587057 / 590295810358705651712 := by decide +kernel
    have k6 : (5902958103587057 / 590295810358705651712 : Rat) ≤ 1 / 1000 := by decide +kernel
    have t0 : (0 : Rat) ≤ 1 / 1000000000 := by decide +kernel
    have t2 : (1 / 1000000000 : Rat) + 1 / 1000 ≤ 1 := by decide +kernel
    have t3 : (2 : Rat) * ur .f64 + tiny .f64 ≤ 1 / 1000000000 := by decide +kernel
    have k50 : (0 : Rat) ≤ 9 / 1000000 := by decide +kernel
    obtain ⟨n, N1, N2⟩ := M1.add k1e5_val (X := 2) (by unfold Near at M2; unfold Near; constructor <;> grind) (by decide +kernel)
    have k10 : (1 / 1000000 : Rat) + 1 / 1000000000 + 1 / 1000000000 < 9 / 1000000 := by decide +kernel
    have k11 := Rat.mul_le_mul_of_nonneg_right (show (11 / 1000 : Rat) ≤ 199 / 10000 by decide +kernel) F2
    unfold nr4
    rw [forder_lt L1.widen N1 (by unfold Near at M2 N2; grind)]; rfl
theorem z_ok : (Z4a && Z4b && Z4c) = true := by decide +kernel
theorem helix4 {v r c : Nat} (hv : v < 25) (hr : r < 8) (hc : c < 8) : helixOk (Int.ofNat (24 + v)) (Int.ofNat 12) (lCu (Int.ofNat r)) (can .f32 1048576000) (lCu (Int.ofNat c)) = true := by
  have e1 : inN (Int.ofNat (24 + v)) = true := by
    unfold inN
    rw [decide_eq_true (show Int.ofNat (24 + v) ≥ 2 by simp; omega), decide_eq_true (show Int.ofNat (24 + v) ≤ 48 by simp; omega)]; rfl
  have e2 : inM (Int.ofNat 12) = true := by decide
  unfold helixOk
  rw [e1, e2, above_vr hr, show (Int.ofNat (24 + v)).toNat = 24 + v from rfl, Bool.true_and, Bool.true_and, Bool.true_and]
  unfold okW
  rw [decide_eq_true (show 2 ≤ 24 + v ∧ 24 + v ≤ 48 by omega), rep_fin (rep_vr hc) (vr_good hc), Bool.true_and, Bool.true_and]
  refine allUpTo_iff.2 fun i hi => ?_
  have := allUpTo_iff.1 (allUpTo_iff.1 hx_ok r hr) i (by omega)
  obtain ⟨g1, g⟩ := bandT this
  obtain ⟨g2, g3⟩ := bandT g
  unfold vfinAt vfin
  have f1 : fin (ringX (Int.ofNat 12) (lCu (Int.ofNat r)) i) = true := rep_fin (rep_mul (rep_vr hr) (rep_sine _)) g1
  have f2 : fin (ringY (Int.ofNat 12) (lCu (Int.ofNat r)) i) = true := rep_fin (rep_mul (rep_vr hr) (rep_sine _)) g2
  rw [f1, f2, g3]; rfl
theorem law4 {la lc : Nat} {b c : Nat → Nat} (hb : ∀ i, b i < 256) (hc : ∀ i, c i < 256) : PureCall Try.prog 4 [.ro 1 la (.gen fun i => .int .u8 (Int.ofNat (b i))), .ro 1 lc (.gen fun i => .int .u8 (Int.ofNat (c i)))] (.bool true) := by
  by_cases h : la ≤ 48 ∧ lc ≤ 48
  · obtain ⟨i0, I0, A0⟩ := r8c_ex (la := lc) hc 0 (k := 0) (by omega)
    obtain ⟨i1, I1, A1⟩ := r8c_ex (la := lc) hc 0 (k := 1) (by omega)
    obtain ⟨i2, I2, A2⟩ := r8c_ex (la := lc) hc 0 (k := 2) (by omega)
    obtain ⟨v, hv, E0⟩ := r8a_ex (la := la) hb 0 (n := 25) (by omega)
    obtain ⟨r, hr, E1⟩ := r8a_ex (la := la) hb 1 (n := 8) (by omega)
    obtain ⟨g, hg, E2⟩ := r8a_ex (la := la) hb 2 (n := 17) (by omega)
    obtain ⟨w, hw, E3⟩ := r8a_ex (la := la) hb 3 (n := 8) (by omega)
    have E0 : r8a la b 0 25 = Int.ofNat v := E0
    have E1 : r8a la b 1 8 = Int.ofNat r := E1
    have E2 : r8a la b 2 17 = Int.ofNat g := E2
    have E3 : r8a la b 3 8 = Int.ofNat w := E3
    have W := walk4 la b lc c
    rw [E0, E1, E2, E3, A0, A1, A2, ring_N hv] at W
    obtain ⟨K1, K2, K3⟩ := near4 I0 I1 I2 hw
    have K4 := axis4 hv hr hg hw
    have z := z_ok
    simp only [Bool.and_eq_true] at z
    have hR : R4 (lCu (Int.ofNat w)) (fop .add .f32 (qw i0) (can .f32 1086324736)) (qw i1) (qw i2) = true := by
      unfold R4
      rw [K2, z.1.1, z.1.2, z.2]; rfl
    rw [hR] at W
    refine autoW_ok cfgX2_ok Try.func4 (by kernel_rfl) (lp_none _) W ?_
    have hc4 : ∀ x, x = true → C4p (lCu (Int.ofNat w)) (fop .add .f32 (qw i0) (can .f32 1086324736)) (qw i1) (qw i2) x = true := fun x hx => by rw [hx]; exact K1
    have hr4 : ∀ x, x = true → C4r (Int.ofNat (24 + v)) (lCu (Int.ofNat r)) (lCu (Int.ofNat w)) (hH (Int.ofNat g)) x = true := fun x hx => by rw [hx]; exact K4
    have r24 : ringOk (Int.ofNat 24) (can .f32 1048576000) (can .f32 0) (lCu (Int.ofNat w)) = true := by
      rw [quart_word]
      exact ring_ok4 (v := 0) (r := 0) (by omega) (by omega) hw fin0
    have w24 : okW 24 (lCu (Int.ofNat w)) gX gY gZ = true := by
      have := ring_okW (v := 0) (r := 0) (h := can .f32 0) (by omega) (by omega) hw fin0
      rw [← quart_word] at this
      exact this
    have pk : pairOk (Int.ofNat (24 + v)) (lCu (Int.ofNat r)) (can .f32 1056964608) (lCu (Int.ofNat w)) = true := by
      unfold pairOk
      rw [ring_ok4 hv hr hw (show fin (hlf (can .f32 1056964608)) = true by decide +kernel), ring_ok4 hv hr hw (show fin (nhlf (can .f32 1056964608)) = true by decide +kernel)]
      decide +kernel
    have ce : C4e (Int.ofNat (24 + v)) (lCu (Int.ofNat w)) (fop .add .f32 (qw i0) (can .f32 1086324736)) (qw i1) (qw i2) = true := by
      unfold C4e
      rw [show (Int.ofNat (24 + v)).toNat = 24 + v from rfl, decide_eq_true (show 0 < Int.ofNat (24 + v) by simp; omega), decide_eq_true (show 2 < Int.ofNat (24 + v) by simp; omega)]; rfl
    have ne : (Int.ofNat (Int.ofNat (24 + v)).toNat != Int.ofNat (24 + v)) = false := by
      rw [show (Int.ofNat (24 + v)).toNat = 24 + v from rfl]; simp
    unfold C4
    rw [u8_all hb, u8_all hc, decide_eq_false (show ¬ Int.ofNat la > 48 by simp; omega), decide_eq_false (show ¬ Int.ofNat lc > 48 by simp; omega),
      hr4 _ (by rw [r24, w24, K3, hc4 _ (by rw [pk, helix4 hv hr hw, ne, ce]; rfl)]; rfl)]; rfl
  · refine autoW_ok cfgX2_ok Try.func4 (by kernel_rfl) (lp_none _) (long4 la b lc c) ?_
    by_cases h1 : la ≤ 48
    · rw [decide_eq_false (show ¬ Int.ofNat la > 48 by simp; omega), decide_eq_true (show Int.ofNat lc > 48 by simp; omega)]; rfl
    · rw [decide_eq_true (show Int.ofNat la > 48 by simp; omega)]; rfl
end Go.Fw.E1
