/-
  Words that bytes choose, as quarters; gaps and distances as fractions.
-/
import Derived.Test.YtlehhjphmenfbaaLpC
import Derived.Test.YtlehhjphmenfbaaFwD
import Derived.Test.YtlehhjphmenfbaaLpD
import Derived.Test.YtlehhjphmenfbaaLpE
import Derived.Test.YtlehhjphmenfbaaLpF
import Derived.Test.YtlehhjphmenfbaaLpG

namespace Go.Fw.E1
open Go.Proofs
/-- The word of (j - 8) / 4. -/
def qw (j : Nat) : Nat := [3221225472, 3219128320, 3217031168, 3214934016, 3212836864, 3208642560, 3204448256, 3196059648, 0, 1048576000, 1056964608, 1061158912, 1065353216, 1067450368, 1069547520, 1071644672, 1073741824].getD j 0
set_option maxRecDepth 100000 in
theorem r8q_tab : allUpTo (fun v => Nat.beq (r8q v) (qw (v % 17))) 256 = true := by decide +kernel
theorem r8q_eq {v : Nat} (h : v < 256) : r8q v = qw (v % 17) := Nat.eq_of_beq_eq_true (allUpTo_iff.1 r8q_tab v h)
theorem r8d_tab : (Nat.beq (r8d 0) (qw 12) && Nat.beq (r8d 1) (qw 10) && Nat.beq (r8d 2) (qw 7)) = true := by decide +kernel
theorem r8c_ex {la : Nat} {b : Nat → Nat} (hb : ∀ i, b i < 256) (p : Nat) {k : Nat} (hk : k < 3) : ∃ j, j < 17 ∧ r8c la b p k = qw j := by
  by_cases h : p + k < la
  · exact ⟨b (p + k) % 17, Nat.mod_lt _ (by omega), by rw [r8c_in h, r8q_eq (hb _)]⟩
  · rw [r8c_out h]
    have := r8d_tab
    simp only [Bool.and_eq_true] at this
    match k, hk with
    | 0, _ => exact ⟨12, by omega, Nat.eq_of_beq_eq_true this.1.1⟩
    | 1, _ => exact ⟨10, by omega, Nat.eq_of_beq_eq_true this.1.2⟩
    | 2, _ => exact ⟨7, by omega, Nat.eq_of_beq_eq_true this.2⟩
set_option maxRecDepth 100000 in
theorem qw_tab : allUpTo (fun j => isV .f32 (vof .f32 (qw j)) (((Int.ofNat j - 8 : Int) : Rat) * (1 / 4))) 17 = true := by decide +kernel
theorem qw_qt {j : Nat} (h : j < 17) : Qt (qw j) (Int.ofNat j - 8) := Val.of_vof (allUpTo_iff.1 qw_tab j h)
/-- What has a value is finite. -/
theorem fin_val {x : Nat} {q : Rat} (h : Val .f32 x q) : fin x = true := by
  obtain ⟨n, h, _⟩ := h
  have h2 : Fin .f32 (fop .sub .f32 x x) 0 := by
    have := Fin.sub h h
    rw [Int.sub_self, rI_0] at this
    exact this (limK_pos _)
  unfold fin
  have h0 : Fin .f32 (can .f32 0) 0 := by
    have : Rep .f32 (can .f32 0) .zero := by rw [show can .f32 0 = 0 by decide +kernel]; exact rep_of .f32 0
    exact this
  rw [Fin.order h2 h0]
  rfl
theorem vfin_val {x y z : Nat} {p q r : Rat} (hx : Val .f32 x p) (hy : Val .f32 y q) (hz : Val .f32 z r) : vfin x y z = true := by
  unfold vfin
  rw [fin_val hx, fin_val hy, fin_val hz]; rfl
theorem gt0_val {x : Nat} {q : Rat} (h : Val .f32 x q) (h0 : 0 < q) : above x = true := by
  unfold above
  rw [fin_val h]
  unfold gt0
  have hz : Val .f32 (can .f32 0) 0 := Val.of_vof (by decide +kernel)
  rw [forder_gt h hz h0]; rfl
/-- The numbers that the laws compare with. -/
def k001 : Rat := 4611686018427388 / 4611686018427387904
theorem k001_val : Val .f64 (can .f64 4562254508917369340) k001 := Val.of_vof (by decide +kernel)
theorem zero64 : Val .f64 (can .f64 0) 0 := Val.of_vof (by decide +kernel)
theorem gap_val {x y : Nat} {a b t : Rat} (hx : Val .f64 x a) (hy : Val .f64 y b) (h : Near (a - b) t) (ht : t ≤ 1) : ∃ g, Val .f64 (gap8 x y) g ∧ g ≤ t + 1 / 2 ^ 50 := by
  have hm : t ≤ most := Rat.le_trans ht (by decide +kernel)
  obtain ⟨c, h1, h2⟩ := hx.sub hy h hm
  obtain ⟨d, h3, h4⟩ := hy.sub hx (X := t) (by unfold Near at *; constructor <;> grind) hm
  refine ⟨_, fmax_val h1 h3, ?_⟩
  have hu : ur .f64 + tiny .f64 ≤ 1 / 2 ^ 50 := by decide +kernel
  have hup := ur_pos .f64
  have := Rat.mul_le_mul_of_nonneg_right ht (Rat.le_of_lt hup)
  unfold Near at *
  split <;> grind
theorem gap_lt {x y K : Nat} {a b t k : Rat} (hx : Val .f64 x a) (hy : Val .f64 y b) (h : Near (a - b) t) (hK : Val .f64 K k) (ht : t ≤ 1) (hk : t + 1 / 2 ^ 50 < k) : (forder .f64 (gap8 x y) K == some .lt) = true := by
  obtain ⟨g, h1, h2⟩ := gap_val hx hy h ht
  rw [forder_lt h1 hK (by grind)]; rfl
theorem gap_ngt {x y K : Nat} {a b t k : Rat} (hx : Val .f64 x a) (hy : Val .f64 y b) (h : Near (a - b) t) (hK : Val .f64 K k) (ht : t ≤ 1) (hk : t + 1 / 2 ^ 50 < k) : (forder .f64 (gap8 x y) K == some .gt) = false := by
  obtain ⟨g, h1, h2⟩ := gap_val hx hy h ht
  rw [forder_lt h1 hK (by grind)]; rfl
/-- A length of small numbers. -/
theorem long_near {a b c : Nat} {x y z t : Rat} (ha : Val .f32 a x) (hb : Val .f32 b y) (hc : Val .f32 c z) (hx : Near x t) (hy : Near y t) (hz : Near z t) (ht : t ≤ 1) : ∃ l, Val .f32 (long a b c) l ∧ 0 ≤ l ∧ l ≤ 2 * t + 1 / 2 ^ 50 := by
  have t0 := hx.nonneg
  have k1 := hx.mul hx
  have k2 := hy.mul hy
  have k3 := hz.mul hz
  have tt : t * t ≤ 1 * 1 := sq_mono t0 ht
  obtain ⟨l, l1, l2, l3⟩ := long_val ha hb hc rfl (by
    have : (12 : Rat) ≤ most := by decide +kernel
    unfold Near at k1 k2 k3; grind)
  refine ⟨l, l1, l2, le_of_sq (by have : (0 : Rat) ≤ 1 / 2 ^ 50 := by decide +kernel
                                  grind) ?_⟩
  have he : e22 * 1024 ≤ 1 := by decide +kernel
  have hep := e22_pos
  have s : 32 * tiny .f32 ≤ 1 / 2 ^ 50 * (1 / 2 ^ 50) := by decide +kernel
  have A0 := sqn x
  have A1 := sqn y
  have A2 := sqn z
  have m1 := small_mul (show 0 ≤ x * x + y * y + z * z by grind) hep he
  have hq : (0 : Rat) < 1 / 2 ^ 50 := by decide +kernel
  have h5 := Rat.mul_nonneg t0 (Rat.le_of_lt hq)
  have htt := sqn t
  unfold Near at *
  grind
end Go.Fw.E1

/-
  The law of fields' sources and whirls: places.
-/
namespace Go.Fw.E1
open Go.Proofs
theorem ap_quoN {x y : Nat} {X d : Rat} {B E : Nat} (n : Nat) (hx : Ap x X B E) (hy : Val .f32 y d) (hd : d * (n : Rat) = 1) (hm : n * (B + E) ≤ apMost) : Ap (fop .quo .f32 x y) ((n : Rat) * X) (n * B) (n * E + (n * (B + E) / 16777216 + 1)) := by
  obtain ⟨a, h1, h2, h3⟩ := hx.out
  obtain ⟨_, _, _, h4⟩ := hx
  have hd0 : d ≠ 0 := fun e => by subst e; rw [Rat.zero_mul] at hd; exact absurd hd (by decide)
  have eq : a / d = (n : Rat) * a := by
    have h5 : a / d * d = a := Rat.div_mul_cancel hd0
    have : a / d * d * (n : Rat) = a / d * (d * (n : Rat)) := by grind
    rw [h5, hd, Rat.mul_one] at this
    rw [← this, Rat.mul_comm]
  have n0 : (0 : Rat) ≤ (n : Rat) := Rat.natCast_nonneg
  have sc : ∀ N : Nat, scl (n * N) = (n : Rat) * scl N := fun N => by unfold scl; rw [Rat.natCast_mul, Rat.mul_assoc]
  have near : ∀ {t : Rat} {N : Nat}, Near t (scl N) → Near ((n : Rat) * t) (scl (n * N)) := fun h => by
    rw [sc]
    unfold Near at *
    have := Rat.mul_le_mul_of_nonneg_left h.1 n0
    have := Rat.mul_le_mul_of_nonneg_left h.2 n0
    constructor <;> grind
  have hq := near h3
  rw [← eq] at hq
  obtain ⟨c, c1, c2⟩ := h1.quo hy hd0 hq (scl_most hm)
  refine ⟨c, c1, ?_, near h4⟩
  have := scl_rnd (n * (B + E))
  have h6 := near h2
  rw [eq] at c2
  rw [scl_add (n * E)]
  unfold Near at *
  constructor <;> grind
noncomputable def sX (p q r : Nat) : Nat := fX (sg 4 (sqX (can .f32 1073741824) (can .f32 0)) (sqY (can .f32 1073741824) (can .f32 0)) (sqZ (can .f32 1073741824) (can .f32 0))) p q r 0 4
noncomputable def sY (p q r : Nat) : Nat := fY (sg 4 (sqX (can .f32 1073741824) (can .f32 0)) (sqY (can .f32 1073741824) (can .f32 0)) (sqZ (can .f32 1073741824) (can .f32 0))) p q r 0 4
noncomputable def sZ (p q r : Nat) : Nat := fZ (sg 4 (sqX (can .f32 1073741824) (can .f32 0)) (sqY (can .f32 1073741824) (can .f32 0)) (sqZ (can .f32 1073741824) (can .f32 0))) p q r 0 4
noncomputable def vqx (i : Nat) : V := [vc2, vm2', vm2', vc2].getD i V.bad
noncomputable def vqy (i : Nat) : V := [vc2, vc2, vm2', vm2'].getD i V.bad
noncomputable def vqz0 (i : Nat) : V := [V.zero, V.zero, V.zero, V.zero].getD i V.bad
theorem rep_c2 : Rep .f32 (can .f32 1073741824) vc2 := by
  have h : vof .f32 (can .f32 1073741824) = vc2 := by kernel_rfl
  rw [← h]; exact rep_of _ _
theorem rep_m2 : Rep .f32 (fneg .f32 (can .f32 1073741824)) vm2' := by
  have h : vof .f32 (fneg .f32 (can .f32 1073741824)) = vm2' := by kernel_rfl
  rw [← h]; exact rep_of _ _
theorem getD_bad {l : List V} {i : Nat} (h : ¬ i < l.length) : l.getD i V.bad = V.bad := by
  simp [List.getD, List.getElem?_eq_none (Nat.le_of_not_lt h)]
theorem rep_vqx (i : Nat) : Rep .f32 (sqX (can .f32 1073741824) (can .f32 0) i) (vqx i) := by
  by_cases h : i < 4
  · match i, h with
    | 0, _ => exact rep_c2
    | 1, _ => exact rep_m2
    | 2, _ => exact rep_m2
    | 3, _ => exact rep_c2
    | i + 4, h => exact absurd h (by omega)
  · unfold vqx; rw [getD_bad h]; trivial
theorem rep_vqy (i : Nat) : Rep .f32 (sqY (can .f32 1073741824) (can .f32 0) i) (vqy i) := by
  by_cases h : i < 4
  · match i, h with
    | 0, _ => exact rep_c2
    | 1, _ => exact rep_c2
    | 2, _ => exact rep_m2
    | 3, _ => exact rep_m2
    | i + 4, h => exact absurd h (by omega)
  · unfold vqy; rw [getD_bad h]; trivial
theorem rep_vqz0 (i : Nat) : Rep .f32 (sqZ (can .f32 1073741824) (can .f32 0) i) (vqz0 i) := by
  by_cases h : i < 4
  · match i, h with
    | 0, _ => exact repc0
    | 1, _ => exact repc0
    | 2, _ => exact repc0
    | 3, _ => exact repc0
    | i + 4, h => exact absurd h (by omega)
  · unfold vqz0; rw [getD_bad h]; trivial
theorem lSX_eq (P Q R : V) : vsumF (vsegX vqx vqy vqz0 4 P Q R) 4 = lSX P Q R := by kernel_rfl
theorem lSY_eq (P Q R : V) : vsumF (vsegY vqx vqy vqz0 4 P Q R) 4 = lSY P Q R := by kernel_rfl
theorem lSZ_eq (P Q R : V) : vsumF (vsegZ vqx vqy vqz0 4 P Q R) 4 = lSZ P Q R := by kernel_rfl
section
variable {p q r : Nat} {P Q R : V} (hp : Rep .f32 p P) (hq : Rep .f32 q Q) (hr : Rep .f32 r R)
include hp hq hr
theorem rep_sX : Rep .f32 (sX p q r) (lSX P Q R) := by
  rw [← lSX_eq]; exact rep_fX rep_vqx rep_vqy rep_vqz0 hp hq hr 4
theorem rep_sY : Rep .f32 (sY p q r) (lSY P Q R) := by
  rw [← lSY_eq]; exact rep_fY rep_vqx rep_vqy rep_vqz0 hp hq hr 4
theorem rep_sZ : Rep .f32 (sZ p q r) (lSZ P Q R) := by
  rw [← lSZ_eq]; exact rep_fZ rep_vqx rep_vqy rep_vqz0 hp hq hr 4
end
theorem bandT {a b : Bool} (h : band a b = true) : a = true ∧ b = true := by rw [band_eq, Bool.and_eq_true] at h; exact h
/-- A number whose magnitude is bounded. -/
theorem vleN_val {w N : Nat} {v : V} {t : Rat} (hr : Rep .f32 w v) (h : vleN N v = true) (hN : (N : Rat) ≤ t * unit .f32) : ∃ q, Val .f32 w q ∧ Near q t := by
  obtain ⟨h1, h2⟩ := bandT h
  have hv := rep_val hr h1
  refine ⟨_, hv.val, ?_⟩
  have h2 := Nat.le_of_ble_eq_true h2
  have hu := unit_pos .f32
  have k1 : (Go.Fw.sg (vlow v) (vmag v)) ≤ (N : Int) ∧ -(N : Int) ≤ Go.Fw.sg (vlow v) (vmag v) := by
    unfold Go.Fw.sg
    split <;> omega
  have a1 := Rat.intCast_le_intCast.2 k1.1
  have a2 := Rat.intCast_le_intCast.2 k1.2
  rw [Rat.intCast_neg] at a2
  rw [Rat.intCast_natCast] at a1 a2
  have hc : ((Go.Fw.sg (vlow v) (vmag v) : Int) : Rat) / unit .f32 * unit .f32 = _ := Rat.div_mul_cancel (by grind)
  generalize ((Go.Fw.sg (vlow v) (vmag v) : Int) : Rat) / unit .f32 = c at *
  rw [← hc] at a1 a2
  constructor
  · refine Rat.le_of_mul_le_mul_right (c := unit .f32) ?_ hu; grind
  · refine Rat.le_of_mul_le_mul_right (c := unit .f32) ?_ hu; grind
/-- The sums at a place. -/
structure Sm (p q r : Nat) (a b c : Rat) : Prop where
  x : Ap (sX p q r) a (4 * b1) 0
  y : Ap (sY p q r) b (4 * b1) 0
  z : Ap (sZ p q r) c (4 * b1) 0
theorem four_u : ((2854495385411919762116571938898990272765493248 : Nat) : Rat) ≤ ((4 : Nat) : Rat) * unit .f32 := by decide +kernel
theorem tau1_u : ((2787593149816327892691964784081045188247552 : Nat) : Rat) ≤ 1 / 256 * unit .f32 := by decide +kernel
theorem tau2_u : ((1393796574908163946345982392040522594123776 : Nat) : Rat) ≤ 1 / 512 * unit .f32 := by decide +kernel
theorem sm_ok {p q r : Nat} {P Q R : V} (hp : Rep .f32 p P) (hq : Rep .f32 q Q) (hr : Rep .f32 r R) (h : lOkS P Q R = true) : ∃ a b c, Sm p q r a b c := by
  obtain ⟨h1, h⟩ := bandT h
  obtain ⟨h2, h3⟩ := bandT h
  obtain ⟨a, a1, a2⟩ := vleN_val (rep_sX hp hq hr) h1 four_u
  obtain ⟨b, b1', b2⟩ := vleN_val (rep_sY hp hq hr) h2 four_u
  obtain ⟨c, c1, c2⟩ := vleN_val (rep_sZ hp hq hr) h3 four_u
  have e := scl_b1 4
  exact ⟨a, b, c, .val a1 (by rw [e]; exact a2), .val b1' (by rw [e]; exact b2), .val c1 (by rw [e]; exact c2)⟩
/-- What a place's six neighbours give. -/
structure Six (pM pA pS pP qM qA qS qP rM rA rS rP : Nat) (a b c a' b' c' d e f d' e' f' g h i g' h' i' : Rat) : Prop where
  xp : Sm pP qA rA a b c
  xm : Sm pM qS rS a' b' c'
  yp : Sm pA qP rA d e f
  ym : Sm pS qM rS d' e' f'
  zp : Sm pA qA rP g h i
  zm : Sm pS qS rM g' h' i'
  dv : Near ((a - a') + (e - e') + (i - i')) (1 / 250)
  cx : Near ((f - f') - (h - h')) (1 / 500)
  cy : Near ((g - g') - (c - c')) (1 / 500)
  cz : Near ((b - b') - (d - d')) (1 / 500)
theorem near_of {w : Nat} {X t T : Rat} {B E : Nat} (h : Ap w X B E) {v : Rat} (hv : Val .f32 w v) (hn : Near v t) (hT : t + scl E ≤ T) : Near X T := by
  obtain ⟨u, h1, h2, _⟩ := h
  have := h1.unique hv
  subst this
  unfold Near at *
  constructor <;> grind
theorem six_ok {pM pA pS pP qM qA qS qP rM rA rS rP : Nat} {P0 P1 P2 Q0 Q1 Q2 R0 R1 R2 : V} (hpM : Rep .f32 pM P0) (hpA : Rep .f32 pA P1) (hpS : Rep .f32 pS P1) (hpP : Rep .f32 pP P2) (hqM : Rep .f32 qM Q0) (hqA : Rep .f32 qA Q1) (hqS : Rep .f32 qS Q1) (hqP : Rep .f32 qP Q2) (hrM : Rep .f32 rM R0) (hrA : Rep .f32 rA R1) (hrS : Rep .f32 rS R1) (hrP : Rep .f32 rP R2) (h : lChk P0 P1 P2 Q0 Q1 Q2 R0 R1 R2 = true) :
    ∃ a b c a' b' c' d e f d' e' f' g h i g' h' i', Six pM pA pS pP qM qA qS qP rM rA rS rP a b c a' b' c' d e f d' e' f' g h i g' h' i' := by
  obtain ⟨k1, h⟩ := bandT h
  obtain ⟨k2, h⟩ := bandT h
  obtain ⟨k3, h⟩ := bandT h
  obtain ⟨k4, h⟩ := bandT h
  obtain ⟨k5, h⟩ := bandT h
  obtain ⟨k6, h⟩ := bandT h
  obtain ⟨k7, h⟩ := bandT h
  obtain ⟨k8, h⟩ := bandT h
  obtain ⟨k9, k10⟩ := bandT h
  obtain ⟨a, b, c, s1⟩ := sm_ok hpP hqA hrA k1
  obtain ⟨a', b', c', s2⟩ := sm_ok hpM hqS hrS k2
  obtain ⟨d, e, f, s3⟩ := sm_ok hpA hqP hrA k3
  obtain ⟨d', e', f', s4⟩ := sm_ok hpS hqM hrS k4
  obtain ⟨g, h, i, s5⟩ := sm_ok hpA hqA hrP k5
  obtain ⟨g', h', i', s6⟩ := sm_ok hpS hqS hrM k6
  obtain ⟨v1, V1, N1⟩ := vleN_val (rep_add (rep_add (rep_sub (rep_sX hpP hqA hrA) (rep_sX hpM hqS hrS)) (rep_sub (rep_sY hpA hqP hrA) (rep_sY hpS hqM hrS))) (rep_sub (rep_sZ hpA hqA hrP) (rep_sZ hpS hqS hrM))) k7 tau1_u
  obtain ⟨v2, V2, N2⟩ := vleN_val (rep_sub (rep_sub (rep_sZ hpA hqP hrA) (rep_sZ hpS hqM hrS)) (rep_sub (rep_sY hpA hqA hrP) (rep_sY hpS hqS hrM))) k8 tau2_u
  obtain ⟨v3, V3, N3⟩ := vleN_val (rep_sub (rep_sub (rep_sX hpA hqA hrP) (rep_sX hpS hqS hrM)) (rep_sub (rep_sZ hpP hqA hrA) (rep_sZ hpM hqS hrS))) k9 tau2_u
  obtain ⟨v4, V4, N4⟩ := vleN_val (rep_sub (rep_sub (rep_sY hpP hqA hrA) (rep_sY hpM hqS hrS)) (rep_sub (rep_sX hpA hqP hrA) (rep_sX hpS hqM hrS))) k10 tau2_u
  have m1 := ((s1.x.sub s2.x (by decide +kernel)).add (s3.y.sub s4.y (by decide +kernel)) (by decide +kernel)).add (s5.z.sub s6.z (by decide +kernel)) (by decide +kernel)
  have m2 := (s3.z.sub s4.z (by decide +kernel)).sub (s5.y.sub s6.y (by decide +kernel)) (by decide +kernel)
  have m3 := (s5.x.sub s6.x (by decide +kernel)).sub (s1.z.sub s2.z (by decide +kernel)) (by decide +kernel)
  have m4 := (s1.y.sub s2.y (by decide +kernel)).sub (s3.x.sub s4.x (by decide +kernel)) (by decide +kernel)
  exact ⟨a, b, c, a', b', c', d, e, f, d', e', f', g, h, i, g', h', i', s1, s2, s3, s4, s5, s6, near_of m1 V1 N1 (by decide +kernel), near_of m2 V2 N2 (by decide +kernel), near_of m3 V3 N3 (by decide +kernel), near_of m4 V4 N4 (by decide +kernel)⟩
end Go.Fw.E1

/-
  The law of fields' sources and whirls: sources and whirls.
-/
namespace Go.Fw.E1
open Go.Proofs
theorem faX_eq (cu p q r : Nat) : faX lwN lwX lwY lwZ lwB (lwI cu) p q r 0 1 = fop .add .f32 0 (fop .mul .f32 (sX p q r) cu) := by kernel_rfl
theorem faY_eq (cu p q r : Nat) : faY lwN lwX lwY lwZ lwB (lwI cu) p q r 0 1 = fop .add .f32 0 (fop .mul .f32 (sY p q r) cu) := by kernel_rfl
theorem faZ_eq (cu p q r : Nat) : faZ lwN lwX lwY lwZ lwB (lwI cu) p q r 0 1 = fop .add .f32 0 (fop .mul .f32 (sZ p q r) cu) := by kernel_rfl
theorem scl_0 : scl 0 = 0 := by decide +kernel
theorem nil_ap : Ap 0 0 0 0 := .val (Val.of_vof (by decide +kernel)) (by rw [scl_0]; unfold Near; decide +kernel)
theorem fa_ap {s cu : Nat} {a k : Rat} (hs : Ap s a (4 * b1) 0) (hk : Ap cu k (2 * b1) 0) : Ap (fop .add .f32 0 (fop .mul .f32 s cu)) (a * k) (9 * b1) 1649267441664 :=
  ((nil_ap.add (hs.mul hk (by decide +kernel)) (by decide +kernel)).weak (by decide +kernel) (by decide +kernel)).congr (by grind)
theorem df_ap {s s' cu : Nat} {a b k : Rat} (hs : Ap s a (4 * b1) 0) (hs' : Ap s' b (4 * b1) 0) (hk : Ap cu k (2 * b1) 0) : Ap (fop .sub .f32 (fop .add .f32 0 (fop .mul .f32 s cu)) (fop .add .f32 0 (fop .mul .f32 s' cu))) ((a - b) * k) (18 * b1) 4947802324992 :=
  (((fa_ap hs hk).sub (fa_ap hs' hk) (by decide +kernel)).weak (by decide +kernel) (by decide +kernel)).congr (by grind)
theorem st_val : Val .f32 (can .f32 1040187392) (1 / 8) := Val.of_vof (by decide +kernel)
theorem by_val : Val .f32 (fop .mul .f32 (can .f32 1073741824) (can .f32 1040187392)) (1 / 4) := Val.of_vof (by decide +kernel)
theorem half_ap : Ap (can .f32 1056964608) (1 / 2) b1 0 := .val (Val.of_vof (by decide +kernel)) (by rw [show b1 = 1 * b1 by decide, scl_b1]; unfold Near; decide +kernel)
/-- The number 0.06. -/
def k006 : Rat := 8646911284551352 / 144115188075855872
theorem k006_val : Val .f64 (can .f64 4588807732320345784) k006 := Val.of_vof (by decide +kernel)
theorem k006_lo : (1 : Rat) / 20 ≤ k006 := by decide +kernel
section
variable {pM pA pS pP qM qA qS qP rM rA rS rP cu : Nat} {a b c a' b' c' d e f d' e' f' g h i g' h' i' k : Rat} (H : Six pM pA pS pP qM qA qS qP rM rA rS rP a b c a' b' c' d e f d' e' f' g h i g' h' i') (hk : Ap cu k (2 * b1) 0)
include H hk
theorem Six.src : ∃ v, Val .f32 (fop .mul .f32 (can .f32 1056964608) (fop .add .f32 (fop .add .f32
      (fop .quo .f32 (fop .sub .f32 (fop .add .f32 0 (fop .mul .f32 (sX pP qA rA) cu)) (fop .add .f32 0 (fop .mul .f32 (sX pM qS rS) cu))) (can .f32 1040187392))
      (fop .quo .f32 (fop .sub .f32 (fop .add .f32 0 (fop .mul .f32 (sY pA qP rA) cu)) (fop .add .f32 0 (fop .mul .f32 (sY pS qM rS) cu))) (can .f32 1040187392)))
      (fop .quo .f32 (fop .sub .f32 (fop .add .f32 0 (fop .mul .f32 (sZ pA qA rP) cu)) (fop .add .f32 0 (fop .mul .f32 (sZ pS qS rM) cu))) (can .f32 1040187392)))) v ∧ Near v (1 / 25) := by
  have h8 : (1 / 8 : Rat) * ((8 : Nat) : Rat) = 1 := by decide +kernel
  have A := ap_quoN 8 (df_ap H.xp.x H.xm.x hk) st_val h8 (by decide +kernel)
  have B := ap_quoN 8 (df_ap H.yp.y H.ym.y hk) st_val h8 (by decide +kernel)
  have C := ap_quoN 8 (df_ap H.zp.z H.zm.z hk) st_val h8 (by decide +kernel)
  have T := half_ap.mul ((A.add B (by decide +kernel)).add C (by decide +kernel)) (by decide +kernel)
  have T := T.weak (Nat.le_refl _) (E' := 300000000000000) (by decide +kernel)
  obtain ⟨v, v1, v2, _⟩ := T
  refine ⟨v, v1, ?_⟩
  obtain ⟨_, _, _, K⟩ := hk
  rw [scl_b1] at K
  have P := H.dv.mul K
  have e2 : (1 / 250 : Rat) * ((2 : Nat) : Rat) = 1 / 125 := by decide +kernel
  rw [e2] at P
  have e8 : ((8 : Nat) : Rat) = 4 + 4 := by decide +kernel
  have hh : (1 / 2 : Rat) + 1 / 2 = 1 := by decide +kernel
  have e3 : 1 / 2 * (((8 : Nat) : Rat) * ((a - a') * k) + ((8 : Nat) : Rat) * ((e - e') * k) + ((8 : Nat) : Rat) * ((i - i') * k)) = 4 * (((a - a') + (e - e') + (i - i')) * k) := by
    rw [e8]
    have : ∀ t : Rat, 1 / 2 * (t + t) = t := fun t => by
      have : 1 / 2 * (t + t) = (1 / 2 + 1 / 2) * t := by grind
      rw [this, hh, Rat.one_mul]
    have e4 : (4 + 4) * ((a - a') * k) + (4 + 4) * ((e - e') * k) + (4 + 4) * ((i - i') * k) = 4 * (((a - a') + (e - e') + (i - i')) * k) + 4 * (((a - a') + (e - e') + (i - i')) * k) := by grind
    rw [e4, this]
  rw [e3] at v2
  have fin : 4 * (1 / 125 : Rat) + scl 300000000000000 ≤ 1 / 25 := by decide +kernel
  unfold Near at *
  constructor <;> grind
omit H in
theorem whl {s s' t t' : Nat} {x x' y y' : Rat} (k1 : Ap s x (4 * b1) 0) (k2 : Ap s' x' (4 * b1) 0) (k3 : Ap t y (4 * b1) 0) (k4 : Ap t' y' (4 * b1) 0) (hn : Near ((x - x') - (y - y')) (1 / 500)) :
    ∃ v, Val .f32 (fop .sub .f32
      (fop .quo .f32 (fop .sub .f32 (fop .add .f32 0 (fop .mul .f32 s cu)) (fop .add .f32 0 (fop .mul .f32 s' cu))) (fop .mul .f32 (can .f32 1073741824) (can .f32 1040187392)))
      (fop .quo .f32 (fop .sub .f32 (fop .add .f32 0 (fop .mul .f32 t cu)) (fop .add .f32 0 (fop .mul .f32 t' cu))) (fop .mul .f32 (can .f32 1073741824) (can .f32 1040187392)))) v ∧ Near v (1 / 60) := by
  have h4 : (1 / 4 : Rat) * ((4 : Nat) : Rat) = 1 := by decide +kernel
  have A := ap_quoN 4 (df_ap k1 k2 hk) by_val h4 (by decide +kernel)
  have B := ap_quoN 4 (df_ap k3 k4 hk) by_val h4 (by decide +kernel)
  have T := (A.sub B (by decide +kernel)).weak (Nat.le_refl _) (E' := 100000000000000) (by decide +kernel)
  obtain ⟨v, v1, v2, _⟩ := T
  refine ⟨v, v1, ?_⟩
  obtain ⟨_, _, _, K⟩ := hk
  rw [scl_b1] at K
  have P := hn.mul K
  have e2 : (1 / 500 : Rat) * ((2 : Nat) : Rat) = 1 / 250 := by decide +kernel
  rw [e2] at P
  have e4 : ((4 : Nat) : Rat) = 4 := by decide +kernel
  rw [e4] at v2
  have e3 : 4 * ((x - x') * k) - 4 * ((y - y') * k) = 4 * (((x - x') - (y - y')) * k) := by grind
  rw [e3] at v2
  have fin : 4 * (1 / 250 : Rat) + scl 100000000000000 ≤ 1 / 60 := by decide +kernel
  unfold Near at *
  constructor <;> grind
end
set_option maxRecDepth 100000 in
theorem ve_tab : allUpTo (fun i => isV .f32 (ve i) (((Int.ofNat i - 17 : Int) : Rat) * (1 / 8)) && isV .f32 (vez i) (((Int.ofNat i + 15 : Int) : Rat) * (1 / 8))) 35 = true := by decide +kernel
theorem lRow_all {i : Nat} (h : i < 17) : lRow i = true := by
  by_cases h1 : i < 5
  · have := allUpTo_iff.1 lRowsa i h1
    rwa [Nat.zero_add] at this
  by_cases h2 : i < 9
  · have := allUpTo_iff.1 lRowsb (i - 5) (by omega)
    rwa [show 5 + (i - 5) = i by omega] at this
  by_cases h3 : i < 13
  · have := allUpTo_iff.1 lRowsc (i - 9) (by omega)
    rwa [show 9 + (i - 9) = i by omega] at this
  · have := allUpTo_iff.1 lRowsd (i - 13) (by omega)
    rwa [show 13 + (i - 13) = i by omega] at this
/-- z eighths. -/
def Et (w : Nat) (z : Int) : Prop := Val .f32 w ((z : Rat) * (1 / 8))
theorem et_of {w : Nat} {z : Int} (h : Qt w z) : Et w (2 * z) := by
  have e : ((2 * z : Int) : Rat) * (1 / 8) = (z : Rat) * (1 / 4) := by
    rw [Rat.intCast_mul]
    have : ((2 : Int) : Rat) * (1 / 8) = 1 / 4 := by decide +kernel
    rw [Rat.mul_comm ((2 : Int) : Rat), Rat.mul_assoc, this]
  unfold Et
  rw [e]; exact h
theorem et8 : (1 / 8 : Rat) * ((2 ^ 3 : Nat) : Rat) = 1 := by decide +kernel
theorem near8 {z : Int} (h : z.natAbs < 2 ^ 24) : Near ((z : Rat) * (1 / 8)) most := by
  have := near_most h
  have h0 : (1 / 4 : Rat) = 1 / 8 + 1 / 8 := by decide +kernel
  rw [h0] at this
  unfold Near at *
  have hm : (0 : Rat) ≤ most := by decide +kernel
  constructor <;> grind
theorem Et.add {x y : Nat} {a b : Int} (hx : Et x a) (hy : Et y b) (h : (a + b).natAbs < 2 ^ 24) : Et (fop .add .f32 x y) (a + b) := by
  have := near8 h
  have e : ((a + b : Int) : Rat) * (1 / 8) = (a : Rat) * (1 / 8) + (b : Rat) * (1 / 8) := by rw [Rat.intCast_add]; grind
  unfold Et
  rw [e]
  refine Val.add_exact (e := 3) (m := a + b) hx hy ?_ h (by decide) (by rw [← e]; exact this)
  rw [← e, Rat.mul_assoc, et8, Rat.mul_one]
theorem Et.sub {x y : Nat} {a b : Int} (hx : Et x a) (hy : Et y b) (h : (a - b).natAbs < 2 ^ 24) : Et (fop .sub .f32 x y) (a - b) := by
  have := near8 h
  have e : ((a - b : Int) : Rat) * (1 / 8) = (a : Rat) * (1 / 8) - (b : Rat) * (1 / 8) := by rw [Rat.intCast_sub]; grind
  unfold Et
  rw [e]
  refine Val.sub_exact (e := 3) (m := a - b) hx hy ?_ h (by decide) (by rw [← e]; exact this)
  rw [← e, Rat.mul_assoc, et8, Rat.mul_one]
theorem et_st : Et (can .f32 1040187392) 1 := Val.of_vof (by decide +kernel)
theorem et_nil : Et 0 0 := Val.of_vof (by decide +kernel)
theorem rep_ve {w : Nat} {z : Int} (n : Nat) (hn : n < 35) (h : Et w z) (e : z = Int.ofNat n - 17) : Rep .f32 w (ve n) := by
  subst e
  have := allUpTo_iff.1 ve_tab n hn
  rw [Bool.and_eq_true] at this
  exact Val.rep h this.1
theorem rep_vez {w : Nat} {z : Int} (n : Nat) (hn : n < 35) (h : Et w z) (e : z = Int.ofNat n + 15) : Rep .f32 w (vez n) := by
  subst e
  have := allUpTo_iff.1 ve_tab n hn
  rw [Bool.and_eq_true] at this
  exact Val.rep h this.2
theorem faG_of {cu p q r : Nat} {k a b c u v w : Rat} (hk : Ap cu k (2 * b1) 0) (hs : Sm p q r a b c) (hp : Val .f32 p u) (hq : Val .f32 q v) (hr : Val .f32 r w) : faG 1 lwN lwX lwY lwZ lwB (lwI cu) p q r = true := by
  obtain ⟨_, x1⟩ := (fa_ap hs.x hk).valE
  obtain ⟨_, x2⟩ := (fa_ap hs.y hk).valE
  obtain ⟨_, x3⟩ := (fa_ap hs.z hk).valE
  rw [← faX_eq] at x1
  rw [← faY_eq] at x2
  rw [← faZ_eq] at x3
  have e : fOkA 1 lwN lwX lwY lwZ lwB (lwI cu) p q r = true := vfin_val x1 x2 x3
  have e2 : (Nat.ble 1 1048576 && allUpTo (smallW lwN) 1) = true := by decide +kernel
  unfold faG
  rw [e, e2, vfin_val hp hq hr]; rfl
/-- A place of the law. -/
theorem place5 {cu p q r : Nat} {k : Rat} {i j l : Nat} (hi : i < 17) (hj : j < 17) (hl : l < 17) (hk : Ap cu k (2 * b1) 0) (hp : Qt p (Int.ofNat i - 8)) (hq : Qt q (Int.ofNat j - 8)) (hr : Qt r (Int.ofNat l + 8))
    (hA : areW 1 lwN lwX lwY lwZ (lwI cu) = true) : C5p cu p q r true = true ∧ R5s cu p q r = true ∧ R5w cu p q r = true := by
  have ep := et_of hp
  have eq := et_of hq
  have er := et_of hr
  have pP := ep.add et_st (by simp; omega)
  have pM := ep.sub et_st (by simp; omega)
  have pA := ep.add et_nil (by simp; omega)
  have pS := ep.sub et_nil (by simp; omega)
  have qP := eq.add et_st (by simp; omega)
  have qM := eq.sub et_st (by simp; omega)
  have qA := eq.add et_nil (by simp; omega)
  have qS := eq.sub et_nil (by simp; omega)
  have rP := er.add et_st (by simp; omega)
  have rM := er.sub et_st (by simp; omega)
  have rA := er.add et_nil (by simp; omega)
  have rS := er.sub et_nil (by simp; omega)
  have chk := allUpTo_iff.1 (allUpTo_iff.1 (lRow_all hi) j hj) l hl
  unfold lPl at chk
  simp only [atN_eq] at chk
  obtain ⟨a, b, c, a', b', c', d, e, f, d', e', f', g, h, i', g', h', i2, H⟩ := six_ok (rep_ve (2 * i) (by omega) pM (by simp; omega)) (rep_ve (2 * i + 1) (by omega) pA (by simp; omega)) (rep_ve (2 * i + 1) (by omega) pS (by simp; omega)) (rep_ve (2 * i + 2) (by omega) pP (by simp; omega))
    (rep_ve (2 * j) (by omega) qM (by simp; omega)) (rep_ve (2 * j + 1) (by omega) qA (by simp; omega)) (rep_ve (2 * j + 1) (by omega) qS (by simp; omega)) (rep_ve (2 * j + 2) (by omega) qP (by simp; omega))
    (rep_vez (2 * l) (by omega) rM (by simp; omega)) (rep_vez (2 * l + 1) (by omega) rA (by simp; omega)) (rep_vez (2 * l + 1) (by omega) rS (by simp; omega)) (rep_vez (2 * l + 2) (by omega) rP (by simp; omega)) chk
  obtain ⟨s, S1, S2⟩ := H.src hk
  obtain ⟨x, X1, X2⟩ := whl hk H.yp.z H.ym.z H.zp.y H.zm.y H.cx
  obtain ⟨y, Y1, Y2⟩ := whl hk H.zp.x H.zm.x H.xp.z H.xm.z H.cy
  obtain ⟨z, Z1, Z2⟩ := whl hk H.xp.y H.xm.y H.yp.x H.ym.x H.cz
  have S1 : Val .f32 (lS cu p q r) s := S1
  have X1 : Val .f32 (lWX cu p q r) x := X1
  have Y1 : Val .f32 (lWY cu p q r) y := Y1
  have Z1 : Val .f32 (lWZ cu p q r) z := Z1
  have dfo : lDf cu p q r = true := by
    have e2 : (Nat.ble 1 1048576 && allUpTo (shortW lwN) 1) = true := by decide +kernel
    have e3 : above (can .f32 1040187392) = true := by decide +kernel
    unfold lDf dfOk
    rw [e2, hA, vfin_val hp hq hr, e3, faG_of hk H.xp pP qA rA, faG_of hk H.xm pM qS rS, faG_of hk H.yp pA qP rA, faG_of hk H.ym pS qM rS, faG_of hk H.zp pA qA rP, faG_of hk H.zm pS qS rM]; rfl
  obtain ⟨m, M1, M2, M3⟩ := long_near X1 Y1 Z1 X2 Y2 Z2 (by decide +kernel)
  refine ⟨?_, ?_, ?_⟩
  · unfold C5p
    rw [dfo, fin_val S1, vfin_val X1 Y1 Z1]; rfl
  · refine gap_lt S1.widen zero64 (t := 1 / 25) ?_ k006_val (by decide +kernel) (by decide +kernel)
    have : s - 0 = s := by grind
    rw [this]; exact S2
  · unfold R5w
    rw [forder_lt M1.widen k006_val (by
      have : 2 * (1 / 60 : Rat) + 1 / 2 ^ 50 < k006 := by decide +kernel
      grind)]; rfl
end Go.Fw.E1

/-
  The law of fields' sources and whirls: along paths.
-/
namespace Go.Fw.E1
open Go.Proofs
/-! ### Paths evaluated -/
noncomputable def vStep (C P Q R v0 v1 v2 : V) : V := vgd (band (vgood P) (band (vgood Q) (vgood R))) (vinn (vadd V.zero (vmul (lSX P Q R) C)) (vadd V.zero (vmul (lSY P Q R) C)) (vadd V.zero (vmul (lSZ P Q R) C)) v0 v1 v2)
noncomputable def vaw (C a0 a1 a2 u0 u1 u2 v0 v1 v2 s : V) (k : Nat) : V := Nat.rec s (fun i t => vadd t (vStep C (vadd a0 (vmul u0 (vof .f32 (mid i 8)))) (vadd a1 (vmul u1 (vof .f32 (mid i 8)))) (vadd a2 (vmul u2 (vof .f32 (mid i 8)))) v0 v1 v2)) k
noncomputable def vpt (gg : Nat → Nat → Nat) (C : V) (k : Nat) : V := Nat.rec V.zero (fun i s => vaw C (vof .f32 (gg i 0)) (vof .f32 (gg i 1)) (vof .f32 (gg i 2)) (vsub (vof .f32 (gg i 3)) (vof .f32 (gg i 0))) (vsub (vof .f32 (gg i 4)) (vof .f32 (gg i 1))) (vsub (vof .f32 (gg i 5)) (vof .f32 (gg i 2)))
  (vmul (vsub (vof .f32 (gg i 3)) (vof .f32 (gg i 0))) (vof .f32 (inv 8))) (vmul (vsub (vof .f32 (gg i 4)) (vof .f32 (gg i 1))) (vof .f32 (inv 8))) (vmul (vsub (vof .f32 (gg i 5)) (vof .f32 (gg i 2))) (vof .f32 (inv 8))) s 8) k
theorem rep_step {cu p q r v0 v1 v2 : Nat} {C P Q R V0 V1 V2 : V} (hc : Rep .f32 cu C) (hp : Rep .f32 p P) (hq : Rep .f32 q Q) (hr : Rep .f32 r R) (h0 : Rep .f32 v0 V0) (h1 : Rep .f32 v1 V1) (h2 : Rep .f32 v2 V2) : Rep .f32 (innR 1 lwN lwX lwY lwZ lwB (lwI cu) p q r v0 v1 v2) (vStep C P Q R V0 V1 V2) := by
  unfold vStep
  cases h : band (vgood P) (band (vgood Q) (vgood R))
  · trivial
  · obtain ⟨g1, g⟩ := bandT h
    obtain ⟨g2, g3⟩ := bandT g
    have e : vfin p q r = true := by unfold vfin; rw [rep_fin hp g1, rep_fin hq g2, rep_fin hr g3]; rfl
    have s : ∀ c, st0 p q r c = 0 := fun c => by unfold st0; rw [e]; rfl
    unfold innR
    rw [s, s, s, faX_eq, faY_eq, faZ_eq]
    exact rep_inn (rep_add rep0 (rep_mul (rep_sX hp hq hr) hc)) (rep_add rep0 (rep_mul (rep_sY hp hq hr) hc)) (rep_add rep0 (rep_mul (rep_sZ hp hq hr) hc)) h0 h1 h2
theorem rep_aw {cu a0 a1 a2 u0 u1 u2 v0 v1 v2 s : Nat} {C A0 A1 A2 U0 U1 U2 V0 V1 V2 S : V} (hc : Rep .f32 cu C) (ha0 : Rep .f32 a0 A0) (ha1 : Rep .f32 a1 A1) (ha2 : Rep .f32 a2 A2) (hu0 : Rep .f32 u0 U0) (hu1 : Rep .f32 u1 U1) (hu2 : Rep .f32 u2 U2) (h0 : Rep .f32 v0 V0) (h1 : Rep .f32 v1 V1) (h2 : Rep .f32 v2 V2) (hs : Rep .f32 s S) :
    ∀ k, Rep .f32 (awS 1 lwN lwX lwY lwZ lwB (lwI cu) a0 a1 a2 u0 u1 u2 v0 v1 v2 8 s k) (vaw C A0 A1 A2 U0 U1 U2 V0 V1 V2 S k)
  | 0 => hs
  | k + 1 => rep_add (rep_aw hc ha0 ha1 ha2 hu0 hu1 hu2 h0 h1 h2 hs k) (rep_step hc (rep_add ha0 (rep_mul hu0 (rep_of _ _))) (rep_add ha1 (rep_mul hu1 (rep_of _ _))) (rep_add ha2 (rep_mul hu2 (rep_of _ _))) h0 h1 h2)
theorem rep_pt {cu : Nat} {C : V} (gg : Nat → Nat → Nat) (hc : Rep .f32 cu C) : ∀ k, Rep .f32 (arR 1 lwN lwX lwY lwZ lwB (lwI cu) gg 8 (can .f32 0) k) (vpt gg C k)
  | 0 => repc0
  | k + 1 => rep_aw hc (rep_of _ _) (rep_of _ _) (rep_of _ _) (rep_sub (rep_of _ _) (rep_of _ _)) (rep_sub (rep_of _ _) (rep_of _ _)) (rep_sub (rep_of _ _) (rep_of _ _)) (rep_mul (rep_sub (rep_of _ _) (rep_of _ _)) (rep_of _ _)) (rep_mul (rep_sub (rep_of _ _) (rep_of _ _)) (rep_of _ _)) (rep_mul (rep_sub (rep_of _ _) (rep_of _ _)) (rep_of _ _)) (rep_pt gg hc k) 8
noncomputable def ggA (j c : Nat) : Nat := sg 4 lpX lpY lpZ j c
noncomputable def ggB (j c : Nat) : Nat := sg 4 (adX (can .f32 1082130432) lpX) (adX 0 lpY) (adX 0 lpZ) j c
noncomputable def ggC (j c : Nat) : Nat := sg 4 (revR 4 lpX) (revR 4 lpY) (revR 4 lpZ) j c
/-- pi times the current times 2 ^ 149 / 4. -/
def piK : Nat := 2241915501929635722061786764524627705810149009
noncomputable def vCu (c : Nat) : V := vof .f32 (lCu (Int.ofNat c))
noncomputable def vPa (c : Nat) : Bool :=
  band (band (Nat.ble (Nat.mul 990 (Nat.mul (Nat.succ c) piK)) (Nat.mul 1000 (vmag (vpt ggA (vCu c) 4)))) (band (Nat.ble (Nat.mul 1000 (vmag (vpt ggA (vCu c) 4))) (Nat.mul 1010 (Nat.mul (Nat.succ c) piK))) (vgood (vpt ggA (vCu c) 4))))
    (band (band (Nat.ble (Nat.mul 1000 (vmag (vpt ggB (vCu c) 4))) (Nat.mul 10 (Nat.mul (Nat.succ c) piK))) (vgood (vpt ggB (vCu c) 4)))
      (band (Nat.beq (vmag (vpt ggC (vCu c) 4)) (vmag (vpt ggA (vCu c) 4))) (band (vgood (vpt ggC (vCu c) 4)) (bx (vlow (vpt ggC (vCu c) 4)) (vlow (vpt ggA (vCu c) 4))))))
end Go.Fw.E1

/-
  The law of fields' sources and whirls: along paths, evaluated.
-/
namespace Go.Fw.E1
set_option maxRecDepth 100000 in
theorem vPa_ok : allUpTo vPa 8 = true := by decide +kernel
set_option maxRecDepth 100000 in
theorem cu_tab : allUpTo (fun c => isV .f32 (vof .f32 (lCu (Int.ofNat c))) (((Int.ofNat c + 1 : Int) : Rat) * (1 / 4))) 8 = true := by decide +kernel
set_option maxRecDepth 100000 in
theorem path_tab : (okW 4 0 lpX lpY lpZ && (movOk 4 0 (can .f32 1082130432) 0 0 lpX lpY lpZ && okW 4 0 (revR 4 lpX) (revR 4 lpY) (revR 4 lpZ))) = true := by decide +kernel
set_option maxRecDepth 100000 in
theorem sq_tab : (above (can .f32 1073741824) && (fin (can .f32 0) && allUpTo (vfinAt (sqX (can .f32 1073741824) (can .f32 0)) (sqY (can .f32 1073741824) (can .f32 0)) (sqZ (can .f32 1073741824) (can .f32 0))) 4)) = true := by decide +kernel
end Go.Fw.E1

/-
  The law of fields' sources and whirls.
-/
namespace Go.Fw.E1
open Go.Proofs
/-- A byte's choice below n. -/
theorem r8a_ex {la : Nat} {b : Nat → Nat} (hb : ∀ i, b i < 256) (k : Nat) {n : Nat} (hn : 0 < n) : ∃ v, v < n ∧ r8a la b (Int.ofNat k) (Int.ofNat n) = Int.ofNat v := by
  unfold r8a
  by_cases h : la ≤ k
  · exact ⟨0, hn, by rw [decide_eq_true (show Int.ofNat k ≥ Int.ofNat la by simp; omega)]; rfl⟩
  · refine ⟨b k % n, Nat.mod_lt _ hn, ?_⟩
    rw [decide_eq_false (show ¬ Int.ofNat k ≥ Int.ofNat la by simp; omega)]
    show (IntKind.i64.wrap (Int.ofNat (b k))).tmod (Int.ofNat n) = _
    rw [wrap_nat (by have := hb k; omega)]; rfl
theorem rep_fin64 {x : Nat} {a : Rat} (h : Val .f64 x a) : Val .f64 (fop .sub .f64 x (can .f64 0)) a ∧ Val .f64 (fop .sub .f64 (can .f64 0) x) (-a) := by
  obtain ⟨n, h1, h2⟩ := h
  obtain ⟨m, h3, h4⟩ := zero64
  have hm : m = 0 := by
    rw [Rat.zero_mul] at h4
    exact Rat.intCast_eq_zero_iff.1 h4
  subst hm
  have e1 : rI .f64 (n - 0) 1 = n := by rw [Int.sub_zero]; exact h1.exact
  have e2 : rI .f64 (0 - n) 1 = -n := by rw [Int.zero_sub]; exact h1.neg.exact
  refine ⟨⟨n, ?_, h2⟩, ⟨-n, ?_, by rw [Rat.intCast_neg, h2]; grind⟩⟩
  · have := Fin.sub h1 h3
    rw [e1] at this
    exact this h1.lt_lim
  · have := Fin.sub h3 h1
    rw [e2] at this
    exact this h1.neg.lt_lim
theorem gap0 {x : Nat} {a : Rat} (h : Val .f64 x a) : ∃ g, Val .f64 (gap8 x (can .f64 0)) g ∧ (g = a ∨ g = -a) ∧ 0 ≤ g := by
  obtain ⟨h1, h2⟩ := rep_fin64 h
  refine ⟨_, fmax_val h1 h2, ?_, ?_⟩
  · split
    · exact .inr rfl
    · exact .inl rfl
  · split <;> grind
/-- 12.566371, and shares of it. -/
theorem c12_val : Val .f64 (can .f64 4623263856023883326) (3537118984562463 / 281474976710656) := Val.of_vof (by decide +kernel)
theorem c05_val : Val .f64 (can .f64 4587366580439587226) (7205759403792794 / 144115188075855872) := Val.of_vof (by decide +kernel)
theorem piK_lo : (314159 : Rat) / 100000 * unit .f32 ≤ ((piK : Nat) : Rat) ∧ ((piK : Nat) : Rat) ≤ 31416 / 10000 * unit .f32 := by decide +kernel
theorem mag_val {w : Nat} {v : V} (hr : Rep .f32 w v) (hg : vgood v = true) : ∃ a, Val .f32 w a ∧ (a * unit .f32 = ((vmag v : Nat) : Rat) ∧ vlow v = false ∨ a * unit .f32 = -((vmag v : Nat) : Rat) ∧ vlow v = true) := by
  have hv := rep_val hr hg
  refine ⟨_, hv.val, ?_⟩
  have hu := unit_pos .f32
  rw [Rat.div_mul_cancel (by grind)]
  unfold Go.Fw.sg
  cases vlow v
  · exact .inl ⟨Rat.intCast_natCast _, rfl⟩
  · exact .inr ⟨by rw [if_pos rfl, Rat.intCast_neg, Rat.intCast_natCast], rfl⟩
theorem le_of_unit {a b : Rat} (h : a * unit .f32 ≤ b * unit .f32) : a ≤ b := Rat.le_of_mul_le_mul_right h (unit_pos .f32)
/-- The bounds of a path's number, n being four times the current. -/
theorem want_val {cu : Nat} {k : Rat} (hk : Val .f32 cu k) (h0 : 0 ≤ k) (h2 : k ≤ 2) : ∃ w f m, Val .f64 (fop .mul .f64 (can .f64 4623263856023883326) (fcvt .f32 .f64 cu)) w ∧ Val .f64 (fop .mul .f64 (can .f64 4587366580439587226) (fop .mul .f64 (can .f64 4623263856023883326) (fcvt .f32 .f64 cu))) f ∧
    Val .f64 (fop .mul .f64 (can .f64 4562254508917369340) (fop .mul .f64 (can .f64 4623263856023883326) (fcvt .f32 .f64 cu))) m ∧ Near (w - 12566371 / 1000000 * k) (1 / 1000000) ∧ 62 / 100 * k - 1 / 100000 ≤ f ∧ 12 / 1000 * k - 1 / 100000 ≤ m := by
  have e1 : (3537118984562463 / 281474976710656 : Rat) ≤ 12566371 / 1000000 + 1 / 10000000000 := by decide +kernel
  have e2 : (12566371 / 1000000 : Rat) - 1 / 10000000000 ≤ 3537118984562463 / 281474976710656 := by decide +kernel
  have e3 : (7205759403792794 / 144115188075855872 : Rat) ≤ 1 / 20 + 1 / 10000000000 := by decide +kernel
  have e4 : (1 / 20 : Rat) - 1 / 10000000000 ≤ 7205759403792794 / 144115188075855872 := by decide +kernel
  have e5 : k001 ≤ 1 / 1000 + 1 / 10000000000 := by decide +kernel
  have e6 : (1 / 1000 : Rat) - 1 / 10000000000 ≤ k001 := by decide +kernel
  have p1 := Rat.mul_le_mul_of_nonneg_right e1 h0
  have p2 := Rat.mul_le_mul_of_nonneg_right e2 h0
  have c13 : (3537118984562463 / 281474976710656 : Rat) ≤ 13 := by decide +kernel
  have c0 : (0 : Rat) ≤ 3537118984562463 / 281474976710656 := by decide +kernel
  have hn : Near (3537118984562463 / 281474976710656 * k) 26 := by
    have := Rat.mul_le_mul_of_nonneg_right c13 h0
    have := Rat.mul_nonneg c0 h0
    unfold Near; constructor <;> grind
  obtain ⟨w, w1, w2⟩ := c12_val.mul hk.widen hn (by decide +kernel)
  have t1 : (26 : Rat) * ur .f64 + tiny .f64 ≤ 1 / 10000000000 := by decide +kernel
  have hw : Near (w - 12566371 / 1000000 * k) (1 / 1000000) := by
    have : (1 / 10000000000 : Rat) * 10 ≤ 1 / 1000000 := by decide +kernel
    unfold Near at *; constructor <;> grind
  have hw27 : Near w 27 := by
    have q1 : (12566371 / 1000000 : Rat) ≤ 13 := by decide +kernel
    have q2 : (0 : Rat) ≤ 12566371 / 1000000 := by decide +kernel
    have := Rat.mul_le_mul_of_nonneg_right q1 h0
    have := Rat.mul_nonneg q2 h0
    have : (1 / 1000000 : Rat) ≤ 1 := by decide +kernel
    unfold Near at *; constructor <;> grind
  have wl : 1256 / 100 * k - 1 / 1000000 ≤ w := by
    have : (1256 / 100 : Rat) ≤ 12566371 / 1000000 := by decide +kernel
    have := Rat.mul_le_mul_of_nonneg_right this h0
    unfold Near at hw; grind
  have mulN : ∀ {c : Rat}, 0 ≤ c → c ≤ 1 → Near (c * w) 27 := fun {c} hc hc1 => by
    have := Near.mul (show Near c 1 by unfold Near; constructor <;> grind) hw27
    rw [Rat.one_mul] at this; exact this
  obtain ⟨f, f1, f2⟩ := c05_val.mul w1 (mulN (by decide +kernel) (by decide +kernel)) (by decide +kernel)
  obtain ⟨m, m1, m2⟩ := k001_val.mul w1 (mulN (by decide +kernel) (by decide +kernel)) (by decide +kernel)
  have t2 : (27 : Rat) * ur .f64 + tiny .f64 ≤ 1 / 10000000000 := by decide +kernel
  refine ⟨w, f, m, w1, f1, m1, hw, ?_, ?_⟩
  · -- f is a twentieth of w
    have a1 : (7205759403792794 / 144115188075855872 : Rat) * (1256 / 100 * k - 1 / 1000000) ≤ 7205759403792794 / 144115188075855872 * w := Rat.mul_le_mul_of_nonneg_left wl (by decide +kernel)
    have a2 : (62 / 100 : Rat) ≤ 7205759403792794 / 144115188075855872 * (1256 / 100) := by decide +kernel
    have a3 := Rat.mul_le_mul_of_nonneg_right a2 h0
    have a4 : (7205759403792794 / 144115188075855872 : Rat) * (1 / 1000000) + 1 / 10000000000 ≤ 1 / 100000 := by decide +kernel
    unfold Near at f2; grind
  · have a1 : k001 * (1256 / 100 * k - 1 / 1000000) ≤ k001 * w := Rat.mul_le_mul_of_nonneg_left wl (by decide +kernel)
    have a2 : (12 / 1000 : Rat) ≤ k001 * (1256 / 100) := by decide +kernel
    have a3 := Rat.mul_le_mul_of_nonneg_right a2 h0
    have a4 : k001 * (1 / 1000000) + 1 / 10000000000 ≤ 1 / 100000 := by decide +kernel
    unfold Near at m2; grind
theorem gap_same' {x y K : Nat} {a k : Rat} (hx : Val .f64 x a) (hy : Val .f64 y a) (hK : Val .f64 K k) (hk : 1 / 2 ^ 50 < k) : (forder .f64 (gap8 x y) K == some .lt) = true :=
  gap_lt hx hy (t := 0) (by unfold Near; constructor <;> grind) hK (by decide) (by grind)
theorem paths5 {c : Nat} (hc : c < 8) : areW 1 lwN lwX lwY lwZ (lwI (lCu (Int.ofNat c))) = true ∧ sqOk (can .f32 1073741824) (can .f32 0) (lCu (Int.ofNat c)) = true ∧ C5a (lCu (Int.ofNat c)) = true ∧ R5a (lCu (Int.ofNat c)) = true ∧ R5b (lCu (Int.ofNat c)) = true ∧ R5c (lCu (Int.ofNat c)) = true := by
  have hv : Val .f32 (lCu (Int.ofNat c)) (((Int.ofNat c + 1 : Int) : Rat) * (1 / 4)) := Val.of_vof (allUpTo_iff.1 cu_tab c hc)
  have hcu : Rep .f32 (lCu (Int.ofNat c)) (vCu c) := rep_of _ _
  have sq := sq_tab
  have pt := path_tab
  simp only [Bool.and_eq_true] at sq pt
  have ok : okW 4 (lCu (Int.ofNat c)) (sqX (can .f32 1073741824) (can .f32 0)) (sqY (can .f32 1073741824) (can .f32 0)) (sqZ (can .f32 1073741824) (can .f32 0)) = true := by
    unfold okW
    rw [decide_eq_true (show 2 ≤ 4 ∧ 4 ≤ 48 by omega), fin_val hv, sq.2.2]; rfl
  have hA : areW 1 lwN lwX lwY lwZ (lwI (lCu (Int.ofNat c))) = true := by
    unfold areW
    rw [decide_eq_true (show 1 ≤ 8 by omega), Bool.true_and]
    refine allUpTo_iff.2 fun i hi => ?_
    obtain rfl : i = 0 := by omega
    exact ok
  have chk := allUpTo_iff.1 vPa_ok c hc
  obtain ⟨chA, chk⟩ := bandT chk
  obtain ⟨a1, chA⟩ := bandT chA
  obtain ⟨a2, a3⟩ := bandT chA
  obtain ⟨chB, chC⟩ := bandT chk
  obtain ⟨b1', b2'⟩ := bandT chB
  obtain ⟨c1, chC⟩ := bandT chC
  obtain ⟨c2, c3⟩ := bandT chC
  have a1 := Nat.le_of_ble_eq_true a1
  have a2 := Nat.le_of_ble_eq_true a2
  have b1' := Nat.le_of_ble_eq_true b1'
  have c1 := Nat.eq_of_beq_eq_true c1
  obtain ⟨x, X1, X2⟩ := mag_val (rep_pt ggA hcu 4) a3
  obtain ⟨y, Y1, Y2⟩ := mag_val (rep_pt ggB hcu 4) b2'
  obtain ⟨z, Z1, Z2⟩ := mag_val (rep_pt ggC hcu 4) c2
  have X1 : Val .f32 (lA (lCu (Int.ofNat c))) x := X1
  have Y1 : Val .f32 (lB (lCu (Int.ofNat c))) y := Y1
  have Z1 : Val .f32 (lC (lCu (Int.ofNat c))) z := Z1
  rw [bx_eq] at c3
  have hz : z = -x := by
    have : z * unit .f32 = -x * unit .f32 := by
      rw [c1] at Z2
      rcases X2 with ⟨h1, h2⟩ | ⟨h1, h2⟩ <;> rcases Z2 with ⟨h3, h4⟩ | ⟨h3, h4⟩ <;> rw [h2, h4] at c3 <;> first | exact absurd c3 (by decide) | grind
    have hu := unit_pos .f32
    have h5 : (z - -x) * unit .f32 = 0 := by grind
    rcases Rat.mul_eq_zero.1 h5 with h | h <;> grind
  generalize vmag (vpt ggA (vCu c) 4) = ma at *
  generalize vmag (vpt ggB (vCu c) 4) = mb at *
  -- n: four times the current
  have hn : (((Int.ofNat c + 1 : Int) : Rat)) = ((c + 1 : Nat) : Rat) := by
    rw [← Rat.intCast_natCast]; rfl
  rw [hn] at hv
  have n1 : (1 : Rat) ≤ ((c + 1 : Nat) : Rat) := Rat.natCast_le_natCast.2 (show 1 ≤ c + 1 by omega)
  have n8 : ((c + 1 : Nat) : Rat) ≤ ((8 : Nat) : Rat) := Rat.natCast_le_natCast.2 (by omega)
  have a1 := Rat.natCast_le_natCast.2 a1
  have a2 := Rat.natCast_le_natCast.2 a2
  have b1' := Rat.natCast_le_natCast.2 b1'
  have cm : ∀ a b : Nat, ((Nat.mul a b : Nat) : Rat) = (a : Rat) * (b : Rat) := fun a b => Rat.natCast_mul a b
  have sc : Nat.succ c = c + 1 := rfl
  rw [cm, cm, cm, sc] at a1 a2 b1'
  have e990 : ((990 : Nat) : Rat) = 990 := by decide +kernel
  have e1000 : ((1000 : Nat) : Rat) = 1000 := by decide +kernel
  have e1010 : ((1010 : Nat) : Rat) = 1010 := by decide +kernel
  have e10 : ((10 : Nat) : Rat) = 10 := by decide +kernel
  have e8 : ((8 : Nat) : Rat) = 8 := by decide +kernel
  rw [e990, e1000] at a1
  rw [e1000, e1010] at a2
  rw [e1000, e10] at b1'
  rw [e8] at n8
  generalize ((c + 1 : Nat) : Rat) = n at *
  obtain ⟨p1, p2⟩ := piK_lo
  have n0 : 0 ≤ n := by grind
  have q1 := Rat.mul_le_mul_of_nonneg_left p1 n0
  have q2 := Rat.mul_le_mul_of_nonneg_left p2 n0
  generalize ((piK : Nat) : Rat) = K at *
  have kk : (1 / 4 : Rat) + 1 / 4 + 1 / 4 + 1 / 4 = 1 := by decide +kernel
  obtain ⟨w, f, m, w1, f1, m1, w2, f2, m2⟩ := want_val hv (by have := Rat.mul_le_mul_of_nonneg_right n0 (show (0 : Rat) ≤ 1 / 4 by decide +kernel); grind) (by have := Rat.mul_le_mul_of_nonneg_right n8 (show (0 : Rat) ≤ 1 / 4 by decide +kernel); have e : (8 : Rat) * (1 / 4) = 2 := by decide +kernel
                                                                                                                                                               grind)
  have lo : ∀ t : Rat, t * unit .f32 = (ma : Rat) → 31 / 10 * n ≤ t ∧ t ≤ 318 / 100 * n := fun t ht => by
    have u1 : (31 / 10 : Rat) * 1000 ≤ 990 * (314159 / 100000) := by decide +kernel
    have u2 : (1010 : Rat) * (31416 / 10000) ≤ 318 / 100 * 1000 := by decide +kernel
    have hu := unit_pos .f32
    have nu := Rat.mul_nonneg n0 (Rat.le_of_lt hu)
    have v1 := Rat.mul_le_mul_of_nonneg_right u1 nu
    have v2 := Rat.mul_le_mul_of_nonneg_right u2 nu
    constructor
    · refine le_of_unit (Rat.le_of_mul_le_mul_left (c := 1000) ?_ (by decide))
      grind
    · refine le_of_unit (Rat.le_of_mul_le_mul_left (c := 1000) ?_ (by decide))
      grind
  have hb : ∀ t : Rat, t * unit .f32 = (mb : Rat) → t ≤ 4 / 100 * n := fun t ht => by
    have u2 : (10 : Rat) * (31416 / 10000) ≤ 4 / 100 * 1000 := by decide +kernel
    have hu := unit_pos .f32
    have nu := Rat.mul_nonneg n0 (Rat.le_of_lt hu)
    have v2 := Rat.mul_le_mul_of_nonneg_right u2 nu
    refine le_of_unit (Rat.le_of_mul_le_mul_left (c := 1000) ?_ (by decide))
    grind
  have mb0 : (0 : Rat) ≤ (mb : Rat) := Rat.natCast_nonneg
  have fbig : 15 / 100 * n ≤ f := by
    have : (15 / 100 : Rat) + 1 / 100000 ≤ 62 / 100 * (1 / 4) := by decide +kernel
    have := Rat.mul_le_mul_of_nonneg_right this n0
    have e5 := Rat.mul_le_mul_of_nonneg_left n1 (show (0 : Rat) ≤ 1 / 100000 by decide +kernel)
    grind
  have mbig : 1 / 1000 ≤ m := by
    have : (2 / 1000 : Rat) ≤ 12 / 1000 * (1 / 4) := by decide +kernel
    have := Rat.mul_le_mul_of_nonneg_right this n0
    have e5 := Rat.mul_le_mul_of_nonneg_left n1 (show (0 : Rat) ≤ 2 / 1000 by decide +kernel)
    have e6 : (1 / 1000 : Rat) + 1 / 100000 ≤ 2 / 1000 := by decide +kernel
    grind
  refine ⟨hA, ?_, ?_, ?_, ?_, ?_⟩
  · unfold sqOk
    rw [sq.1, sq.2.1, ok]; rfl
  · have s1 : (allUpTo (shortW lwN) 1 && true) = true := by decide +kernel
    have i8 : in32 (Int.ofNat 8) = true := by decide +kernel
    have okB : okW 4 0 (adX (can .f32 1082130432) lpX) (adX 0 lpY) (adX 0 lpZ) = true := by
      have := pt.2.1
      unfold movOk at this
      rw [Bool.and_eq_true] at this
      exact this.2
    have gA : arGo 1 lwN lwX lwY lwZ lwB (lwI (lCu (Int.ofNat c))) 4 lpX lpY lpZ true 0 8 = true := by
      have := fin_val X1
      unfold lA arV at this
      unfold arGo arOk
      rw [this, hA, pt.1, i8]; rfl
    have gB : arGo 1 lwN lwX lwY lwZ lwB (lwI (lCu (Int.ofNat c))) 4 (adX (can .f32 1082130432) lpX) (adX 0 lpY) (adX 0 lpZ) true 0 8 = true := by
      have := fin_val Y1
      unfold lB arV at this
      unfold arGo arOk
      rw [this, hA, okB, i8]; rfl
    have gC : arGo 1 lwN lwX lwY lwZ lwB (lwI (lCu (Int.ofNat c))) 4 (revR 4 lpX) (revR 4 lpY) (revR 4 lpZ) true 0 8 = true := by
      have := fin_val Z1
      unfold lC arV at this
      unfold arGo arOk
      rw [this, hA, pt.2.2, i8]; rfl
    unfold C5a
    rw [s1, gA, gB, gC, pt.1, pt.2.1]; rfl
  · obtain ⟨g, g1, g2, g3⟩ := gap0 X1.widen
    have hg : g * unit .f32 = (ma : Rat) := by
      have m0 : (0 : Rat) ≤ (ma : Rat) := Rat.natCast_nonneg
      have hu := unit_pos .f32
      have gu := Rat.mul_nonneg g3 (Rat.le_of_lt hu)
      rcases g2 with e | e <;> subst e <;> rcases X2 with ⟨h1, _⟩ | ⟨h1, _⟩ <;> grind
    obtain ⟨l1, l2⟩ := lo g hg
    have d : Near (g - w) (5 / 100 * n) := by
      have k1 : (12566371 / 1000000 : Rat) * (1 / 4) ≤ 31416 / 10000 := by decide +kernel
      have k2 : (314159 / 100000 : Rat) ≤ 12566371 / 1000000 * (1 / 4) := by decide +kernel
      have k1 := Rat.mul_le_mul_of_nonneg_right k1 n0
      have k2 := Rat.mul_le_mul_of_nonneg_right k2 n0
      have e5 := Rat.mul_le_mul_of_nonneg_left n1 (show (0 : Rat) ≤ 1 / 1000000 by decide +kernel)
      have k3 : (31416 / 10000 : Rat) - 31 / 10 + 1 / 1000000 ≤ 5 / 100 := by decide +kernel
      have k4 : (318 / 100 : Rat) - 314159 / 100000 + 1 / 1000000 ≤ 5 / 100 := by decide +kernel
      have k3 := Rat.mul_le_mul_of_nonneg_right k3 n0
      have k4 := Rat.mul_le_mul_of_nonneg_right k4 n0
      unfold Near at *
      constructor <;> grind
    refine gap_lt g1 w1 d f1 ?_ ?_
    · have : (5 / 100 : Rat) * 8 ≤ 1 := by decide +kernel
      have := Rat.mul_le_mul_of_nonneg_left n8 (show (0 : Rat) ≤ 5 / 100 by decide +kernel)
      grind
    · have : (1 : Rat) / 2 ^ 50 < 1 / 100 := by decide +kernel
      have h5 : (1 / 100 : Rat) + 5 / 100 ≤ 15 / 100 := by decide +kernel
      have h6 := Rat.mul_le_mul_of_nonneg_right h5 n0
      have h7 := Rat.mul_le_mul_of_nonneg_left n1 (show (0 : Rat) ≤ 1 / 100 by decide +kernel)
      grind
  · obtain ⟨g, g1, g2, g3⟩ := gap0 Y1.widen
    have hg : g * unit .f32 = (mb : Rat) := by
      have hu := unit_pos .f32
      have gu := Rat.mul_nonneg g3 (Rat.le_of_lt hu)
      rcases g2 with e | e <;> subst e <;> rcases Y2 with ⟨h1, _⟩ | ⟨h1, _⟩ <;> grind
    have l2 := hb g hg
    unfold R5b
    rw [forder_lt g1 f1 (by
      have : (4 / 100 : Rat) + 1 / 100 ≤ 15 / 100 := by decide +kernel
      have h6 := Rat.mul_le_mul_of_nonneg_right this n0
      have h7 := Rat.mul_le_mul_of_nonneg_left n1 (show (0 : Rat) ≤ 1 / 100 by decide +kernel)
      have h8 : (0 : Rat) < 1 / 100 := by decide +kernel
      grind)]; rfl
  · have zz : Val .f64 (fneg .f64 (fcvt .f32 .f64 (lC (lCu (Int.ofNat c))))) x := by
      have := Z1.widen.neg
      rw [hz, Rat.neg_neg] at this
      exact this
    exact gap_same' X1.widen zz m1 (by
      have : (1 : Rat) / 2 ^ 50 < 1 / 1000 := by decide +kernel
      grind)
theorem u8_all {la : Nat} {b : Nat → Nat} (hb : ∀ i, b i < 256) : allUpTo (isU8 (gL b)) la = true := allUpTo_iff.2 fun i _ => by
  show (decide (0 ≤ Int.ofNat (b i)) && decide (Int.ofNat (b i) < 256)) = true
  have := hb i
  rw [decide_eq_true (show 0 ≤ Int.ofNat (b i) from Int.natCast_nonneg _), decide_eq_true (show Int.ofNat (b i) < 256 by simp; omega)]; rfl
theorem four_qt : Qt (can .f32 1082130432) 16 := Val.of_vof (by decide +kernel)
theorem qt_to {w : Nat} {a b : Int} (h : Qt w a) (e : a = b) : Qt w b := e ▸ h
theorem law5 {la lc : Nat} {b c : Nat → Nat} (hb : ∀ i, b i < 256) (hc : ∀ i, c i < 256) : PureCall Try.prog 5 [.ro 1 la (.gen fun i => .int .u8 (Int.ofNat (b i))), .ro 1 lc (.gen fun i => .int .u8 (Int.ofNat (c i)))] (.bool true) := by
  by_cases h : la ≤ 48 ∧ lc ≤ 48
  · obtain ⟨i0, I0, A0⟩ := r8c_ex (la := lc) hc 0 (k := 0) (by omega)
    obtain ⟨i1, I1, A1⟩ := r8c_ex (la := lc) hc 0 (k := 1) (by omega)
    obtain ⟨i2, I2, A2⟩ := r8c_ex (la := lc) hc 0 (k := 2) (by omega)
    obtain ⟨v, hv, E⟩ := r8a_ex (la := la) hb 0 (n := 8) (by omega)
    have E : r8a la b 0 8 = Int.ofNat v := E
    have W := walk5 la b lc c
    rw [E, A0, A1, A2] at W
    obtain ⟨K1, K2, K3, K4, K5, K6⟩ := paths5 hv
    have hk : Val .f32 (lCu (Int.ofNat v)) (((Int.ofNat v + 1 : Int) : Rat) * (1 / 4)) := Val.of_vof (allUpTo_iff.1 cu_tab v hv)
    have hkA : Ap (lCu (Int.ofNat v)) _ (2 * b1) 0 := .val hk (by
      rw [scl_b1]
      have h1 : (Int.ofNat v + 1) ≤ 8 := by simp; omega
      have h2 : (0 : Int) ≤ Int.ofNat v + 1 := by simp; omega
      have h1 := Rat.mul_le_mul_of_nonneg_right (Rat.intCast_le_intCast.2 h1) (show (0 : Rat) ≤ 1 / 4 by decide +kernel)
      have h2 := Rat.mul_le_mul_of_nonneg_right (Rat.intCast_le_intCast.2 h2) (show (0 : Rat) ≤ 1 / 4 by decide +kernel)
      have e1 : ((8 : Int) : Rat) * (1 / 4) = ((2 : Nat) : Rat) := by decide +kernel
      have e2 : ((0 : Int) : Rat) * (1 / 4) = 0 := by decide +kernel
      have e3 : (0 : Rat) ≤ ((2 : Nat) : Rat) := by decide +kernel
      rw [e1] at h1
      rw [e2] at h2
      unfold Near; constructor <;> grind)
    obtain ⟨L1, L2, L3⟩ := place5 I0 I1 I2 hkA (qw_qt I0) (qw_qt I1) (qt_to (b := Int.ofNat i2 + 8) ((qw_qt I2).add four_qt (by simp; omega)) (by simp; omega)) K1
    have hR : R5 (lCu (Int.ofNat v)) (qw i0) (qw i1) (fop .add .f32 (qw i2) (can .f32 1082130432)) = true := by
      unfold R5
      rw [L2, L3, K4, K5, K6]; rfl
    rw [hR] at W
    refine autoW_ok cfgD5_ok Try.func5 (by kernel_rfl) (lp_none _) W ?_
    unfold C5
    rw [A0, A1, A2, u8_all hb, u8_all hc, K2, K3, L1, decide_eq_false (show ¬ Int.ofNat la > 48 by simp; omega), decide_eq_false (show ¬ Int.ofNat lc > 48 by simp; omega)]; rfl
  · refine autoW_ok cfgD5_ok Try.func5 (by kernel_rfl) (lp_none _) (long5 la b lc c) ?_
    by_cases h1 : la ≤ 48
    · rw [decide_eq_false (show ¬ Int.ofNat la > 48 by simp; omega), decide_eq_true (show Int.ofNat lc > 48 by simp; omega)]; rfl
    · rw [decide_eq_true (show Int.ofNat la > 48 by simp; omega)]; rfl
end Go.Fw.E1
