/-
  Words that bytes choose, as quarters; gaps and distances as fractions.
-/
import Derived.Test.YtlehhjphmenfbaaLpB
import Derived.Test.YtlehhjphmenfbaaFwD
import Derived.Test.YtlehhjphmenfbaaLpD
import Derived.Test.YtlehhjphmenfbaaLpE
import Derived.Test.YtlehhjphmenfbaaLpF
import Derived.Test.YtlehhjphmenfbaaLpG
import Derived.Test.YtlehhjphmenfbaaLpH

namespace Go.Fw.E1
open Go.Proofs
/-- The word of (j - 8) / 4. -/
def qw (j : Nat) : Nat := [3221225472, 3219128320, 3217031168, 3214934016, 3212836864, 3208642560, 3204448256, 3196059648, 0, 1048576000, 1056964608, 1061158912, 1065353216, 1067450368, 1069547520, 1071644672, 1073741824].getD j 0
set_option maxRecDepth 100000 in
theorem r8q_tab : allUpTo (fun v => Nat.beq (r8q v) (qw (v % 17))) 256 = true := by decide +kernel
theorem r8q_eq {v : Nat} (h : v < 256) : r8q v = qw (v % 17) := Nat.eq_of_beq_eq_true (allUpTo_iff.1 r8q_tab v h)
theorem r8d_tab : (Nat.beq (r8d 0) (qw 12) && Nat.beq (r8d 1) (qw 10) && Nat.beq (r8d 2) (qw 7)) = true := by decide +kernel
theorem r8c_ex {la : Nat} {b : Nat → Nat} (hb : ∀ i, b i < 256) (p : Nat) {k : Nat} (hk : k < 3) : ∃ j, j < 17 ∧ r8c la b p k = qw j := by
  by_cases h : p + k < la
  · exact ⟨b (p + k) % 17, Nat.mod_lt _ (by omega), by rw [r8c_in h, r8q_eq (hb _)]⟩
  · rw [r8c_out h]
    have := r8d_tab
    simp only [Bool.and_eq_true] at this
    match k, hk with
    | 0, _ => exact ⟨12, by omega, Nat.eq_of_beq_eq_true this.1.1⟩
    | 1, _ => exact ⟨10, by omega, Nat.eq_of_beq_eq_true this.1.2⟩
    | 2, _ => exact ⟨7, by omega, Nat.eq_of_beq_eq_true this.2⟩
/-- What has a value is finite. -/
theorem fin_val {x : Nat} {q : Rat} (h : Val .f32 x q) : fin x = true := by
  obtain ⟨n, h, _⟩ := h
  have h2 : Fin .f32 (fop .sub .f32 x x) 0 := by
    have := Fin.sub h h
    rw [Int.sub_self, rI_0] at this
    exact this (limK_pos _)
  unfold fin
  have h0 : Fin .f32 (can .f32 0) 0 := by
    have : Rep .f32 (can .f32 0) .zero := by rw [show can .f32 0 = 0 by decide +kernel]; exact rep_of .f32 0
    exact this
  rw [Fin.order h2 h0]
  rfl
theorem vfin_val {x y z : Nat} {p q r : Rat} (hx : Val .f32 x p) (hy : Val .f32 y q) (hz : Val .f32 z r) : vfin x y z = true := by
  unfold vfin
  rw [fin_val hx, fin_val hy, fin_val hz]; rfl
theorem gt0_val {x : Nat} {q : Rat} (h : Val .f32 x q) (h0 : 0 < q) : above x = true := by
  unfold above
  rw [fin_val h]
  unfold gt0
  have hz : Val .f32 (can .f32 0) 0 := Val.of_vof (by decide +kernel)
  rw [forder_gt h hz h0]; rfl
theorem zero64 : Val .f64 (can .f64 0) 0 := Val.of_vof (by decide +kernel)
theorem gap_val {x y : Nat} {a b t : Rat} (hx : Val .f64 x a) (hy : Val .f64 y b) (h : Near (a - b) t) (ht : t ≤ 1) : ∃ g, Val .f64 (gap8 x y) g ∧ g ≤ t + 1 / 2 ^ 50 := by
  have hm : t ≤ most := Rat.le_trans ht (by decide +kernel)
  obtain ⟨c, h1, h2⟩ := hx.sub hy h hm
  obtain ⟨d, h3, h4⟩ := hy.sub hx (X := t) (by unfold Near at *; constructor <;> grind) hm
  refine ⟨_, fmax_val h1 h3, ?_⟩
  have hu : ur .f64 + tiny .f64 ≤ 1 / 2 ^ 50 := by decide +kernel
  have hup := ur_pos .f64
  have := Rat.mul_le_mul_of_nonneg_right ht (Rat.le_of_lt hup)
  unfold Near at *
  split <;> grind
theorem gap_ngt {x y K : Nat} {a b t k : Rat} (hx : Val .f64 x a) (hy : Val .f64 y b) (h : Near (a - b) t) (hK : Val .f64 K k) (ht : t ≤ 1) (hk : t + 1 / 2 ^ 50 < k) : (forder .f64 (gap8 x y) K == some .gt) = false := by
  obtain ⟨g, h1, h2⟩ := gap_val hx hy h ht
  rw [forder_lt h1 hK (by grind)]; rfl
end Go.Fw.E1

/-
  Bytes' choices, and values of what the kernel evaluates.
-/
namespace Go.Fw.E1
open Go.Proofs
theorem bandT {a b : Bool} (h : band a b = true) : a = true ∧ b = true := by rw [band_eq, Bool.and_eq_true] at h; exact h
theorem r8a_ex {la : Nat} {b : Nat → Nat} (hb : ∀ i, b i < 256) (k : Nat) {n : Nat} (hn : 0 < n) : ∃ v, v < n ∧ r8a la b (Int.ofNat k) (Int.ofNat n) = Int.ofNat v := by
  unfold r8a
  by_cases h : la ≤ k
  · exact ⟨0, hn, by rw [decide_eq_true (show Int.ofNat k ≥ Int.ofNat la by simp; omega)]; rfl⟩
  · refine ⟨b k % n, Nat.mod_lt _ hn, ?_⟩
    rw [decide_eq_false (show ¬ Int.ofNat k ≥ Int.ofNat la by simp; omega)]
    show (IntKind.i64.wrap (Int.ofNat (b k))).tmod (Int.ofNat n) = _
    rw [wrap_nat (by have := hb k; omega)]; rfl
theorem mag_val {w : Nat} {v : V} (hr : Rep .f32 w v) (hg : vgood v = true) : ∃ a, Val .f32 w a ∧ (a * unit .f32 = ((vmag v : Nat) : Rat) ∧ vlow v = false ∨ a * unit .f32 = -((vmag v : Nat) : Rat) ∧ vlow v = true) := by
  have hv := rep_val hr hg
  refine ⟨_, hv.val, ?_⟩
  have hu := unit_pos .f32
  rw [Rat.div_mul_cancel (by grind)]
  unfold Go.Fw.sg
  cases vlow v
  · exact .inl ⟨Rat.intCast_natCast _, rfl⟩
  · exact .inr ⟨by rw [if_pos rfl, Rat.intCast_neg, Rat.intCast_natCast], rfl⟩
theorem le_of_unit {a b : Rat} (h : a * unit .f32 ≤ b * unit .f32) : a ≤ b := Rat.le_of_mul_le_mul_right h (unit_pos .f32)
theorem u8_all {la : Nat} {b : Nat → Nat} (hb : ∀ i, b i < 256) : allUpTo (isU8 (gL b)) la = true := allUpTo_iff.2 fun i _ => by
  show (decide (0 ≤ Int.ofNat (b i)) && decide (Int.ofNat (b i) < 256)) = true
  have := hb i
  rw [decide_eq_true (show 0 ≤ Int.ofNat (b i) from Int.natCast_nonneg _), decide_eq_true (show Int.ofNat (b i) < 256 by simp; omega)]; rfl
theorem long_valL {a b c : Nat} {x y z : Rat} (ha : Val .f32 a x) (hb : Val .f32 b y) (hc : Val .f32 c z) {A : Rat} (hA : A = x * x + y * y + z * z) (hm : A * 4 ≤ most) : ∃ l, Val .f32 (long a b c) l ∧ 0 ≤ l ∧ Near (l * l - A) (A * (4 * e22) + 32 * tiny .f32) := long_val ha hb hc hA hm
theorem notB {a : Bool} (h : (Bool.rec true false a : Bool) = true) : a = false := by cases a <;> first | rfl | cases h
/-- A number that is not negative. -/
theorem pos_val {w : Nat} {v : V} (hr : Rep .f32 w v) (hg : vgood v = true) (hl : vlow v = false) : ∃ a, Val .f32 w a ∧ a * unit .f32 = ((vmag v : Nat) : Rat) := by
  obtain ⟨a, h1, h2⟩ := mag_val hr hg
  rcases h2 with ⟨h2, _⟩ | ⟨_, h3⟩
  · exact ⟨a, h1, h2⟩
  · rw [hl] at h3; cases h3
/-- A number of magnitude M / D at most. -/
theorem near_mag {w : Nat} {v : V} {N : Nat} {q : Rat} (hr : Rep .f32 w v) (hg : vgood v = true) (hm : vmag v ≤ N) (hq : ((N : Nat) : Rat) ≤ q * unit .f32) : ∃ a, Val .f32 w a ∧ Near a q := by
  obtain ⟨a, h1, h2⟩ := mag_val hr hg
  have hm := Rat.natCast_le_natCast.2 hm
  have h0 : (0 : Rat) ≤ ((vmag v : Nat) : Rat) := Rat.natCast_nonneg
  refine ⟨a, h1, ?_⟩
  have u0 := unit_pos .f32
  constructor
  · refine le_of_unit ?_
    rcases h2 with ⟨h2, _⟩ | ⟨h2, _⟩ <;> rw [h2] <;> grind
  · refine le_of_unit ?_
    rcases h2 with ⟨h2, _⟩ | ⟨h2, _⟩ <;> rw [h2] <;> grind
theorem gap_val4 {x y : Nat} {a b t : Rat} (hx : Val .f64 x a) (hy : Val .f64 y b) (h : Near (a - b) t) (ht : t ≤ 4) : ∃ g, Val .f64 (gap8 x y) g ∧ g ≤ t + 1 / 2 ^ 50 := by
  have hm : t ≤ most := Rat.le_trans ht (by decide +kernel)
  obtain ⟨c, h1, h2⟩ := hx.sub hy h hm
  obtain ⟨d, h3, h4⟩ := hy.sub hx (X := t) (by unfold Near at *; constructor <;> grind) hm
  refine ⟨_, fmax_val h1 h3, ?_⟩
  have hu : 4 * ur .f64 + tiny .f64 ≤ 1 / 2 ^ 50 := by decide +kernel
  have hup := ur_pos .f64
  have := Rat.mul_le_mul_of_nonneg_right ht (Rat.le_of_lt hup)
  unfold Near at *
  split <;> grind
theorem gap_ngt4 {x y K : Nat} {a b t k : Rat} (hx : Val .f64 x a) (hy : Val .f64 y b) (h : Near (a - b) t) (hK : Val .f64 K k) (ht : t ≤ 4) (hk : t + 1 / 2 ^ 50 < k) : (forder .f64 (gap8 x y) K == some .gt) = false := by
  obtain ⟨g, h1, h2⟩ := gap_val4 hx hy h ht
  rw [forder_lt h1 hK (by grind)]; rfl
end Go.Fw.E1

/-
  The law of rings' axes: on axes.
-/
namespace Go.Fw.E1
open Go.Proofs
theorem rowA_all {i : Nat} (h : i < 25) : rowA i = true := by
  by_cases h1 : i < 7
  · have := allUpTo_iff.1 rowAsa i h1
    rwa [Nat.zero_add] at this
  by_cases h2 : i < 13
  · have := allUpTo_iff.1 rowAsb (i - 7) (by omega)
    rwa [show 7 + (i - 7) = i by omega] at this
  by_cases h3 : i < 19
  · have := allUpTo_iff.1 rowAsc (i - 13) (by omega)
    rwa [show 13 + (i - 13) = i by omega] at this
  · have := allUpTo_iff.1 rowAsd (i - 19) (by omega)
    rwa [show 19 + (i - 19) = i by omega] at this
set_option maxRecDepth 100000 in
theorem rq_tab : (allUpTo (fun c => vbeq (vof .f32 (lCu (Int.ofNat c))) (vr c)) 8 && (allUpTo (fun c => vbeq (vof .f32 (hH (Int.ofNat c))) (vh c)) 17 && (allUpTo (fun c => vbeq (vof .f32 (qw c)) (vh c) && vbeq (vof .f32 (fop .add .f32 (qw c) (can .f32 1086324736))) (vp c)) 17 && (allUpTo (fun v => Nat.beq (tbX.getD v []).length (24 + v) && Nat.beq (tbY.getD v []).length (24 + v)) 25)))) = true := by decide +kernel
theorem rep_vr {c : Nat} (h : c < 8) : Rep .f32 (lCu (Int.ofNat c)) (vr c) := by
  have := rq_tab
  rw [Bool.and_eq_true] at this
  exact rep_of' (vbeq_eq (allUpTo_iff.1 this.1 c h))
theorem rep_vh {c : Nat} (h : c < 17) : Rep .f32 (hH (Int.ofNat c)) (vh c) := by
  have := rq_tab
  rw [Bool.and_eq_true, Bool.and_eq_true] at this
  exact rep_of' (vbeq_eq (allUpTo_iff.1 this.2.1 c h))
theorem rep_qw {c : Nat} (h : c < 17) : Rep .f32 (qw c) (vh c) ∧ Rep .f32 (fop .add .f32 (qw c) (can .f32 1086324736)) (vp c) := by
  have := rq_tab
  rw [Bool.and_eq_true, Bool.and_eq_true, Bool.and_eq_true] at this
  have := allUpTo_iff.1 this.2.2.1 c h
  rw [Bool.and_eq_true] at this
  exact ⟨rep_of' (vbeq_eq this.1), rep_of' (vbeq_eq this.2)⟩
theorem tb_len {v : Nat} (h : v < 25) : (tbX.getD v []).length = 24 + v ∧ (tbY.getD v []).length = 24 + v := by
  have := rq_tab
  rw [Bool.and_eq_true, Bool.and_eq_true, Bool.and_eq_true] at this
  have := allUpTo_iff.1 this.2.2.2 v h
  rw [Bool.and_eq_true] at this
  exact ⟨Nat.eq_of_beq_eq_true this.1, Nat.eq_of_beq_eq_true this.2⟩
theorem getD_bad {l : List V} {i : Nat} (h : ¬ i < l.length) : l.getD i V.bad = V.bad := by
  simp [List.getD, List.getElem?_eq_none (Nat.le_of_not_lt h)]
theorem vmul_bad (a : V) : vmul a V.bad = V.bad := by cases a <;> rfl
theorem rep_rgx {v R : Nat} {VR : V} (hv : v < 25) (hR : Rep .f32 R VR) (i : Nat) : Rep .f32 (ringX (Int.ofNat (24 + v)) R i) (rgx v VR i) := by
  by_cases h : i < 24 + v
  · have tk := allUpTo_iff.1 (allUpTo_iff.1 tb_ok v hv) i h
    rw [Bool.and_eq_true] at tk
    have := rep_sine (fcvt .f32 .f64 (fop .add .f32 (ringQ (Int.ofNat (24 + v)) i) (can .f32 1048576000)))
    rw [vbeq_eq tk.1] at this
    exact rep_mul hR this
  · unfold rgx rsx
    rw [getD_bad (by rw [(tb_len hv).1]; exact h), vmul_bad]; trivial
theorem rep_rgy {v R : Nat} {VR : V} (hv : v < 25) (hR : Rep .f32 R VR) (i : Nat) : Rep .f32 (ringY (Int.ofNat (24 + v)) R i) (rgy v VR i) := by
  by_cases h : i < 24 + v
  · have tk := allUpTo_iff.1 (allUpTo_iff.1 tb_ok v hv) i h
    rw [Bool.and_eq_true] at tk
    have := rep_sine (fcvt .f32 .f64 (ringQ (Int.ofNat (24 + v)) i))
    rw [vbeq_eq tk.2] at this
    exact rep_mul hR this
  · unfold rgy rsy
    rw [getD_bad (by rw [(tb_len hv).2]; exact h), vmul_bad]; trivial
theorem rep_628 : Rep .f32 (can .f32 1086918619) v628 := rep_of' (by kernel_rfl)
theorem rep_ax {r h c : Nat} {R H C : V} (hr : Rep .f32 r R) (hh : Rep .f32 h H) (hc : Rep .f32 c C) : Rep .f32 (axV r h c) (vax R H C) :=
  have e := rep_add (rep_mul hr hr) (rep_mul hh hh)
  rep_quo (rep_mul (rep_mul rep_628 hc) (rep_mul hr hr)) (rep_mul e (rep_vsqrt e))
theorem ring_N {v : Nat} (hv : v < 25) : hN (Int.ofNat v) = Int.ofNat (24 + v) := by
  unfold hN
  rw [show Int.ofNat 24 + Int.ofNat v = Int.ofNat (24 + v) from rfl, wrap_nat (by omega)]
/-- Rings' points are finite. -/
theorem ring_good {v r : Nat} (hv : v < 25) (hr : r < 8) {i : Nat} (hi : i < 24 + v) : vgood (rgx v (vr r) i) = true ∧ vgood (rgy v (vr r) i) = true := by
  have := allUpTo_iff.1 (allUpTo_iff.1 (allUpTo_iff.1 rg_ok v hv) r hr) i hi
  exact bandT this
theorem ring_okW {v r c h : Nat} (hv : v < 25) (hr : r < 8) (hc : c < 8) (hh : fin h = true) : okW (24 + v) (lCu (Int.ofNat c)) (ringX (Int.ofNat (24 + v)) (lCu (Int.ofNat r))) (ringY (Int.ofNat (24 + v)) (lCu (Int.ofNat r))) (fun _ => h) = true := by
  have g : vgood (vr c) = true := vr_good hc
  unfold okW
  rw [decide_eq_true (show 2 ≤ 24 + v ∧ 24 + v ≤ 48 by omega), rep_fin (rep_vr hc) g, Bool.true_and, Bool.true_and]
  refine allUpTo_iff.2 fun i hi => ?_
  unfold vfinAt vfin
  obtain ⟨g1, g2⟩ := ring_good hv hr hi
  rw [rep_fin (rep_rgx hv (rep_vr hr) i) g1, rep_fin (rep_rgy hv (rep_vr hr) i) g2, hh]; rfl
theorem above_vr {r : Nat} (hr : r < 8) : above (lCu (Int.ofNat r)) = true := by
  obtain ⟨a, h1, h2⟩ := pos_val (rep_vr hr) (vr_good hr) (vr_pos hr).1
  refine gt0_val h1 ?_
  have u0 := unit_pos .f32
  have h3 := Rat.natCast_le_natCast.2 (vr_pos hr).2
  have e1 : ((1 : Nat) : Rat) = 1 := rfl
  rw [e1, ← h2] at h3
  have h4 : 0 * unit .f32 < a * unit .f32 := by grind
  exact Rat.lt_of_mul_lt_mul_right h4 (Rat.le_of_lt u0)
theorem ring_ok4 {v r c h : Nat} (hv : v < 25) (hr : r < 8) (hc : c < 8) (hh : fin h = true) : ringOk (Int.ofNat (24 + v)) (lCu (Int.ofNat r)) h (lCu (Int.ofNat c)) = true := by
  unfold ringOk
  rw [decide_eq_true (show Int.ofNat (24 + v) ≥ 3 by simp; omega), decide_eq_true (show Int.ofNat (24 + v) ≤ 48 by simp; omega), above_vr hr]
  rw [show (Int.ofNat (24 + v)).toNat = 24 + v from rfl, ring_okW hv hr hc hh]; rfl
theorem fin0 : fin (can .f32 0) = true := by decide +kernel
section
variable {v r h c : Nat} (hv : v < 25) (hr : r < 8) (hh : h < 17) (hc : c < 8)
include hv hr hh hc
theorem rep_aX : Rep .f32 (aFX (Int.ofNat (24 + v)) (lCu (Int.ofNat r)) (lCu (Int.ofNat c)) (hH (Int.ofNat h))) (vmul (aSX v (vr r) (vh h)) (vr c)) := by
  unfold aSX
  rw [usegX_eq]
  exact rep_mul (rep_fX (rep_rgx hv (rep_vr hr)) (rep_rgy hv (rep_vr hr)) (fun _ => repc0) rep0 rep0 (rep_vh hh) _) (rep_vr hc)
theorem rep_aY : Rep .f32 (aFY (Int.ofNat (24 + v)) (lCu (Int.ofNat r)) (lCu (Int.ofNat c)) (hH (Int.ofNat h))) (vmul (aSY v (vr r) (vh h)) (vr c)) := by
  unfold aSY
  rw [usegY_eq]
  exact rep_mul (rep_fY (rep_rgx hv (rep_vr hr)) (rep_rgy hv (rep_vr hr)) (fun _ => repc0) rep0 rep0 (rep_vh hh) _) (rep_vr hc)
theorem rep_aZ : Rep .f32 (aFZ (Int.ofNat (24 + v)) (lCu (Int.ofNat r)) (lCu (Int.ofNat c)) (hH (Int.ofNat h))) (vmul (aSZ v (vr r) (vh h)) (vr c)) := by
  unfold aSZ
  rw [usegZ_eq]
  exact rep_mul (rep_fZ (rep_rgx hv (rep_vr hr)) (rep_rgy hv (rep_vr hr)) (fun _ => repc0) rep0 rep0 (rep_vh hh) _) (rep_vr hc)
end
theorem k003_val : Val .f64 (can .f64 4584304132692975288) (8646911284551352 / 288230376151711744) := Val.of_vof (by decide +kernel)
theorem k001f_val : Val .f64 (can .f64 4576918229304087675) (5764607523034235 / 576460752303423488) := Val.of_vof (by decide +kernel)
theorem near_dist {a b : Rat} {m n : Nat} (ha : a * unit .f32 = ((m : Nat) : Rat)) (hb : b * unit .f32 = ((n : Nat) : Rat)) (h : 10000 * ndist m n ≤ 299 * n) : Near (a - b) (299 / 10000 * b) := by
  have u0 := unit_pos .f32
  have h1 : 10000 * m ≤ 10299 * n ∧ 9701 * n ≤ 10000 * m := by
    have e : ndist m n = (m - n) + (n - m) := rfl
    rw [e] at h
    omega
  have c := fun (a b : Nat) => Rat.natCast_mul a b
  have h2 := Rat.natCast_le_natCast.2 h1.1
  have h3 := Rat.natCast_le_natCast.2 h1.2
  rw [c, c, ← ha, ← hb] at h2
  rw [c, c, ← ha, ← hb] at h3
  have e1 : ((10000 : Nat) : Rat) = 10000 := rfl
  have e2 : ((10299 : Nat) : Rat) = 10299 := rfl
  have e3 : ((9701 : Nat) : Rat) = 9701 := rfl
  rw [e1, e2] at h2
  rw [e1, e3] at h3
  have f1 : 10000 * a ≤ 10299 * b := le_of_unit (by grind)
  have f2 : 9701 * b ≤ 10000 * a := le_of_unit (by grind)
  have k : (299 / 10000 : Rat) * 10000 = 299 := by decide +kernel
  constructor
  · refine Rat.le_of_mul_le_mul_left (c := 10000) ?_ (by decide)
    grind
  · refine Rat.le_of_mul_le_mul_left (c := 10000) ?_ (by decide)
    grind
theorem far4_no {N : Int} {R C H : Nat} {x y z b : Rat} (X1 : Val .f32 (aFX N R C H) x) (Y1 : Val .f32 (aFY N R C H) y) (Z1 : Val .f32 (aFZ N R C H) z) (B1 : Val .f32 (axV R H C) b) (X2 : Near x (991 / 100000)) (Y2 : Near y (991 / 100000)) (d : Near (z - b) (299 / 10000 * b)) (b0 : 1 / 512 ≤ b) (b9 : b ≤ 100) : far4 N R C H = false := by
  have e1 : (8646911284551352 / 288230376151711744 : Rat) ≤ 1 / 32 := by decide +kernel
  have e2 : (2999999 / 100000000 : Rat) ≤ 8646911284551352 / 288230376151711744 := by decide +kernel
  have p1 := Rat.mul_le_mul_of_nonneg_right e1 (show 0 ≤ b by grind)
  have p2 := Rat.mul_le_mul_of_nonneg_right e2 (show 0 ≤ b by grind)
  have b4 : 1 / 32 * b ≤ 4 := by
    have := Rat.mul_le_mul_of_nonneg_left b9 (show (0 : Rat) ≤ 1 / 32 by decide +kernel)
    exact Rat.le_trans this (by decide +kernel)
  have p3 := Rat.mul_nonneg (show (0 : Rat) ≤ 2999999 / 100000000 by decide +kernel) (show 0 ≤ b by grind)
  obtain ⟨k, k1, k2⟩ := k003_val.mul B1.widen (X := 4) (by unfold Near; constructor <;> grind) (by decide +kernel)
  have t1 : (4 : Rat) * ur .f64 + tiny .f64 + 1 / 2 ^ 50 ≤ 1 / 1000000000 := by decide +kernel
  have g1 := gap_ngt4 Z1.widen B1.widen d k1 (by
    have := Rat.mul_le_mul_of_nonneg_left b9 (show (0 : Rat) ≤ 299 / 10000 by decide +kernel)
    exact Rat.le_trans this (by decide +kernel)) (by
    have q1 := Rat.mul_le_mul_of_nonneg_left b0 (show (0 : Rat) ≤ 2999999 / 100000000 - 299 / 10000 by decide +kernel)
    have q2 : (1 / 1000000000 : Rat) < (2999999 / 100000000 - 299 / 10000) * (1 / 512) := by decide +kernel
    unfold Near at k2
    grind)
  have g2 := gap_ngt (t := 991 / 100000) X1.widen zero64 (by rw [show x - 0 = x by grind]; exact X2) k001f_val (by decide +kernel) (by decide +kernel)
  have g3 := gap_ngt (t := 991 / 100000) Y1.widen zero64 (by rw [show y - 0 = y by grind]; exact Y2) k001f_val (by decide +kernel) (by decide +kernel)
  unfold far4
  rw [g1, g2, g3]; rfl
theorem axis4 {v r h c : Nat} (hv : v < 25) (hr : r < 8) (hh : h < 17) (hc : c < 8) : C4r (Int.ofNat (24 + v)) (lCu (Int.ofNat r)) (lCu (Int.ofNat c)) (hH (Int.ofNat h)) true = true := by
  have ch := allUpTo_iff.1 (allUpTo_iff.1 (allUpTo_iff.1 (rowA_all hv) r hr) h hh) c hc
  unfold okA at ch
  obtain ⟨a1, ch⟩ := bandT ch
  obtain ⟨a2, ch⟩ := bandT ch
  obtain ⟨a3, ch⟩ := bandT ch
  obtain ⟨a4, ch⟩ := bandT ch
  obtain ⟨a5, ch⟩ := bandT ch
  obtain ⟨a6, ch⟩ := bandT ch
  obtain ⟨a7, ch⟩ := bandT ch
  obtain ⟨a8, a9⟩ := bandT ch
  obtain ⟨x1, x2⟩ := bandT a1
  obtain ⟨y1, y2⟩ := bandT a2
  have rX := rep_aX hv hr hh hc
  have rY := rep_aY hv hr hh hc
  have rZ := rep_aZ hv hr hh hc
  have rA := rep_ax (rep_vr hr) (rep_vh hh) (rep_vr hc)
  generalize aSX v (vr r) (vh h) = sx at *
  generalize aSY v (vr r) (vh h) = sy at *
  generalize aSZ v (vr r) (vh h) = sz at *
  obtain ⟨x, X1, X2⟩ := near_mag (q := 991 / 100000) rX x1 (Nat.le_of_ble_eq_true x2) (by decide +kernel)
  obtain ⟨y, Y1, Y2⟩ := near_mag (q := 991 / 100000) rY y1 (Nat.le_of_ble_eq_true y2) (by decide +kernel)
  obtain ⟨z, Z1, Z2⟩ := pos_val rZ a3 (notB a5)
  obtain ⟨b, B1, B2⟩ := pos_val rA a4 (notB a6)
  have d := near_dist Z2 B2 (Nat.le_of_ble_eq_true a7)
  have b0 : 1 / 512 ≤ b := le_of_unit (by
    have := Rat.natCast_le_natCast.2 (Nat.le_of_ble_eq_true a8)
    rw [← B2] at this
    exact Rat.le_trans (by decide +kernel) this)
  have b9 : b ≤ 100 := le_of_unit (by
    have := Rat.natCast_le_natCast.2 (Nat.le_of_ble_eq_true a9)
    rw [← B2] at this
    exact Rat.le_trans this (by decide +kernel))
  have fz := fin_val Z1
  have fx := fin_val X1
  have fy := fin_val Y1
  have fb := fin_val B1
  have hH' : fin (hH (Int.ofNat h)) = true := rep_fin (rep_vh hh) (vh_good hh)
  have ok := ring_okW (h := can .f32 0) hv hr hc fin0
  have fo : fOk (24 + v) (lCu (Int.ofNat c)) (ringX (Int.ofNat (24 + v)) (lCu (Int.ofNat r))) (ringY (Int.ofNat (24 + v)) (lCu (Int.ofNat r))) (fun _ => can .f32 0) true 0 0 (hH (Int.ofNat h)) = true := by
    have v1 : vfin (aFX (Int.ofNat (24 + v)) (lCu (Int.ofNat r)) (lCu (Int.ofNat c)) (hH (Int.ofNat h))) (aFY (Int.ofNat (24 + v)) (lCu (Int.ofNat r)) (lCu (Int.ofNat c)) (hH (Int.ofNat h))) (aFZ (Int.ofNat (24 + v)) (lCu (Int.ofNat r)) (lCu (Int.ofNat c)) (hH (Int.ofNat h))) = true := vfin_val X1 Y1 Z1
    have v2 : vfin 0 0 (hH (Int.ofNat h)) = true := by
      unfold vfin
      rw [hH', show fin 0 = true by decide +kernel]; rfl
    unfold fOk
    rw [ok, v2, cond_true, Bool.true_and]
    exact v1
  have fr : far4 (Int.ofNat (24 + v)) (lCu (Int.ofNat r)) (lCu (Int.ofNat c)) (hH (Int.ofNat h)) = false := far4_no X1 Y1 Z1 B1 X2 Y2 d b0 b9
  unfold C4r
  rw [ring_ok4 hv hr hc fin0, show (Int.ofNat (24 + v)).toNat = 24 + v from rfl, ble_of (show 24 + v ≤ 1073741824 by omega), fo, above_vr hr, hH', rep_fin (rep_vr hc) (vr_good hc), fb, fr]; rfl
end Go.Fw.E1
