/-
  The law of fields: a ring's field, twice the current, gone back.
-/
import Derived.Test.YtlehhjphmenfbaaLpB

namespace Go.Fw.E1
open Go.Proofs
theorem sg_yes6 {a b c x y z : Nat} {m q : Rat} (hm : Val .f32 (dW a b c x y z) m) (h0 : 0 < m) (hq : Val .f32 (qW a b c x y z) q) : sgNo a b c x y z = false := by
  have hm : Val .f32 (sgD a b c x y z) m := hm
  have hq : Val .f32 (sgQ a b c x y z) q := hq
  have hz : Val .f32 (can .f32 0) 0 := Val.of_vof (by decide +kernel)
  unfold sgNo
  rw [forder_gt hm hz h0, fin_val hq]; rfl
theorem sgX_eq {a b c x y z : Nat} (h : sgNo a b c x y z = false) : sgX a b c x y z = sgW b c y z (qW a b c x y z) := by unfold sgX; rw [h]; rfl
theorem sgY_eq {a b c x y z : Nat} (h : sgNo a b c x y z = false) : sgY a b c x y z = sgW c a z x (qW a b c x y z) := by unfold sgY; rw [h]; rfl
theorem sgZ_eq {a b c x y z : Nat} (h : sgNo a b c x y z = false) : sgZ a b c x y z = sgW a b x y (qW a b c x y z) := by unfold sgZ; rw [h]; rfl
/-- A segment's numbers, and those of the same one gone back. -/
structure SegOk (a b c x y z : Nat) : Prop where
  fx : ∃ f, Val .f32 (sgX a b c x y z) f ∧ Near f 9 ∧ Gr 4 (sgX a b c x y z) ∧ Val .f32 (sgX x y z a b c) (-f)
  fy : ∃ f, Val .f32 (sgY a b c x y z) f ∧ Near f 9 ∧ Gr 4 (sgY a b c x y z) ∧ Val .f32 (sgY x y z a b c) (-f)
  fz : ∃ f, Val .f32 (sgZ a b c x y z) f ∧ Near f 9 ∧ Gr 4 (sgZ a b c x y z) ∧ Val .f32 (sgZ x y z a b c) (-f)
theorem seg_ok6 {a b c x y z : Nat} {r1 r2 s1 s2 h : Rat} (ha : Val .f32 a r1) (hb : Val .f32 b r2) (hc : Val .f32 c h) (hx : Val .f32 x s1) (hy : Val .f32 y s2) (hz : Val .f32 z h)
    (h1 : 1 / 2 ≤ h) (h9 : h ≤ 5) (n1 : Near r1 4) (n2 : Near r2 4) (n3 : Near s1 4) (n4 : Near s2 4) (hL : (r1 - s1) * (r1 - s1) + (r2 - s2) * (r2 - s2) ≤ 302 / 100)
    (ga : Gr 100 a) (gb : Gr 100 b) (gc : Gr 100 c) (gx : Gr 100 x) (gy : Gr 100 y) (gz : Gr 100 z) : SegOk a b c x y z := by
  have c0 : (0 : Rat) ≤ 1 / 2 := by decide +kernel
  have h0 : 0 ≤ h := by grind
  have hh : 1 / 4 ≤ h * h ∧ h * h ≤ 25 := by
    have p := sq_mono (show (0 : Rat) ≤ 1 / 2 by decide +kernel) h1
    have q := sq_mono h0 h9
    have k : (1 / 4 : Rat) = 1 / 2 * (1 / 2) := by decide +kernel
    constructor <;> grind
  have q1 := n1.mul n1
  have q2 := n2.mul n2
  have q3 := n3.mul n3
  have q4 := n4.mul n4
  have p1 := sqn r1
  have p2 := sqn r2
  have p3 := sqn s1
  have p4 := sqn s2
  obtain ⟨X, X1, X2, X3, X4, _⟩ := long_ref ha hb hc rfl (by grind) (by unfold Near at q1 q2; grind)
  obtain ⟨Y, Y1, Y2, Y3, Y4, _⟩ := long_ref hx hy hz rfl (by grind) (by unfold Near at q3 q4; grind)
  obtain ⟨m, q, f, g, k, M1, M2, Q1, Q2, Q3, F1, G1, K1, F2, G2, K2⟩ := ring_seg ha hb hc hx hy hz X1 Y1 X2 X3 Y2 Y3 h1 X4 Y4 hL
  have gq := gr_of_val Q1 Q2
  have no := sg_yes6 M1 M2 Q1
  have no' : sgNo x y z a b c = false := sg_yes6 (m := m) (q := q) (by rw [dW_comm]; exact M1) M2 (by rw [qW_comm]; exact Q1)
  have w8 : ∀ {t : Rat}, Near t 4 → Near t 8 := fun h => h.mono (by decide)
  have hn : Near h 8 := by unfold Near; constructor <;> grind
  refine ⟨?_, ?_, ?_⟩
  · obtain ⟨f', f1, f2⟩ := sgW_rev hb hc hy hz Q1 (w8 n2) hn (w8 n4) hn Q3 (by decide)
    obtain rfl := F1.unique f1
    refine ⟨f, ?_, F2, ?_, ?_⟩
    · rw [sgX_eq no]; exact F1
    · rw [sgX_eq no]; exact sgW_gr hb hc hy hz Q1 (w8 n2) hn (w8 n4) hn Q3 (by decide) gb gc gy gz gq
    · rw [sgX_eq no', qW_comm]; exact f2
  · obtain ⟨f', f1, f2⟩ := sgW_rev hc ha hz hx Q1 hn (w8 n1) hn (w8 n3) Q3 (by decide)
    obtain rfl := G1.unique f1
    refine ⟨g, ?_, G2, ?_, ?_⟩
    · rw [sgY_eq no]; exact G1
    · rw [sgY_eq no]; exact sgW_gr hc ha hz hx Q1 hn (w8 n1) hn (w8 n3) Q3 (by decide) gc ga gz gx gq
    · rw [sgY_eq no', qW_comm]; exact f2
  · obtain ⟨f', f1, f2⟩ := sgW_rev ha hb hx hy Q1 (w8 n1) (w8 n2) (w8 n3) (w8 n4) Q3 (by decide)
    obtain rfl := K1.unique f1
    refine ⟨k, ?_, K2, ?_, ?_⟩
    · rw [sgZ_eq no]; exact K1
    · rw [sgZ_eq no]; exact sgW_gr ha hb hx hy Q1 (w8 n1) (w8 n2) (w8 n3) (w8 n4) Q3 (by decide) ga gb gx gy gq
    · rw [sgZ_eq no', qW_comm]; exact f2
/-- A place of the law, in quarters. -/
structure Place (P Q Z : Nat) (i j k : Nat) : Prop where
  hi : i < 17
  hj : j < 17
  hk : k < 17
  p : Qt P (Int.ofNat i - 8)
  q : Qt Q (Int.ofNat j - 8)
  z : Qt Z (Int.ofNat k + 4)
theorem gr_qt {w : Nat} {z : Int} (h : Qt w z) : Gr 100 w := by
  obtain ⟨n, n1, n2⟩ := h
  have e : n = z * (2 ^ 47 : Nat) * (2 ^ 100 : Nat) := by
    have : (n : Rat) = ((z * (2 ^ 47 : Nat) * (2 ^ 100 : Nat) : Int) : Rat) := by
      rw [n2, Rat.intCast_mul, Rat.intCast_mul]
      have k : (1 / 4 : Rat) * unit .f32 = (((2 ^ 47 : Nat) : Int) : Rat) * (((2 ^ 100 : Nat) : Int) : Rat) := by decide +kernel
      rw [Rat.mul_assoc, k, Rat.mul_assoc]
    exact Rat.intCast_inj.1 this
  exact .of_fin n1 e
theorem qt_near {z : Int} {n : Nat} (h : z.natAbs ≤ n) : Near ((z : Rat) * (1 / 4)) ((n : Rat) * (1 / 4)) := by
  have h1 : z ≤ (n : Int) := by omega
  have h2 : -(n : Int) ≤ z := by omega
  have h1 := Rat.intCast_le_intCast.2 h1
  have h2 := Rat.intCast_le_intCast.2 h2
  rw [Rat.intCast_natCast] at h1
  rw [Rat.intCast_neg, Rat.intCast_natCast] at h2
  have q : (0 : Rat) ≤ 1 / 4 := by decide +kernel
  have h1 := Rat.mul_le_mul_of_nonneg_right h1 q
  have h2 := Rat.mul_le_mul_of_nonneg_right h2 q
  rw [Rat.neg_mul] at h2
  exact ⟨h2, h1⟩
theorem half_qt : Qt (can .f32 1056964608) 2 := Val.of_vof (by decide +kernel)
section
variable {P Q Z i j k v : Nat} (H : Place P Q Z i j k) (hv : v < 10)
include H hv
/-- A point of the ring seen from the place. -/
theorem ring_pt {l : Nat} (hl : l < 3 + v) : ∃ x y r s h, Val .f32 (rX (Int.ofNat (3 + v)) l) x ∧ Val .f32 (rY (Int.ofNat (3 + v)) l) y ∧ Val .f32 (fop .sub .f32 P (rX (Int.ofNat (3 + v)) l)) r ∧ Val .f32 (fop .sub .f32 Q (rY (Int.ofNat (3 + v)) l)) s ∧ Val .f32 (fop .sub .f32 Z (rZ l)) h ∧
    h = ((Int.ofNat k + 2 : Int) : Rat) * (1 / 4) ∧ Near r 4 ∧ Near s 4 ∧ Near (r - (((Int.ofNat i - 8 : Int) : Rat) * (1 / 4) - x)) (4 * ur .f32) ∧ Near (s - (((Int.ofNat j - 8 : Int) : Rat) * (1 / 4) - y)) (4 * ur .f32) ∧
    Gr 100 (fop .sub .f32 P (rX (Int.ofNat (3 + v)) l)) ∧ Gr 100 (fop .sub .f32 Q (rY (Int.ofNat (3 + v)) l)) ∧ Gr 100 (fop .sub .f32 Z (rZ l)) := by
  obtain ⟨x, y, x1, y1, x2, y2, x3, y3⟩ := ring_val hv hl
  have hi := H.hi
  have hj := H.hj
  have hk := H.hk
  have pn := qt_near (z := Int.ofNat i - 8) (n := 8) (by simp; omega)
  have qn := qt_near (z := Int.ofNat j - 8) (n := 8) (by simp; omega)
  have e2 : ((8 : Nat) : Rat) * (1 / 4) = 2 := by decide +kernel
  rw [e2] at pn qn
  have big : (100 : Rat) ≤ most := by decide +kernel
  have k3 : (2 : Rat) + 101 / 100 ≤ 7 / 2 := by decide +kernel
  have ke : (7 / 2 : Rat) * ur .f32 + tiny .f32 ≤ 4 * ur .f32 := by decide +kernel
  have kn : (2 : Rat) + 101 / 100 + 4 * ur .f32 ≤ 4 := by decide +kernel
  have xb := (pn.sub x2).mono k3
  have yb := (qn.sub y2).mono k3
  have k7 : (7 / 2 : Rat) ≤ 100 := by decide +kernel
  obtain ⟨r, r1, r2⟩ := Val.sub H.p x1 xb (by grind)
  obtain ⟨s, s1, s2⟩ := Val.sub H.q y1 yb (by grind)
  have hz : Qt (fop .sub .f32 Z (rZ l)) (Int.ofNat k + 2) := by
    have := H.z.sub half_qt (by simp; omega)
    have e : Int.ofNat k + 4 - 2 = Int.ofNat k + 2 := by omega
    rw [e] at this
    exact this
  have r3 := r2.mono ke
  have s3 := s2.mono ke
  refine ⟨x, y, r, s, _, x1, y1, r1, s1, hz, rfl, ?_, ?_, r3, s3, Gr.sub (gr_qt H.p) x3 H.p x1 xb (by grind), Gr.sub (gr_qt H.q) y3 H.q y1 yb (by grind), gr_qt hz⟩
  · unfold Near at *; constructor <;> grind
  · unfold Near at *; constructor <;> grind
theorem ring_segs {l : Nat} (hl : l < 3 + v) : SegOk (fop .sub .f32 P (rX (Int.ofNat (3 + v)) l)) (fop .sub .f32 Q (rY (Int.ofNat (3 + v)) l)) (fop .sub .f32 Z (rZ l)) (fop .sub .f32 P (rX (Int.ofNat (3 + v)) (nx (3 + v) l))) (fop .sub .f32 Q (rY (Int.ofNat (3 + v)) (nx (3 + v) l))) (fop .sub .f32 Z (rZ (nx (3 + v) l))) := by
  obtain ⟨x, y, r, s, h, x1, y1, r1, s1, z1, ez, rn, sn, rd, sd, g1, g2, g3⟩ := ring_pt H hv hl
  obtain ⟨x', y', r', s', h', x1', y1', r1', s1', z1', ez', rn', sn', rd', sd', g1', g2', g3'⟩ := ring_pt H hv (nx_lt6 (show 0 < 3 + v by omega) (i := l))
  have ch := ring_chord hv hl x1 y1 x1' y1'
  rw [← ez] at ez'
  subst ez'
  have hk := H.hk
  have lo : (1 / 2 : Rat) ≤ h' := by
    have : (2 : Int) ≤ Int.ofNat k + 2 := by simp; omega
    have := Rat.mul_le_mul_of_nonneg_right (Rat.intCast_le_intCast.2 this) (show (0 : Rat) ≤ 1 / 4 by decide +kernel)
    rw [← ez] at this
    exact Rat.le_trans (by decide +kernel) this
  have hi : h' ≤ 5 := by
    have : Int.ofNat k + 2 ≤ (20 : Int) := by simp; omega
    have := Rat.mul_le_mul_of_nonneg_right (Rat.intCast_le_intCast.2 this) (show (0 : Rat) ≤ 1 / 4 by decide +kernel)
    rw [← ez] at this
    exact Rat.le_trans this (by decide +kernel)
  refine seg_ok6 r1 s1 z1 r1' s1' z1' lo hi rn sn rn' sn' ?_ g1 g2 g3 g1' g2' g3'
  -- the chord, nearly
  have dx : Near ((r - r') - (x' - x)) (8 * ur .f32) := by unfold Near at *; constructor <;> grind
  have dy : Near ((s - s') - (y' - y)) (8 * ur .f32) := by unfold Near at *; constructor <;> grind
  have c1 := sqn (x - x')
  have c2 := sqn (y - y')
  have b1 : Near (x' - x) 2 := by
    refine (nabs_near _).mono (le_of_sq (by decide) ?_)
    rw [nabs_sq]
    have : (301 / 100 : Rat) ≤ 2 * 2 := by decide +kernel
    grind
  have b2 : Near (y' - y) 2 := by
    refine (nabs_near _).mono (le_of_sq (by decide) ?_)
    rw [nabs_sq]
    have : (301 / 100 : Rat) ≤ 2 * 2 := by decide +kernel
    grind
  have e1 := dx.mul b1
  have e2 := dy.mul b2
  have e3 := dx.mul dx
  have e4 := dy.mul dy
  have kk : (301 / 100 : Rat) + 2 * (8 * ur .f32 * 2 + 8 * ur .f32 * 2) + (8 * ur .f32 * (8 * ur .f32) + 8 * ur .f32 * (8 * ur .f32)) ≤ 302 / 100 := by decide +kernel
  have id : (r - r') * (r - r') + (s - s') * (s - s') = ((x - x') * (x - x') + (y - y') * (y - y')) + 2 * ((r - r' - (x' - x)) * (x' - x) + (s - s' - (y' - y)) * (y' - y)) + ((r - r' - (x' - x)) * (r - r' - (x' - x)) + (s - s' - (y' - y)) * (s - s' - (y' - y))) := by grind
  rw [id]
  unfold Near at *
  grind
end
/-- What sums of a ring's segments are: fine, bounded, the opposite if gone back, nearly. -/
theorem ring_sum {s s' t t' : Nat → Nat} {n : Nat} (hn3 : 3 ≤ n) (hn : n ≤ 12) (h0 : s 0 = 0) (h0' : s' 0 = 0) (hs : ∀ k, s (k + 1) = fop .add .f32 (s k) (t k)) (hs' : ∀ k, s' (k + 1) = fop .add .f32 (s' k) (t' k))
    (ht : ∀ k, k < n → ∃ f, Val .f32 (t k) f ∧ Near f 9 ∧ Gr 4 (t k)) (ht' : ∀ k, k < n → Val .f32 (t' k) (-vl (t (if k < n - 1 then n - 2 - k else n - 1)))) :
    ∃ a b, Val .f32 (s n) a ∧ Val .f32 (s' n) b ∧ Near (a + b) (1 / 5000) ∧ Near a 110 ∧ Near b 110 ∧ Gr 4 (s n) := by
  have z0 : Val .f32 0 0 := Val.of_vof (by decide +kernel)
  have tv : ∀ k, k < n → Val .f32 (t k) (vl (t k)) ∧ Near (vl (t k)) 9 := fun k hk => by
    obtain ⟨f, f1, f2, _⟩ := ht k hk
    rw [vl_eq f1]; exact ⟨f1, f2⟩
  obtain ⟨a, a1, a2⟩ := sum_val (s := s) (f := fun k => vl (t k)) (B := 9) (n := n) (by rw [h0]; exact z0) hs (fun k hk => (tv k hk).1) (fun k hk => (tv k hk).2) hn (by decide) (by decide) n (Nat.le_refl _)
  have tb : ∀ k, k < n → Near (-vl (t (if k < n - 1 then n - 2 - k else n - 1))) 9 := fun k hk => by
    refine (tv _ ?_).2.neg
    split <;> omega
  obtain ⟨b, b1, b2⟩ := sum_val (s := s') (f := fun k => -vl (t (if k < n - 1 then n - 2 - k else n - 1))) (B := 9) (n := n) (by rw [h0']; exact z0) hs' ht' tb hn (by decide) (by decide) n (Nat.le_refl _)
  have es : rsum (fun k => -vl (t (if k < n - 1 then n - 2 - k else n - 1))) n = -rsum (fun k => vl (t k)) n := by
    obtain ⟨m, rfl⟩ : ∃ m, n = m + 1 := ⟨n - 1, by omega⟩
    show rsum _ m + -vl (t (if m < m + 1 - 1 then m + 1 - 2 - m else m + 1 - 1)) = -(rsum (fun k => vl (t k)) m + vl (t m))
    rw [show (if m < m + 1 - 1 then m + 1 - 2 - m else m + 1 - 1) = m + 1 - 1 from if_neg (by omega)]
    have : rsum (fun k => -vl (t (if k < m + 1 - 1 then m + 1 - 2 - k else m + 1 - 1))) m = rsum (fun k => -vl (t (m - 1 - k))) m := rsum_congr m fun k hk => by
      show -vl _ = -vl _
      rw [show (if k < m + 1 - 1 then m + 1 - 2 - k else m + 1 - 1) = m - 1 - k by rw [if_pos (show k < m + 1 - 1 by omega)]; omega]
    rw [this, rsum_neg (fun k => vl (t (m - 1 - k))) m, rsum_rev (fun k => vl (t k)) m]
    rw [show m + 1 - 1 = m by omega]
    grind
  rw [es] at b2
  have n12 : (n : Rat) ≤ 12 := Rat.natCast_le_natCast.2 hn
  have rb := rsum_near (f := fun k => vl (t k)) (B := 9) n fun k hk => (tv k hk).2
  have e0 : 0 ≤ eta 9 := by decide +kernel
  have ne := Rat.mul_le_mul_of_nonneg_right n12 e0
  have n9 := Rat.mul_le_mul_of_nonneg_right n12 (show (0 : Rat) ≤ 9 by decide)
  have k1 : 12 * eta 9 + 12 * eta 9 ≤ 1 / 5000 := by decide +kernel
  have k2 : 12 * eta 9 + 12 * 9 ≤ 110 := by decide +kernel
  have cl : ∀ {N E R p q : Rat}, Near (p - R) (N * E) → Near (q - -R) (N * E) → Near R (N * 9) → N * E ≤ 12 * E → N * 9 ≤ 12 * 9 → 12 * E + 12 * E ≤ 1 / 5000 → 12 * E + 12 * 9 ≤ 110 → Near (p + q) (1 / 5000) ∧ Near p 110 ∧ Near q 110 := fun {N E R p q} h1 h2 h3 h4 h5 h6 h7 => by
    unfold Near at *
    refine ⟨⟨?_, ?_⟩, ⟨?_, ?_⟩, ?_, ?_⟩ <;> grind
  obtain ⟨w1, w2, w3⟩ := cl a2 b2 rb ne n9 k1 k2
  refine ⟨a, b, a1, b1, w1, w2, w3, ?_⟩
  · have big : (300 : Rat) ≤ most := by decide +kernel
    have go : ∀ k, k ≤ n → Gr 4 (s k) := fun k => by
      induction k with
      | zero =>
        intro _
        rw [h0]
        obtain ⟨z, z1, z2⟩ := z0
        have : z = 0 := by
          rw [Rat.zero_mul] at z2
          exact Rat.intCast_eq_zero_iff.1 z2
        subst this
        exact .of_fin (z := 0) z1 (by rw [Int.zero_mul])
      | succ k ih =>
        intro hk
        obtain ⟨c, c1, c2⟩ := sum_val (s := s) (f := fun k => vl (t k)) (B := 9) (n := n) (by rw [h0]; exact z0) hs (fun k hk => (tv k hk).1) (fun k hk => (tv k hk).2) hn (by decide) (by decide) k (by omega)
        obtain ⟨f, f1, f2, f3⟩ := ht k (by omega)
        rw [hs]
        have kn : (k : Rat) ≤ 12 := Rat.natCast_le_natCast.2 (show k ≤ 12 by omega)
        have ke := Rat.mul_le_mul_of_nonneg_right kn e0
        have k9 := Rat.mul_le_mul_of_nonneg_right kn (show (0 : Rat) ≤ 9 by decide)
        have rk := rsum_near (f := fun k => vl (t k)) (B := 9) k fun k hk => (tv k (by omega)).2
        have cl2 : ∀ {N E R p q : Rat}, Near (p - R) (N * E) → Near R (N * 9) → Near q 9 → N * E ≤ 12 * E → N * 9 ≤ 12 * 9 → 12 * E + 12 * 9 ≤ 110 → Near (p + q) 200 := fun {N E R p q} h1 h3 h4 h5 h6 h7 => by
          unfold Near at *
          constructor <;> grind
        exact Gr.add (ih (by omega)) f3 c1 f1 (X := 200) (cl2 c2 rk f2 ke k9 k2) (by grind)
    exact go n (Nat.le_refl _)
end Go.Fw.E1

/-
  The law of fields: a square and a place turned together.
-/
namespace Go.Fw.E1
open Go.Proofs
def sxq (j : Nat) : Int := [6, -6, -6, 6].getD j 0
def syq (j : Nat) : Int := [6, 6, -6, -6].getD j 0
set_option maxRecDepth 100000 in
theorem sq6_tab : allUpTo (fun j => isV .f32 (vof .f32 (qX j)) ((sxq j : Rat) * (1 / 4)) && (isV .f32 (vof .f32 (qY j)) ((syq j : Rat) * (1 / 4)) && isV .f32 (vof .f32 (qZ j)) (((-2 : Int) : Rat) * (1 / 4)))) 4 = true := by decide +kernel
theorem sq_qt {j : Nat} (hj : j < 4) : Qt (qX j) (sxq j) ∧ Qt (qY j) (syq j) ∧ Qt (qZ j) (-2) := by
  have := allUpTo_iff.1 sq6_tab j hj
  rw [Bool.and_eq_true, Bool.and_eq_true] at this
  exact ⟨Val.of_vof this.1, Val.of_vof this.2.1, Val.of_vof this.2.2⟩
theorem sq_cases {j : Nat} (hj : j < 4) : (sxq j = 6 ∨ sxq j = -6) ∧ (syq j = 6 ∨ syq j = -6) := by
  match j, hj with
  | 0, _ => exact ⟨.inl rfl, .inl rfl⟩
  | 1, _ => exact ⟨.inr rfl, .inl rfl⟩
  | 2, _ => exact ⟨.inr rfl, .inr rfl⟩
  | 3, _ => exact ⟨.inl rfl, .inr rfl⟩
  | j + 4, hj => exact absurd hj (by omega)
theorem l6X0 (P Q Z : Nat) : l6X P Q Z 0 = P := by kernel_rfl
theorem l6Y0 (P Q Z : Nat) : l6Y P Q Z 0 = Q := by kernel_rfl
theorem l6Z0 (P Q Z : Nat) : l6Z P Q Z 0 = Z := by kernel_rfl
theorem l6X1 (P Q Z : Nat) : l6X P Q Z 1 = f6BX P Q Z := by kernel_rfl
theorem l6Y1 (P Q Z : Nat) : l6Y P Q Z 1 = f6BY P Q Z := by kernel_rfl
theorem l6Z1 (P Q Z : Nat) : l6Z P Q Z 1 = f6BZ P Q Z := by kernel_rfl
theorem p6X0 (T P Q Z : Nat) : p6X T P Q Z 0 = fop .sub .f32 (fop .mul .f32 (cT T) P) (fop .mul .f32 (sT T) Q) := by kernel_rfl
theorem p6Y0 (T P Q Z : Nat) : p6Y T P Q Z 0 = fop .add .f32 (fop .mul .f32 (sT T) P) (fop .mul .f32 (cT T) Q) := by kernel_rfl
theorem p6X1 (T P Q Z : Nat) : p6X T P Q Z 1 = fop .sub .f32 (fop .mul .f32 (cT T) (f6BX P Q Z)) (fop .mul .f32 (sT T) (f6BY P Q Z)) := by kernel_rfl
theorem p6Y1 (T P Q Z : Nat) : p6Y T P Q Z 1 = fop .add .f32 (fop .mul .f32 (sT T) (f6BX P Q Z)) (fop .mul .f32 (cT T) (f6BY P Q Z)) := by kernel_rfl
theorem quart_sub (A B : Int) : ((A - B : Int) : Rat) * (1 / 4) = (A : Rat) * (1 / 4) - (B : Rat) * (1 / 4) := by rw [Rat.intCast_sub]; grind
theorem inner_pos {A B h x y y' : Rat} (hh : 9 / 4 ≤ h * h) (hx : x = 3 / 2 ∨ x = -(3 / 2)) (hy : y = 3 / 2 ∨ y = -(3 / 2)) (hy' : y' = 3 / 2 ∨ y' = -(3 / 2)) : 0 ≤ (A - x) * (A - x) + (B - y) * (B - y') + h * h := by
  have k : (3 / 2 : Rat) * (3 / 2) = 9 / 4 := by decide +kernel
  have a := sqn (A - x)
  have b := sqn B
  have c := sqn (B - y)
  rcases hy with hy | hy <;> rcases hy' with hy' | hy' <;> rw [hy'] <;> rw [hy] at c ⊢
  · grind
  · have e : (B - 3 / 2) * (B - -(3 / 2)) = B * B - 9 / 4 := by rw [← k]; grind
    rw [e]; grind
  · have e : (B - -(3 / 2)) * (B - 3 / 2) = B * B - 9 / 4 := by rw [← k]; grind
    rw [e]; grind
  · grind
theorem inner_pos2 {A B h x y y' : Rat} (hh : 9 / 4 ≤ h * h) (hx : x = 3 / 2 ∨ x = -(3 / 2)) (hy : y = 3 / 2 ∨ y = -(3 / 2)) (hy' : y' = 3 / 2 ∨ y' = -(3 / 2)) : 0 ≤ (B - y) * (B - y') + (A - x) * (A - x) + h * h := by
  have := inner_pos (A := A) (B := B) hh hx hy hy'
  rw [Rat.add_comm ((B - y) * (B - y'))]
  exact this
/-- A segment of the square, seen from a place, and both turned. -/
structure TwoSegs (C S : Rat) (w0 w1 w2 u0 u1 u2 : Nat) (T1 T2 T3 : Rat) : Prop where
  b0 : ∃ f, Val .f32 w0 f ∧ Near (f - T1) (uu 820) ∧ Near f (3 / 2)
  b1 : ∃ f, Val .f32 w1 f ∧ Near (f - T2) (uu 820) ∧ Near f (3 / 2)
  b2 : ∃ f, Val .f32 w2 f ∧ Near (f - T3) (uu 820) ∧ Near f (3 / 2)
  t0 : ∃ f, Val .f32 u0 f ∧ Near (f - (C * T1 - S * T2)) (uu 820) ∧ Near f (3 / 2)
  t1 : ∃ f, Val .f32 u1 f ∧ Near (f - (S * T1 + C * T2)) (uu 820) ∧ Near f (3 / 2)
  t2 : ∃ f, Val .f32 u2 f ∧ Near (f - T3) (uu 820) ∧ Near f (3 / 2)
theorem two_segs {a b c x y z a' b' c' x' y' z' : Nat} {C S r1 r2 h s1 s2 ra rb sa sb : Rat} (hC : Near (C * C + S * S - 1) (2 * ur .f32))
    (ha : Val .f32 a r1) (hb : Val .f32 b r2) (hc : Val .f32 c h) (hx : Val .f32 x s1) (hy : Val .f32 y s2) (hz : Val .f32 z h)
    (ha' : Val .f32 a' ra) (hb' : Val .f32 b' rb) (hc' : Val .f32 c' h) (hx' : Val .f32 x' sa) (hy' : Val .f32 y' sb) (hz' : Val .f32 z' h)
    (e1 : Near (ra - (C * r1 - S * r2)) u17) (e2 : Near (rb - (S * r1 + C * r2)) u17) (e3 : Near (sa - (C * s1 - S * s2)) u17) (e4 : Near (sb - (S * s1 + C * s2)) u17)
    (n1 : Near r1 (7 / 2)) (n2 : Near r2 (7 / 2)) (n3 : Near s1 (7 / 2)) (n4 : Near s2 (7 / 2)) (h1 : 3 / 2 ≤ h) (h9 : h ≤ 11 / 2) (hD : 0 ≤ r1 * s1 + r2 * s2 + h * h) :
    ∃ T1 T2 T3, TwoSegs C S (sgX a b c x y z) (sgY a b c x y z) (sgZ a b c x y z) (sgX a' b' c' x' y' z') (sgY a' b' c' x' y' z') (sgZ a' b' c' x' y' z') T1 T2 T3 := by
  have c0 : (0 : Rat) ≤ 3 / 2 := by decide +kernel
  have h0 : 0 ≤ h := by grind
  have hh : 9 / 4 ≤ h * h ∧ h * h ≤ 121 / 4 := by
    have p := sq_mono c0 h1
    have q := sq_mono h0 h9
    have k : (9 / 4 : Rat) = 3 / 2 * (3 / 2) := by decide +kernel
    have k2 : (121 / 4 : Rat) = 11 / 2 * (11 / 2) := by decide +kernel
    constructor <;> grind
  have q1 := n1.mul n1
  have q2 := n2.mul n2
  have q3 := n3.mul n3
  have q4 := n4.mul n4
  have p1 := sqn r1
  have p2 := sqn r2
  have p3 := sqn s1
  have p4 := sqn s2
  have k64 : (7 / 2 : Rat) * (7 / 2) + 7 / 2 * (7 / 2) + 121 / 4 ≤ 64 := by decide +kernel
  have k14 : (1 / 4 : Rat) ≤ 9 / 4 := by decide +kernel
  obtain ⟨X, X1, X2, X3, X4, X5⟩ := long_ref ha hb hc rfl (by grind) (by unfold Near at q1 q2; grind)
  obtain ⟨Y, Y1, Y2, Y3, Y4, Y5⟩ := long_ref hx hy hz rfl (by grind) (by unfold Near at q3 q4; grind)
  have X5 := X5 (by grind)
  have Y5 := Y5 (by grind)
  have k149 : (0 : Rat) < 149 / 100 := by decide +kernel
  have W0 := Rat.mul_pos (show 0 < X by grind) (show 0 < Y by grind)
  have DD := Rat.mul_pos W0 (show 0 < X * Y + (r1 * s1 + r2 * s2 + h * h) by grind)
  have hQ : (X + Y) / (X * Y * (X * Y + (r1 * s1 + r2 * s2 + h * h))) * (X * Y * (X * Y + (r1 * s1 + r2 * s2 + h * h))) = X + Y := Rat.div_mul_cancel (by grind)
  generalize (X + Y) / (X * Y * (X * Y + (r1 * s1 + r2 * s2 + h * h))) = Q at *
  have u0 : (0 : Rat) ≤ u17 := by decide +kernel
  have one : Near ((1 : Rat) * 1 + 0 * 0 - 1) (2 * ur .f32) := by
    have : (0 : Rat) ≤ 2 * ur .f32 := by decide +kernel
    rw [show (1 : Rat) * 1 + 0 * 0 - 1 = 0 by decide +kernel]; exact Near.zero this
  have self : ∀ {r s t : Rat}, Turned 1 0 r s t r s t := fun {r s t} => ⟨by rw [show r - (1 * r - 0 * s) = 0 by grind]; exact Near.zero u0, by rw [show s - (0 * r + 1 * s) = 0 by grind]; exact Near.zero u0, rfl⟩
  obtain ⟨m, q, f, g, k, M1, M2, Q1, F1, F2, G1, G2, K1, K2, F3, G3, K3⟩ := turned_seg one ha hb hc hx hy hz self self X5 X3 Y5 Y3 X4 Y4 hD hQ
  obtain ⟨m', q', f', g', k', M1', M2', Q1', F1', F2', G1', G2', K1', K2', F3', G3', K3'⟩ := turned_seg hC ha' hb' hc' hx' hy' hz' ⟨e1, e2, rfl⟩ ⟨e3, e4, rfl⟩ X5 X3 Y5 Y3 X4 Y4 hD hQ
  have no := sg_yes6 M1 M2 Q1
  have no' := sg_yes6 M1' M2' Q1'
  refine ⟨(r2 * h - h * s2) * Q, (h * s1 - r1 * h) * Q, (r1 * s2 - r2 * s1) * Q, ?_, ?_, ?_, ?_, ?_, ?_⟩
  · exact ⟨f, by rw [sgX_eq no]; exact F1, by rw [show (r2 * h - h * s2) * Q = (1 * (r2 * h - h * s2) - 0 * (h * s1 - r1 * h)) * Q by grind]; exact F2, F3⟩
  · exact ⟨g, by rw [sgY_eq no]; exact G1, by rw [show (h * s1 - r1 * h) * Q = (0 * (r2 * h - h * s2) + 1 * (h * s1 - r1 * h)) * Q by grind]; exact G2, G3⟩
  · exact ⟨k, by rw [sgZ_eq no]; exact K1, K2, K3⟩
  · exact ⟨f', by rw [sgX_eq no']; exact F1', by rw [show C * ((r2 * h - h * s2) * Q) - S * ((h * s1 - r1 * h) * Q) = (C * (r2 * h - h * s2) - S * (h * s1 - r1 * h)) * Q by grind]; exact F2', F3'⟩
  · exact ⟨g', by rw [sgY_eq no']; exact G1', by rw [show S * ((r2 * h - h * s2) * Q) + C * ((h * s1 - r1 * h) * Q) = (S * (r2 * h - h * s2) + C * (h * s1 - r1 * h)) * Q by grind]; exact G2', G3'⟩
  · exact ⟨k', by rw [sgZ_eq no']; exact K1', K2', K3'⟩
/-- Sums of four. -/
theorem sum4 {s t : Nat → Nat} {a b c d : Rat} {U : Rat} (h0 : s 0 = 0) (hs : ∀ k, s (k + 1) = fop .add .f32 (s k) (t k))
    (h1 : ∃ f, Val .f32 (t 0) f ∧ Near (f - a) (uu 820) ∧ Near f (3 / 2)) (h2 : ∃ f, Val .f32 (t 1) f ∧ Near (f - b) (uu 820) ∧ Near f (3 / 2)) (h3 : ∃ f, Val .f32 (t 2) f ∧ Near (f - c) (uu 820) ∧ Near f (3 / 2)) (h4 : ∃ f, Val .f32 (t 3) f ∧ Near (f - d) (uu 820) ∧ Near f (3 / 2)) (hU : a + b + c + d = U) :
    ∃ v, Val .f32 (fop .mul .f32 (s 4) K75) v ∧ Near (v - 3 / 4 * U) (uu 2540) ∧ Near v 5 := by
  have z0 : Val .f32 0 0 := Val.of_vof (by decide +kernel)
  have k75 : Val .f32 K75 (3 / 4) := Val.of_vof (by decide +kernel)
  obtain ⟨f, f1, f2, f3⟩ := h1
  obtain ⟨g, g1, g2, g3⟩ := h2
  obtain ⟨h, h1', h2', h3'⟩ := h3
  obtain ⟨k, k1, k2, k3⟩ := h4
  have tv : ∀ j, j < 4 → Val .f32 (t j) (vl (t j)) ∧ Near (vl (t j)) (3 / 2) := fun j hj => by
    match j, hj with
    | 0, _ => rw [vl_eq f1]; exact ⟨f1, f3⟩
    | 1, _ => rw [vl_eq g1]; exact ⟨g1, g3⟩
    | 2, _ => rw [vl_eq h1']; exact ⟨h1', h3'⟩
    | 3, _ => rw [vl_eq k1]; exact ⟨k1, k3⟩
    | j + 4, hj => exact absurd hj (by omega)
  obtain ⟨v, v1, v2⟩ := sum_val (s := s) (f := fun k => vl (t k)) (B := 3 / 2) (n := 4) (by rw [h0]; exact z0) hs (fun k hk => (tv k hk).1) (fun k hk => (tv k hk).2) (by decide) (by decide +kernel) (by decide +kernel) 4 (Nat.le_refl _)
  have er : rsum (fun k => vl (t k)) 4 = 0 + f + g + h + k := by
    show 0 + vl (t 0) + vl (t 1) + vl (t 2) + vl (t 3) = _
    rw [vl_eq f1, vl_eq g1, vl_eq h1', vl_eq k1]
  rw [er] at v2
  have e4 : ((4 : Nat) : Rat) * eta (3 / 2) ≤ uu 85 := by decide +kernel
  have v2 := v2.mono e4
  have kk : uu 85 + (uu 820 + uu 820 + uu 820 + uu 820) = uu 3365 := by decide +kernel
  have d : Near (v - U) (uu 3365) := by
    rw [← kk]
    unfold Near at *
    constructor <;> grind
  have vb : Near v (61 / 10) := by
    have : uu 85 + (3 / 2 + 3 / 2 + 3 / 2 + 3 / 2) ≤ 61 / 10 := by decide +kernel
    unfold Near at *
    constructor <;> grind
  have big : (10 : Rat) ≤ most := by decide +kernel
  have m := vb.mul (near_self (show (0 : Rat) ≤ 3 / 4 by decide +kernel))
  have k6 : (61 / 10 : Rat) * (3 / 4) ≤ 10 := by decide +kernel
  obtain ⟨w, w1, w2⟩ := v1.mul k75 m (by grind)
  have k7 : 61 / 10 * (3 / 4) * ur .f32 + tiny .f32 + 3 / 4 * uu 3365 ≤ uu 2540 := by decide +kernel
  have k8 : 61 / 10 * (3 / 4) + (61 / 10 * (3 / 4) * ur .f32 + tiny .f32) ≤ 5 := by decide +kernel
  have d' := Rat.mul_le_mul_of_nonneg_left d.1 (show (0 : Rat) ≤ 3 / 4 by decide +kernel)
  have d'' := Rat.mul_le_mul_of_nonneg_left d.2 (show (0 : Rat) ≤ 3 / 4 by decide +kernel)
  refine ⟨w, w1, ?_, ?_⟩
  · unfold Near at *; constructor <;> grind
  · unfold Near at *; constructor <;> grind
theorem left6 {T P Q Z : Nat} {C S X Y Z' bx by' bz ux uy uz px py : Rat} (hC : Near (C * C + S * S - 1) (2 * ur .f32)) (ux1 : Val .f32 (f6UX T P Q Z) ux) (uy1 : Val .f32 (f6UY T P Q Z) uy) (uz1 : Val .f32 (f6UZ T P Q Z) uz)
    (px1 : Val .f32 (p6X T P Q Z 1) px) (py1 : Val .f32 (p6Y T P Q Z 1) py) (zb : Val .f32 (l6Z P Q Z 1) bz)
    (bx2 : Near (bx - 3 / 4 * X) (uu 2540)) (by2 : Near (by' - 3 / 4 * Y) (uu 2540)) (bz2 : Near (bz - 3 / 4 * Z') (uu 2540)) (ux2 : Near (ux - 3 / 4 * (C * X - S * Y)) (uu 2540)) (uy2 : Near (uy - 3 / 4 * (S * X + C * Y)) (uu 2540)) (uz2 : Near (uz - 3 / 4 * Z') (uu 2540))
    (px2 : Near (px - (C * bx - S * by')) (284 / 100 * 5 * ur .f32)) (py2 : Near (py - (S * bx + C * by')) (284 / 100 * 5 * ur .f32)) : R6d T P Q Z = true := by
  obtain ⟨r1, r2⟩ := rot_near hC bx2 by2
  have k1 : uu 2540 + (1415 / 1000 * uu 2540 + 284 / 100 * 5 * ur .f32) ≤ uu 6160 := by decide +kernel
  have k2 : uu 6160 * ur .f32 + tiny .f32 + uu 6160 ≤ uu 6170 := by decide +kernel
  have k3 : uu 2540 + uu 2540 ≤ uu 6160 := by decide +kernel
  have big : uu 6160 ≤ most := by decide +kernel
  have d1 : Near (ux - px) (uu 6160) := by
    unfold Near at *; constructor <;> grind
  have d2 : Near (uy - py) (uu 6160) := by
    unfold Near at *; constructor <;> grind
  have d3 : Near (uz - bz) (uu 6160) := by
    unfold Near at *; constructor <;> grind
  obtain ⟨e, e1, e2⟩ := ux1.sub px1 d1 big
  obtain ⟨f, f1, f2⟩ := uy1.sub py1 d2 big
  obtain ⟨g, g1, g2⟩ := uz1.sub zb d3 big
  obtain ⟨m, m1, m2, m3⟩ := long_near (t := uu 6170) e1 f1 g1 (by unfold Near at *; constructor <;> grind) (by unfold Near at *; constructor <;> grind) (by unfold Near at *; constructor <;> grind) (by decide +kernel)
  have k4 : 2 * uu 6170 + 1 / 2 ^ 50 < k001 := by decide +kernel
  unfold R6d lt001
  rw [forder_lt m1.widen k001_val (by grind)]; rfl
section
variable {P Q Z i j k v : Nat} (H : Place P Q Z i j k) (hv : v < 32)
include H hv
omit hv in
/-- A corner of the square seen from the place, and both turned. -/
theorem turn_pt {C S : Rat} {T : Nat} (hC : Near (C * C + S * S - 1) (2 * ur .f32)) (hc : Val .f32 (cT T) C) (hs : Val .f32 (sT T) S) {l : Nat} (hl : l < 4) :
    ∃ r s w w' x y, Val .f32 (fop .sub .f32 P (qX l)) r ∧ Val .f32 (fop .sub .f32 Q (qY l)) s ∧ Val .f32 (fop .sub .f32 Z (qZ l)) (((Int.ofNat k + 6 : Int) : Rat) * (1 / 4)) ∧ Val .f32 (fop .sub .f32 (p6X T P Q Z 0) (s6X T l)) w ∧ Val .f32 (fop .sub .f32 (p6Y T P Q Z 0) (s6Y T l)) w' ∧
      Near (w - (C * r - S * s)) u17 ∧ Near (w' - (S * r + C * s)) u17 ∧ Near r (7 / 2) ∧ Near s (7 / 2) ∧ r = ((Int.ofNat i - 8 : Int) : Rat) * (1 / 4) - x ∧ s = ((Int.ofNat j - 8 : Int) : Rat) * (1 / 4) - y ∧ x = (sxq l : Rat) * (1 / 4) ∧ y = (syq l : Rat) * (1 / 4) := by
  have hi := H.hi
  have hj := H.hj
  have hk := H.hk
  obtain ⟨a1, a2, a3⟩ := sq_qt hl
  obtain ⟨ca, cb⟩ := sq_cases hl
  have c2 : ((8 : Nat) : Rat) * (1 / 4) = 2 := by decide +kernel
  have c3 : ((6 : Nat) : Rat) * (1 / 4) = 3 / 2 := by decide +kernel
  have c7 : ((14 : Nat) : Rat) * (1 / 4) = 7 / 2 := by decide +kernel
  have pn := qt_near (z := Int.ofNat i - 8) (n := 8) (by simp; omega)
  have qn := qt_near (z := Int.ofNat j - 8) (n := 8) (by simp; omega)
  rw [c2] at pn qn
  have n6 : ∀ {z : Int}, (z = 6 ∨ z = -6) → Near ((z : Rat) * (1 / 4)) (3 / 2) := fun {z} hz => by
    have := qt_near (z := z) (n := 6) (by rcases hz with h | h <;> subst h <;> decide)
    rw [c3] at this; exact this
  have r1 := H.p.sub a1 (by simp; rcases ca with h | h <;> rw [h] <;> omega)
  have r2 := H.q.sub a2 (by simp; rcases cb with h | h <;> rw [h] <;> omega)
  have r3 : Qt (fop .sub .f32 Z (qZ l)) (Int.ofNat k + 6) := by
    have := H.z.sub a3 (by simp; omega)
    have e : Int.ofNat k + 4 - -2 = Int.ofNat k + 6 := by omega
    rw [e] at this; exact this
  have m1 := qt_near (z := Int.ofNat i - 8 - sxq l) (n := 14) (by simp; rcases ca with h | h <;> rw [h] <;> omega)
  have m2 := qt_near (z := Int.ofNat j - 8 - syq l) (n := 14) (by simp; rcases cb with h | h <;> rw [h] <;> omega)
  rw [c7] at m1 m2
  obtain ⟨⟨vp, vp1, vp2⟩, ⟨vp', vp3, vp4⟩⟩ := rot_word hC hc hs H.p H.q pn qn (by decide) (by decide)
  obtain ⟨⟨va, va1, va2⟩, ⟨va', va3, va4⟩⟩ := rot_word hC hc hs a1 a2 (n6 ca) (n6 cb) (by decide +kernel) (by decide +kernel)
  have ex : ∀ (A B : Int), ((A - B : Int) : Rat) * (1 / 4) = (A : Rat) * (1 / 4) - (B : Rat) * (1 / 4) := quart_sub
  obtain ⟨w, w', W1, W2, W3, W4⟩ := turned_diff hC vp1 va1 vp3 va3 vp2 va2 vp4 va4 (by rw [← ex]; exact m1) (by rw [← ex]; exact m2)
  rw [ex] at m1 m2
  have r1 : Val .f32 (fop .sub .f32 P (qX l)) (((Int.ofNat i - 8 - sxq l : Int) : Rat) * (1 / 4)) := r1
  have r2 : Val .f32 (fop .sub .f32 Q (qY l)) (((Int.ofNat j - 8 - syq l : Int) : Rat) * (1 / 4)) := r2
  rw [ex] at r1 r2
  exact ⟨_, _, w, w', _, _, r1, r2, r3, W1, W2, W3, W4, m1, m2, rfl, rfl, rfl, rfl⟩
omit hv in
theorem turn_seg {C S : Rat} {T : Nat} (hC : Near (C * C + S * S - 1) (2 * ur .f32)) (hc : Val .f32 (cT T) C) (hs : Val .f32 (sT T) S) {l : Nat} (hl : l < 4) (hd : sxq l = sxq (nx 4 l) ∨ syq l = syq (nx 4 l)) :
    ∃ T1 T2 T3, TwoSegs C S (segX (sg 4 qX qY qZ) P Q Z l) (segY (sg 4 qX qY qZ) P Q Z l) (segZ (sg 4 qX qY qZ) P Q Z l)
      (segX (sg 4 (s6X T) (s6Y T) qZ) (p6X T P Q Z 0) (p6Y T P Q Z 0) (l6Z P Q Z 0) l)
      (segY (sg 4 (s6X T) (s6Y T) qZ) (p6X T P Q Z 0) (p6Y T P Q Z 0) (l6Z P Q Z 0) l)
      (segZ (sg 4 (s6X T) (s6Y T) qZ) (p6X T P Q Z 0) (p6Y T P Q Z 0) (l6Z P Q Z 0) l) T1 T2 T3 := by
  have hl' : nx 4 l < 4 := nx_lt6 (by decide)
  obtain ⟨ca, cb⟩ := sq_cases hl
  obtain ⟨cc, cd⟩ := sq_cases hl'
  obtain ⟨r1, r2, w, w', x, y, R1, R2, R3, W1, W2, W3, W4, m1, m2, e1, e2, ex, ey⟩ := turn_pt H hC hc hs hl
  obtain ⟨s1, s2, u, u', x', y', S1, S2, S3, U1, U2, U3, U4, m3, m4, e3, e4, ex', ey'⟩ := turn_pt H hC hc hs hl'
  have hk := H.hk
  have hlo : (3 / 2 : Rat) ≤ ((Int.ofNat k + 6 : Int) : Rat) * (1 / 4) := by
    have : (6 : Int) ≤ Int.ofNat k + 6 := by simp; omega
    have := Rat.mul_le_mul_of_nonneg_right (Rat.intCast_le_intCast.2 this) (show (0 : Rat) ≤ 1 / 4 by decide +kernel)
    exact Rat.le_trans (by decide +kernel) this
  have hhi : ((Int.ofNat k + 6 : Int) : Rat) * (1 / 4) ≤ 11 / 2 := by
    have : Int.ofNat k + 6 ≤ (22 : Int) := by simp; omega
    have := Rat.mul_le_mul_of_nonneg_right (Rat.intCast_le_intCast.2 this) (show (0 : Rat) ≤ 1 / 4 by decide +kernel)
    exact Rat.le_trans this (by decide +kernel)
  have h94 : (9 / 4 : Rat) ≤ ((Int.ofNat k + 6 : Int) : Rat) * (1 / 4) * (((Int.ofNat k + 6 : Int) : Rat) * (1 / 4)) := by
    have := sq_mono (show (0 : Rat) ≤ 3 / 2 by decide +kernel) hlo
    exact Rat.le_trans (by decide +kernel) this
  have v6 : ∀ {z : Int}, (z = 6 ∨ z = -6) → (z : Rat) * (1 / 4) = 3 / 2 ∨ (z : Rat) * (1 / 4) = -(3 / 2) := fun {z} hz => by
    rcases hz with h | h <;> subst h
    · exact .inl (by decide +kernel)
    · exact .inr (by decide +kernel)
  have hD : 0 ≤ r1 * s1 + r2 * s2 + ((Int.ofNat k + 6 : Int) : Rat) * (1 / 4) * (((Int.ofNat k + 6 : Int) : Rat) * (1 / 4)) := by
    rw [e1, e2, e3, e4]
    rcases hd with hd | hd
    · have : x' = x := by rw [ex', ex, hd]
      rw [this]
      exact inner_pos h94 (ex ▸ v6 ca) (ey ▸ v6 cb) (ey' ▸ v6 cd)
    · have : y' = y := by rw [ey', ey, hd]
      rw [this]
      exact inner_pos2 h94 (ey ▸ v6 cb) (ex ▸ v6 ca) (ex' ▸ v6 cc)
  exact two_segs hC R1 R2 R3 S1 S2 S3 W1 W2 R3 U1 U2 S3 W3 W4 U3 U4 m1 m2 m3 m4 hlo hhi hD
omit hv in
theorem turned_sums {C S : Rat} {T : Nat} (hC : Near (C * C + S * S - 1) (2 * ur .f32)) (hc : Val .f32 (cT T) C) (hs : Val .f32 (sT T) S) : ∃ X Y Z' : Rat,
    (∃ v, Val .f32 (f6BX P Q Z) v ∧ Near (v - 3 / 4 * X) (uu 2540) ∧ Near v 5) ∧ (∃ v, Val .f32 (f6BY P Q Z) v ∧ Near (v - 3 / 4 * Y) (uu 2540) ∧ Near v 5) ∧ (∃ v, Val .f32 (f6BZ P Q Z) v ∧ Near (v - 3 / 4 * Z') (uu 2540) ∧ Near v 5) ∧
    (∃ v, Val .f32 (f6UX T P Q Z) v ∧ Near (v - 3 / 4 * (C * X - S * Y)) (uu 2540) ∧ Near v 5) ∧ (∃ v, Val .f32 (f6UY T P Q Z) v ∧ Near (v - 3 / 4 * (S * X + C * Y)) (uu 2540) ∧ Near v 5) ∧ (∃ v, Val .f32 (f6UZ T P Q Z) v ∧ Near (v - 3 / 4 * Z') (uu 2540) ∧ Near v 5) := by
  obtain ⟨x0, y0, z0, K0⟩ := turn_seg H hC hc hs (l := 0) (by decide) (by decide)
  obtain ⟨x1, y1, z1, K1⟩ := turn_seg H hC hc hs (l := 1) (by decide) (by decide)
  obtain ⟨x2, y2, z2, K2⟩ := turn_seg H hC hc hs (l := 2) (by decide) (by decide)
  obtain ⟨x3, y3, z3, K3⟩ := turn_seg H hC hc hs (l := 3) (by decide) (by decide)
  have eX : C * x0 - S * y0 + (C * x1 - S * y1) + (C * x2 - S * y2) + (C * x3 - S * y3) = C * (x0 + x1 + x2 + x3) - S * (y0 + y1 + y2 + y3) := by
    clear K0 K1 K2 K3; grind
  have eY : S * x0 + C * y0 + (S * x1 + C * y1) + (S * x2 + C * y2) + (S * x3 + C * y3) = S * (x0 + x1 + x2 + x3) + C * (y0 + y1 + y2 + y3) := by
    clear K0 K1 K2 K3; grind
  exact ⟨x0 + x1 + x2 + x3, y0 + y1 + y2 + y3, z0 + z1 + z2 + z3,
    sum4 (s := fX (sg 4 qX qY qZ) P Q Z 0) (t := segX (sg 4 qX qY qZ) P Q Z) rfl (fun _ => rfl) K0.b0 K1.b0 K2.b0 K3.b0 rfl,
    sum4 (s := fY (sg 4 qX qY qZ) P Q Z 0) (t := segY (sg 4 qX qY qZ) P Q Z) rfl (fun _ => rfl) K0.b1 K1.b1 K2.b1 K3.b1 rfl,
    sum4 (s := fZ (sg 4 qX qY qZ) P Q Z 0) (t := segZ (sg 4 qX qY qZ) P Q Z) rfl (fun _ => rfl) K0.b2 K1.b2 K2.b2 K3.b2 rfl,
    sum4 (s := fX (sg 4 (s6X T) (s6Y T) qZ) (p6X T P Q Z 0) (p6Y T P Q Z 0) (l6Z P Q Z 0) 0) (t := segX (sg 4 (s6X T) (s6Y T) qZ) (p6X T P Q Z 0) (p6Y T P Q Z 0) (l6Z P Q Z 0)) rfl (fun _ => rfl) K0.t0 K1.t0 K2.t0 K3.t0 eX,
    sum4 (s := fY (sg 4 (s6X T) (s6Y T) qZ) (p6X T P Q Z 0) (p6Y T P Q Z 0) (l6Z P Q Z 0) 0) (t := segY (sg 4 (s6X T) (s6Y T) qZ) (p6X T P Q Z 0) (p6Y T P Q Z 0) (l6Z P Q Z 0)) rfl (fun _ => rfl) K0.t1 K1.t1 K2.t1 K3.t1 eY,
    sum4 (s := fZ (sg 4 (s6X T) (s6Y T) qZ) (p6X T P Q Z 0) (p6Y T P Q Z 0) (l6Z P Q Z 0) 0) (t := segZ (sg 4 (s6X T) (s6Y T) qZ) (p6X T P Q Z 0) (p6Y T P Q Z 0) (l6Z P Q Z 0)) rfl (fun _ => rfl) K0.t2 K1.t2 K2.t2 K3.t2 rfl⟩
omit H hv in
theorem spun_pts {C S : Rat} {T : Nat} (hC : Near (C * C + S * S - 1) (2 * ur .f32)) (hc : Val .f32 (cT T) C) (hs : Val .f32 (sT T) S) : okW 4 K75 qX qY qZ = true ∧ okW 4 K75 (s6X T) (s6Y T) qZ = true := by
  have f75 : fin K75 = true := by decide +kernel
  have pts : ∀ l, l < 4 → vfinAt (s6X T) (s6Y T) qZ l = true := fun l hl => by
    obtain ⟨a1, a2, a3⟩ := sq_qt hl
    obtain ⟨ca, cb⟩ := sq_cases hl
    have c3 : ((6 : Nat) : Rat) * (1 / 4) = 3 / 2 := by decide +kernel
    have n6 : ∀ {z : Int}, (z = 6 ∨ z = -6) → Near ((z : Rat) * (1 / 4)) (3 / 2) := fun {z} hz => by
      have := qt_near (z := z) (n := 6) (by rcases hz with h | h <;> subst h <;> decide)
      rw [c3] at this; exact this
    obtain ⟨⟨va, va1, _⟩, ⟨va', va3, _⟩⟩ := rot_word hC hc hs a1 a2 (n6 ca) (n6 cb) (by decide +kernel) (by decide +kernel)
    exact vfin_val (x := s6X T l) (y := s6Y T l) va1 va3 a3
  have pts0 : ∀ l, l < 4 → vfinAt qX qY qZ l = true := fun l hl => by
    obtain ⟨a1, a2, a3⟩ := sq_qt hl
    exact vfin_val a1 a2 a3
  constructor
  · unfold okW
    rw [f75, allUpTo_iff.2 pts0]; rfl
  · unfold okW
    rw [f75, allUpTo_iff.2 pts]; rfl
omit H hv in
theorem okW2 {x y z : Nat → Nat} {a b c d e f : Rat} (h1 : Val .f32 (x 0) a) (h2 : Val .f32 (y 0) b) (h3 : Val .f32 (z 0) c) (h4 : Val .f32 (x 1) d) (h5 : Val .f32 (y 1) e) (h6 : Val .f32 (z 1) f) : okW 2 0 x y z = true := by
  have f0 : fin 0 = true := by decide +kernel
  have : allUpTo (vfinAt x y z) 2 = true := allUpTo_iff.2 fun l hl => by
    match l, hl with
    | 0, _ => exact vfin_val h1 h2 h3
    | 1, _ => exact vfin_val h4 h5 h6
    | l + 2, hl => exact absurd hl (by omega)
  unfold okW
  rw [f0, this]; rfl
omit hv in
theorem turned_ends {C S : Rat} {T : Nat} {bx by' : Rat} (hC : Near (C * C + S * S - 1) (2 * ur .f32)) (hc : Val .f32 (cT T) C) (hs : Val .f32 (sT T) S) (bx1 : Val .f32 (f6BX P Q Z) bx) (by1 : Val .f32 (f6BY P Q Z) by') (bx3 : Near bx 5) (by3 : Near by' 5) :
    (∃ v, Val .f32 (p6X T P Q Z 0) v) ∧ (∃ v, Val .f32 (p6Y T P Q Z 0) v) ∧ (∃ v, Val .f32 (p6X T P Q Z 1) v ∧ Near (v - (C * bx - S * by')) (284 / 100 * 5 * ur .f32)) ∧ (∃ v, Val .f32 (p6Y T P Q Z 1) v ∧ Near (v - (S * bx + C * by')) (284 / 100 * 5 * ur .f32)) := by
  have hi := H.hi
  have hj := H.hj
  have c2 : ((8 : Nat) : Rat) * (1 / 4) = 2 := by decide +kernel
  have pn := qt_near (z := Int.ofNat i - 8) (n := 8) (by simp; omega)
  have qn := qt_near (z := Int.ofNat j - 8) (n := 8) (by simp; omega)
  rw [c2] at pn qn
  obtain ⟨⟨vp, vp1, _⟩, ⟨vp', vp3, _⟩⟩ := rot_word hC hc hs H.p H.q pn qn (by decide) (by decide)
  obtain ⟨hx, hy⟩ := rot_word hC hc hs bx1 by1 bx3 by3 (by decide) (by decide)
  rw [p6X0, p6Y0, p6X1, p6Y1]
  exact ⟨⟨vp, vp1⟩, ⟨vp', vp3⟩, hx, hy⟩
omit hv in
theorem turned_z {bz : Rat} (bz1 : Val .f32 (f6BZ P Q Z) bz) : Val .f32 (l6X P Q Z 0) (((Int.ofNat i - 8 : Int) : Rat) * (1 / 4)) ∧ Val .f32 (l6Y P Q Z 0) (((Int.ofNat j - 8 : Int) : Rat) * (1 / 4)) ∧ Val .f32 (l6Z P Q Z 0) (((Int.ofNat k + 4 : Int) : Rat) * (1 / 4)) ∧ Val .f32 (l6Z P Q Z 1) bz := by
  rw [l6X0, l6Y0, l6Z0, l6Z1]
  exact ⟨H.p, H.q, H.z, bz1⟩
omit H hv in
theorem turned_l {bx by' : Rat} (bx1 : Val .f32 (f6BX P Q Z) bx) (by1 : Val .f32 (f6BY P Q Z) by') : Val .f32 (l6X P Q Z 1) bx ∧ Val .f32 (l6Y P Q Z 1) by' := by
  rw [l6X1, l6Y1]
  exact ⟨bx1, by1⟩
omit hv in
theorem turned6T {C S : Rat} {T : Nat} (hC : Near (C * C + S * S - 1) (2 * ur .f32)) (hc : Val .f32 (cT T) C) (hs : Val .f32 (sT T) S) (hT : fin T = true) : spinOk 4 K75 qX qY qZ T = true ∧ spinOk 2 0 (l6X P Q Z) (l6Y P Q Z) (l6Z P Q Z) T = true ∧ fOk 4 K75 qX qY qZ true P Q Z = true ∧
    fOk 4 K75 (s6X T) (s6Y T) qZ true (p6X T P Q Z 0) (p6Y T P Q Z 0) (l6Z P Q Z 0) = true ∧ R6d T P Q Z = true ∧
    (∃ a, Val .f32 (f6BX P Q Z) a ∧ Near a 5) ∧ (∃ a, Val .f32 (f6BY P Q Z) a ∧ Near a 5) ∧ (∃ a, Val .f32 (f6BZ P Q Z) a ∧ Near a 5) := by
  obtain ⟨X, Y, Z', ⟨bx, bx1, bx2, bx3⟩, ⟨by', by1, by2, by3⟩, ⟨bz, bz1, bz2, bz3⟩, ⟨ux, ux1, ux2, ux3⟩, ⟨uy, uy1, uy2, uy3⟩, ⟨uz, uz1, uz2, uz3⟩⟩ := turned_sums H hC hc hs
  obtain ⟨⟨vp, vp1⟩, ⟨vp', vp3⟩, ⟨px, px1, px2⟩, ⟨py, py1, py2⟩⟩ := turned_ends H hC hc hs bx1 by1 bx3 by3
  obtain ⟨lx, ly, zz, zb⟩ := turned_z H bz1
  obtain ⟨lx1, ly1⟩ := turned_l bx1 by1
  obtain ⟨w4, w4'⟩ := spun_pts hC hc hs
  have w2 : okW 2 0 (l6X P Q Z) (l6Y P Q Z) (l6Z P Q Z) = true := okW2 lx ly zz lx1 ly1 zb
  have w2' : okW 2 0 (p6X T P Q Z) (p6Y T P Q Z) (l6Z P Q Z) = true := okW2 vp1 vp3 zz px1 py1 zb
  have w4'' : okW 4 K75 (spX (cT T) (sT T) qX qY) (spY (cT T) (sT T) qX qY) qZ = true := w4'
  have w2'' : okW 2 0 (spX (cT T) (sT T) (l6X P Q Z) (l6Y P Q Z)) (spY (cT T) (sT T) (l6X P Q Z) (l6Y P Q Z)) (l6Z P Q Z) = true := w2'
  have v1 : vfin (f6BX P Q Z) (f6BY P Q Z) (f6BZ P Q Z) = true := vfin_val bx1 by1 bz1
  have v2 : vfin (f6UX T P Q Z) (f6UY T P Q Z) (f6UZ T P Q Z) = true := vfin_val ux1 uy1 uz1
  refine ⟨?_, ?_, ?_, ?_, left6 hC ux1 uy1 uz1 px1 py1 zb bx2 by2 bz2 ux2 uy2 uz2 px2 py2, ⟨bx, bx1, bx3⟩, ⟨by', by1, by3⟩, ⟨bz, bz1, bz3⟩⟩
  · unfold spinOk; rw [w4, hT, w4'']; rfl
  · unfold spinOk; rw [w2, hT, w2'']; rfl
  · unfold fOk
    rw [w4, vfin_val H.p H.q H.z, cond_true, Bool.true_and]
    exact v1
  · unfold fOk
    rw [w4', vfin_val vp1 vp3 zz, cond_true, Bool.true_and]
    exact v2
/-- A square's field at a turned place is the field turned, nearly. -/
theorem turned6 : spinOk 4 K75 qX qY qZ (tQ (Int.ofNat v)) = true ∧ spinOk 2 0 (l6X P Q Z) (l6Y P Q Z) (l6Z P Q Z) (tQ (Int.ofNat v)) = true ∧ fOk 4 K75 qX qY qZ true P Q Z = true ∧
    fOk 4 K75 (s6X (tQ (Int.ofNat v))) (s6Y (tQ (Int.ofNat v))) qZ true (p6X (tQ (Int.ofNat v)) P Q Z 0) (p6Y (tQ (Int.ofNat v)) P Q Z 0) (l6Z P Q Z 0) = true ∧ R6d (tQ (Int.ofNat v)) P Q Z = true ∧
    (∃ a, Val .f32 (f6BX P Q Z) a ∧ Near a 5) ∧ (∃ a, Val .f32 (f6BY P Q Z) a ∧ Near a 5) ∧ (∃ a, Val .f32 (f6BZ P Q Z) a ∧ Near a 5) := by
  obtain ⟨C, S, hc, hs, hC, hT⟩ := turn_val hv
  exact turned6T H hC hc hs hT
end
end Go.Fw.E1

/-
  The law of fields: rings.
-/
namespace Go.Fw.E1
open Go.Proofs
theorem rev_idx {n k : Nat} (hk : k < n) : (if k < n - 1 then n - 2 - k else n - 1) < n ∧ n - 1 - k = nx n (if k < n - 1 then n - 2 - k else n - 1) ∧ n - 1 - nx n k = (if k < n - 1 then n - 2 - k else n - 1) := by
  unfold nx
  by_cases h : k < n - 1
  · rw [if_pos h]
    have e1 : (k + 1) % n = k + 1 := Nat.mod_eq_of_lt (by omega)
    have e2 : (n - 2 - k + 1) % n = n - 2 - k + 1 := Nat.mod_eq_of_lt (by omega)
    rw [e1, e2]
    omega
  · rw [if_neg h]
    have hk : k = n - 1 := by omega
    have e1 : n - 1 + 1 = n := by omega
    subst hk
    rw [e1, Nat.mod_self]
    omega
theorem val_add_same {x x' y : Nat} {a b X : Rat} (hx : Val .f32 x a) (hx' : Val .f32 x' a) (hy : Val .f32 y b) (hX : Near (a + b) X) (hm : X ≤ most) : ∃ c, Val .f32 (fop .add .f32 x y) c ∧ Val .f32 (fop .add .f32 x' y) c ∧ Near (c - (a + b)) (X * ur .f32 + tiny .f32) := by
  obtain ⟨c, c1, c2⟩ := hx.add hy hX hm
  refine ⟨c, c1, ?_, c2⟩
  obtain ⟨n, n1, n2⟩ := hx
  obtain ⟨n', n3, n4⟩ := hx'
  obtain ⟨m, m1, m2⟩ := hy
  have en : n' = n := Rat.intCast_inj.1 (n4.trans n2.symm)
  subst en
  obtain ⟨q, q1, q2⟩ := c1
  have u0 := unit_pos .f32
  have e : ((n' + m : Int) : Rat) = (a + b) * unit .f32 := by rw [Rat.intCast_add, n4, m2]; grind
  have hN : Near (((n' + m : Int) : Rat)) (X * unit .f32) := by
    rw [e]
    unfold Near at hX ⊢
    have h1 := Rat.mul_le_mul_of_nonneg_right hX.1 (Rat.le_of_lt u0)
    have h2 := Rat.mul_le_mul_of_nonneg_right hX.2 (Rat.le_of_lt u0)
    constructor <;> grind
  have l := rI_lim (z := n' + m) (D := 1) (by decide) (by rw [show (((1 : Nat)) : Rat) = 1 from rfl, Rat.mul_one]) hN hm
  have f1 := Fin.add n1 m1 l
  have f2 := Fin.add n3 m1 l
  have := q1.unique f1
  subst this
  exact ⟨_, f2, q2⟩
theorem fin15 : Fin .f32 K15 (3 * (2 ^ 148 : Nat)) := by
  have h : Rep .f32 K15 (V.num false 12582912 126) := rep_of' (by kernel_rfl)
  have e : (3 * (2 ^ 148 : Nat) : Int) = Go.Fw.sg false (12582912 * 2 ^ 126) := by decide +kernel
  rw [e]; exact h
theorem fin3 : Fin .f32 K3 (3 * (2 ^ 149 : Nat)) := by
  have h : Rep .f32 K3 (V.num false 12582912 127) := rep_of' (by kernel_rfl)
  have e : (3 * (2 ^ 149 : Nat) : Int) = Go.Fw.sg false (12582912 * 2 ^ 127) := by decide +kernel
  rw [e]; exact h
theorem fin2 : Fin .f32 K2 (2 * (2 ^ 149 : Nat)) := by
  have h : Rep .f32 K2 (V.num false 8388608 127) := rep_of' (by kernel_rfl)
  have e : (2 * (2 ^ 149 : Nat) : Int) = Go.Fw.sg false (8388608 * 2 ^ 127) := by decide +kernel
  rw [e]; exact h
/-- What comes of a ring's sums. -/
structure RingOut (A G O A2 : Nat) : Prop where
  out : ∃ a o, Val .f32 A a ∧ Val .f32 G (2 * a) ∧ Val .f32 A2 (2 * a) ∧ Val .f32 O o ∧ Near (a + o) (32 / 100000) ∧ Near a 166 ∧ Near o 166
theorem ring_out {s s' : Nat} {a b : Rat} (h1 : Val .f32 s a) (h2 : Val .f32 s' b) (h3 : Near (a + b) (1 / 5000)) (h4 : Near a 110) (h5 : Near b 110) (h6 : Gr 4 s) : RingOut (fop .mul .f32 s K15) (fop .mul .f32 s K3) (fop .mul .f32 s' K15) (fop .mul .f32 (fop .mul .f32 s K15) K2) := by
  obtain ⟨v, v1, v2, v3⟩ := double_mul (gr_weak h6 (by decide)) h1 h4 (by decide +kernel) K15 K3 K2 fin15 fin3 fin2
  have k15 : Val .f32 K15 (3 / 2) := Val.of_vof (by decide +kernel)
  have k32 : Near (3 / 2 : Rat) (3 / 2) := near_self (by decide +kernel)
  have big : (165 : Rat) ≤ most := by decide +kernel
  have e165 : (110 : Rat) * (3 / 2) = 165 := by decide +kernel
  have a1 := h4.mul k32
  have b1 := h5.mul k32
  rw [e165] at a1 b1
  obtain ⟨c, c1, c2⟩ := h1.mul k15 a1 big
  obtain rfl := v1.unique c1
  obtain ⟨o, o1, o2⟩ := h2.mul k15 b1 big
  have ke : 165 * ur .f32 + tiny .f32 ≤ 1 / 1000 := by decide +kernel
  have ke2 : 1 / 5000 * (3 / 2) + (165 * ur .f32 + tiny .f32) + (165 * ur .f32 + tiny .f32) ≤ 32 / 100000 := by decide +kernel
  have s1 := h3.mul k32
  have k1 : (165 : Rat) + 1 / 1000 ≤ 166 := by decide +kernel
  refine ⟨v, o, v1, v2, v3, o1, ?_, ?_, ?_⟩
  · unfold Near at *; constructor <;> grind
  · unfold Near at *; constructor <;> grind
  · unfold Near at *; constructor <;> grind
section
variable {P Q Z i j k v : Nat} (H : Place P Q Z i j k) (hv : v < 10)
include H hv
theorem ring_outX : RingOut (f6AX (Int.ofNat (3 + v)) P Q Z) (f6GX (Int.ofNat (3 + v)) P Q Z) (f6OX (Int.ofNat (3 + v)) P Q Z) (fop .mul .f32 (f6AX (Int.ofNat (3 + v)) P Q Z) K2) := by
  obtain ⟨a, b, a1, b1, d, an, bn, g⟩ := ring_sum (s := fX (sg (3 + v) (rX (Int.ofNat (3 + v))) (rY (Int.ofNat (3 + v))) rZ) P Q Z 0) (s' := fX (sg (3 + v) (revR (3 + v) (rX (Int.ofNat (3 + v)))) (revR (3 + v) (rY (Int.ofNat (3 + v)))) (revR (3 + v) rZ)) P Q Z 0)
    (t := segX (sg (3 + v) (rX (Int.ofNat (3 + v))) (rY (Int.ofNat (3 + v))) rZ) P Q Z) (t' := segX (sg (3 + v) (revR (3 + v) (rX (Int.ofNat (3 + v)))) (revR (3 + v) (rY (Int.ofNat (3 + v)))) (revR (3 + v) rZ)) P Q Z) (n := 3 + v) (by omega) (by omega) rfl rfl (fun _ => rfl) (fun _ => rfl)
    (fun l hl => by obtain ⟨f, f1, f2, f3, _⟩ := (ring_segs H hv hl).fx; exact ⟨f, f1, f2, f3⟩)
    (fun l hl => by
      obtain ⟨e1, e2, e3⟩ := rev_idx hl
      obtain ⟨f, f1, _, _, f4⟩ := (ring_segs H hv e1).fx
      rw [← e2] at f1 f4
      generalize (if l < 3 + v - 1 then 3 + v - 2 - l else 3 + v - 1) = q at *
      subst e3
      have ev : vl (segX (sg (3 + v) (rX (Int.ofNat (3 + v))) (rY (Int.ofNat (3 + v))) rZ) P Q Z (3 + v - 1 - nx (3 + v) l)) = f := by
        refine vl_eq ?_
        show Val .f32 (sgX (fop .sub .f32 P (rX (Int.ofNat (3 + v)) (3 + v - 1 - nx (3 + v) l))) (fop .sub .f32 Q (rY (Int.ofNat (3 + v)) (3 + v - 1 - nx (3 + v) l))) (fop .sub .f32 Z (rZ (3 + v - 1 - nx (3 + v) l))) (fop .sub .f32 P (rX (Int.ofNat (3 + v)) (nx (3 + v) (3 + v - 1 - nx (3 + v) l)))) (fop .sub .f32 Q (rY (Int.ofNat (3 + v)) (nx (3 + v) (3 + v - 1 - nx (3 + v) l)))) (fop .sub .f32 Z (rZ (nx (3 + v) (3 + v - 1 - nx (3 + v) l))))) f
        rw [← e2]
        exact f1
      rw [ev]
      exact f4)
  exact ring_out a1 b1 d an bn g
theorem ring_outY : RingOut (f6AY (Int.ofNat (3 + v)) P Q Z) (f6GY (Int.ofNat (3 + v)) P Q Z) (f6OY (Int.ofNat (3 + v)) P Q Z) (fop .mul .f32 (f6AY (Int.ofNat (3 + v)) P Q Z) K2) := by
  obtain ⟨a, b, a1, b1, d, an, bn, g⟩ := ring_sum (s := fY (sg (3 + v) (rX (Int.ofNat (3 + v))) (rY (Int.ofNat (3 + v))) rZ) P Q Z 0) (s' := fY (sg (3 + v) (revR (3 + v) (rX (Int.ofNat (3 + v)))) (revR (3 + v) (rY (Int.ofNat (3 + v)))) (revR (3 + v) rZ)) P Q Z 0)
    (t := segY (sg (3 + v) (rX (Int.ofNat (3 + v))) (rY (Int.ofNat (3 + v))) rZ) P Q Z) (t' := segY (sg (3 + v) (revR (3 + v) (rX (Int.ofNat (3 + v)))) (revR (3 + v) (rY (Int.ofNat (3 + v)))) (revR (3 + v) rZ)) P Q Z) (n := 3 + v) (by omega) (by omega) rfl rfl (fun _ => rfl) (fun _ => rfl)
    (fun l hl => by obtain ⟨f, f1, f2, f3, _⟩ := (ring_segs H hv hl).fy; exact ⟨f, f1, f2, f3⟩)
    (fun l hl => by
      obtain ⟨e1, e2, e3⟩ := rev_idx hl
      obtain ⟨f, f1, _, _, f4⟩ := (ring_segs H hv e1).fy
      rw [← e2] at f1 f4
      generalize (if l < 3 + v - 1 then 3 + v - 2 - l else 3 + v - 1) = q at *
      subst e3
      have ev : vl (segY (sg (3 + v) (rX (Int.ofNat (3 + v))) (rY (Int.ofNat (3 + v))) rZ) P Q Z (3 + v - 1 - nx (3 + v) l)) = f := by
        refine vl_eq ?_
        show Val .f32 (sgY (fop .sub .f32 P (rX (Int.ofNat (3 + v)) (3 + v - 1 - nx (3 + v) l))) (fop .sub .f32 Q (rY (Int.ofNat (3 + v)) (3 + v - 1 - nx (3 + v) l))) (fop .sub .f32 Z (rZ (3 + v - 1 - nx (3 + v) l))) (fop .sub .f32 P (rX (Int.ofNat (3 + v)) (nx (3 + v) (3 + v - 1 - nx (3 + v) l)))) (fop .sub .f32 Q (rY (Int.ofNat (3 + v)) (nx (3 + v) (3 + v - 1 - nx (3 + v) l)))) (fop .sub .f32 Z (rZ (nx (3 + v) (3 + v - 1 - nx (3 + v) l))))) f
        rw [← e2]
        exact f1
      rw [ev]
      exact f4)
  exact ring_out a1 b1 d an bn g
theorem ring_outZ : RingOut (f6AZ (Int.ofNat (3 + v)) P Q Z) (f6GZ (Int.ofNat (3 + v)) P Q Z) (f6OZ (Int.ofNat (3 + v)) P Q Z) (fop .mul .f32 (f6AZ (Int.ofNat (3 + v)) P Q Z) K2) := by
  obtain ⟨a, b, a1, b1, d, an, bn, g⟩ := ring_sum (s := fZ (sg (3 + v) (rX (Int.ofNat (3 + v))) (rY (Int.ofNat (3 + v))) rZ) P Q Z 0) (s' := fZ (sg (3 + v) (revR (3 + v) (rX (Int.ofNat (3 + v)))) (revR (3 + v) (rY (Int.ofNat (3 + v)))) (revR (3 + v) rZ)) P Q Z 0)
    (t := segZ (sg (3 + v) (rX (Int.ofNat (3 + v))) (rY (Int.ofNat (3 + v))) rZ) P Q Z) (t' := segZ (sg (3 + v) (revR (3 + v) (rX (Int.ofNat (3 + v)))) (revR (3 + v) (rY (Int.ofNat (3 + v)))) (revR (3 + v) rZ)) P Q Z) (n := 3 + v) (by omega) (by omega) rfl rfl (fun _ => rfl) (fun _ => rfl)
    (fun l hl => by obtain ⟨f, f1, f2, f3, _⟩ := (ring_segs H hv hl).fz; exact ⟨f, f1, f2, f3⟩)
    (fun l hl => by
      obtain ⟨e1, e2, e3⟩ := rev_idx hl
      obtain ⟨f, f1, _, _, f4⟩ := (ring_segs H hv e1).fz
      rw [← e2] at f1 f4
      generalize (if l < 3 + v - 1 then 3 + v - 2 - l else 3 + v - 1) = q at *
      subst e3
      have ev : vl (segZ (sg (3 + v) (rX (Int.ofNat (3 + v))) (rY (Int.ofNat (3 + v))) rZ) P Q Z (3 + v - 1 - nx (3 + v) l)) = f := by
        refine vl_eq ?_
        show Val .f32 (sgZ (fop .sub .f32 P (rX (Int.ofNat (3 + v)) (3 + v - 1 - nx (3 + v) l))) (fop .sub .f32 Q (rY (Int.ofNat (3 + v)) (3 + v - 1 - nx (3 + v) l))) (fop .sub .f32 Z (rZ (3 + v - 1 - nx (3 + v) l))) (fop .sub .f32 P (rX (Int.ofNat (3 + v)) (nx (3 + v) (3 + v - 1 - nx (3 + v) l)))) (fop .sub .f32 Q (rY (Int.ofNat (3 + v)) (nx (3 + v) (3 + v - 1 - nx (3 + v) l)))) (fop .sub .f32 Z (rZ (nx (3 + v) (3 + v - 1 - nx (3 + v) l))))) f
        rw [← e2]
        exact f1
      rw [ev]
      exact f4)
  exact ring_out a1 b1 d an bn g
end
/-- One number of the law: sums, twice, gone back. -/
theorem one6 {A G O A2 B : Nat} (h : RingOut A G O A2) {b : Rat} (hb : Val .f32 B b) (bn : Near b 5) : (forder .f32 (fop .add .f32 (fop .add .f32 0 A) B) (fop .add .f32 A B) == some .eq) = true ∧ (forder .f32 G A2 == some .eq) = true ∧ (∃ t, Val .f32 (fop .sub .f32 (fop .add .f32 A O) 0) t ∧ Near t (33 / 100000)) ∧ fin A = true ∧ fin G = true ∧ fin O = true ∧ fin (fop .add .f32 (fop .add .f32 0 A) B) = true := by
  obtain ⟨a, o, a1, g1, d1, o1, n1, n2, n3⟩ := h.out
  have z0 : Val .f32 0 0 := Val.of_vof (by decide +kernel)
  have big : (171 : Rat) ≤ most := by decide +kernel
  have ab : Near (a + b) 171 := by
    have := n2.add bn
    have e : (166 : Rat) + 5 = 171 := by decide +kernel
    rw [e] at this; exact this
  obtain ⟨c, c1, c2, _⟩ := val_add_same (val_add0 z0 a1) a1 hb ab big
  have k1 : (32 / 100000 : Rat) ≤ 171 := by decide +kernel
  obtain ⟨t, t1, t2⟩ := a1.add o1 n1 (Rat.le_trans k1 big)
  have k2 : 32 / 100000 + (32 / 100000 * ur .f32 + tiny .f32) ≤ 3201 / 10000000 := by decide +kernel
  have tn : Near t (3201 / 10000000) := by
    unfold Near at *; constructor <;> grind
  have t0 : Near (t - 0) (3201 / 10000000) := by rw [show t - 0 = t by grind]; exact tn
  obtain ⟨w, w1, w2⟩ := t1.sub z0 t0 (Rat.le_trans (by decide +kernel) big)
  have k3 : 3201 / 10000000 + (3201 / 10000000 * ur .f32 + tiny .f32) ≤ 33 / 100000 := by decide +kernel
  refine ⟨by rw [forder_eq c1 c2]; rfl, by rw [forder_eq g1 d1]; rfl, ⟨w, w1, ?_⟩, fin_val a1, fin_val g1, fin_val o1, fin_val c1⟩
  unfold Near at *; constructor <;> grind
theorem ring_w6 {v cu : Nat} (hv : v < 10) (hc : fin cu = true) : okW (3 + v) cu (rX (Int.ofNat (3 + v))) (rY (Int.ofNat (3 + v))) rZ = true ∧ okW (3 + v) cu (revR (3 + v) (rX (Int.ofNat (3 + v)))) (revR (3 + v) (rY (Int.ofNat (3 + v)))) (revR (3 + v) rZ) = true := by
  have hz : ∀ l, fin (rZ l) = true := fun l => by
    have : fin (can .f32 1056964608) = true := by decide +kernel
    exact this
  have pt : ∀ l, l < 3 + v → vfinAt (rX (Int.ofNat (3 + v))) (rY (Int.ofNat (3 + v))) rZ l = true := fun l hl => by
    obtain ⟨x, y, x1, y1, _⟩ := ring_val hv hl
    unfold vfinAt vfin
    rw [fin_val x1, fin_val y1, hz]; rfl
  constructor
  · unfold okW
    rw [decide_eq_true (show 2 ≤ 3 + v ∧ 3 + v ≤ 48 by omega), hc, Bool.true_and, Bool.true_and]
    exact allUpTo_iff.2 pt
  · unfold okW
    rw [decide_eq_true (show 2 ≤ 3 + v ∧ 3 + v ≤ 48 by omega), hc, Bool.true_and, Bool.true_and]
    exact allUpTo_iff.2 fun l hl => pt (3 + v - 1 - l) (by omega)
theorem fa6 (N : Int) (P Q Z : Nat) : faX (w6N N) (w6X N) (w6Y N) w6Z w6B w6I P Q Z 0 2 = fop .add .f32 (fop .add .f32 0 (f6AX N P Q Z)) (f6BX P Q Z) ∧ faY (w6N N) (w6X N) (w6Y N) w6Z w6B w6I P Q Z 0 2 = fop .add .f32 (fop .add .f32 0 (f6AY N P Q Z)) (f6BY P Q Z) ∧ faZ (w6N N) (w6X N) (w6Y N) w6Z w6B w6I P Q Z 0 2 = fop .add .f32 (fop .add .f32 0 (f6AZ N P Q Z)) (f6BZ P Q Z) := by
  refine ⟨?_, ?_, ?_⟩ <;> kernel_rfl
theorem sq_ok6 : sqOk K15 (can .f32 3204448256) K75 = true := by decide +kernel
theorem k_fin : (fin K15 && (fin K3 && (above (can .f32 1065353216) && fin (can .f32 1056964608)))) = true := by decide +kernel
end Go.Fw.E1

/-
  The law of fields: all of it, but for the walk.
-/
namespace Go.Fw.E1
open Go.Proofs
section
variable {P Q Z i j k v u : Nat} (H : Place P Q Z i j k) (hv : v < 10) (hu : u < 32)
include H hv hu
theorem law6_R : R6 (Int.ofNat (3 + v)) (tQ (Int.ofNat u)) P Q Z = true := by
  obtain ⟨_, _, _, _, rd, ⟨a, a1, a2⟩, ⟨b, b1, b2⟩, ⟨c, c1, c2⟩⟩ := turned6 H hu
  obtain ⟨x1, x2, ⟨x, x3, x4⟩, _⟩ := one6 (ring_outX H hv) a1 a2
  obtain ⟨y1, y2, ⟨y, y3, y4⟩, _⟩ := one6 (ring_outY H hv) b1 b2
  obtain ⟨z1, z2, ⟨z, z3, z4⟩, _⟩ := one6 (ring_outZ H hv) c1 c2
  have r1 : R6a (Int.ofNat (3 + v)) P Q Z = true := by unfold R6a eq3; rw [x1, y1, z1]; rfl
  have r2 : R6b (Int.ofNat (3 + v)) P Q Z = true := by unfold R6b eq3; rw [x2, y2, z2]; rfl
  obtain ⟨l, l1, l2, l3⟩ := long_near x3 y3 z3 x4 y4 z4 (by decide +kernel)
  have k4 : 2 * (33 / 100000 : Rat) + 1 / 2 ^ 50 < k001 := by decide +kernel
  have r3 : R6c (Int.ofNat (3 + v)) P Q Z = true := by
    unfold R6c lt001
    rw [forder_lt l1.widen k001_val (by grind)]; rfl
  unfold R6
  rw [r1, r2, r3, rd]; rfl
theorem law6_C {la lc : Nat} (hla : la ≤ 48) (hlc : lc ≤ 48) : C6 la lc (Int.ofNat (3 + v)) (tQ (Int.ofNat u)) P Q Z true true = true := by
  obtain ⟨s1, s2, s3, s4, _, ⟨a, a1, a2⟩, ⟨b, b1, b2⟩, ⟨c, c1, c2⟩⟩ := turned6 H hu
  obtain ⟨_, _, _, ax, gx, ox, sx⟩ := one6 (ring_outX H hv) a1 a2
  obtain ⟨_, _, _, ay, gy, oy, sy⟩ := one6 (ring_outY H hv) b1 b2
  obtain ⟨_, _, _, az, gz, oz, sz⟩ := one6 (ring_outZ H hv) c1 c2
  have kf := k_fin
  simp only [Bool.and_eq_true] at kf
  obtain ⟨f15, f3, fo, fh⟩ := kf
  obtain ⟨w15, w15r⟩ := ring_w6 hv f15
  obtain ⟨w3, _⟩ := ring_w6 hv f3
  have nt : (Int.ofNat (3 + v)).toNat = 3 + v := rfl
  have vp : vfin P Q Z = true := vfin_val H.p H.q H.z
  have o1 : fOk (3 + v) K15 (rX (Int.ofNat (3 + v))) (rY (Int.ofNat (3 + v))) rZ true P Q Z = true := by
    have : vfin (f6AX (Int.ofNat (3 + v)) P Q Z) (f6AY (Int.ofNat (3 + v)) P Q Z) (f6AZ (Int.ofNat (3 + v)) P Q Z) = true := by unfold vfin; rw [ax, ay, az]; rfl
    unfold fOk
    rw [w15, vp, cond_true, Bool.true_and]
    exact this
  have o2 : fOk (3 + v) K3 (rX (Int.ofNat (3 + v))) (rY (Int.ofNat (3 + v))) rZ true P Q Z = true := by
    have : vfin (f6GX (Int.ofNat (3 + v)) P Q Z) (f6GY (Int.ofNat (3 + v)) P Q Z) (f6GZ (Int.ofNat (3 + v)) P Q Z) = true := by unfold vfin; rw [gx, gy, gz]; rfl
    unfold fOk
    rw [w3, vp, cond_true, Bool.true_and]
    exact this
  have o3 : fOk (3 + v) K15 (revR (3 + v) (rX (Int.ofNat (3 + v)))) (revR (3 + v) (rY (Int.ofNat (3 + v)))) (revR (3 + v) rZ) true P Q Z = true := by
    have : vfin (f6OX (Int.ofNat (3 + v)) P Q Z) (f6OY (Int.ofNat (3 + v)) P Q Z) (f6OZ (Int.ofNat (3 + v)) P Q Z) = true := by unfold vfin; rw [ox, oy, oz]; rfl
    unfold fOk
    rw [w15r, vp, cond_true, Bool.true_and]
    exact this
  have f75 : fin K75 = true := by decide +kernel
  have wq : okW 4 K75 qX qY qZ = true := by
    unfold spinOk at s1
    rw [Bool.and_eq_true, Bool.and_eq_true] at s1
    exact s1.1.1
  have fl : (allUpTo (shortW (w6N (Int.ofNat (3 + v)))) 2 && flOk 2 (w6N (Int.ofNat (3 + v))) (w6X (Int.ofNat (3 + v))) (w6Y (Int.ofNat (3 + v))) w6Z w6B w6I P Q Z) = true := by
    have sh : allUpTo (shortW (w6N (Int.ofNat (3 + v)))) 2 = true := allUpTo_iff.2 fun l hl => by
      match l, hl with
      | 0, _ => exact ble_of (show 3 + v ≤ 1048576 by omega)
      | 1, _ => rfl
      | l + 2, hl => exact absurd hl (by omega)
    have aw : areW 2 (w6N (Int.ofNat (3 + v))) (w6X (Int.ofNat (3 + v))) (w6Y (Int.ofNat (3 + v))) w6Z w6I = true := by
      unfold areW
      rw [decide_eq_true (show 2 ≤ 8 by omega), Bool.true_and]
      refine allUpTo_iff.2 fun l hl => ?_
      match l, hl with
      | 0, _ => exact w15
      | 1, _ => exact wq
      | l + 2, hl => exact absurd hl (by omega)
    obtain ⟨e1, e2, e3⟩ := fa6 (Int.ofNat (3 + v)) P Q Z
    have fa : fOkA 2 (w6N (Int.ofNat (3 + v))) (w6X (Int.ofNat (3 + v))) (w6Y (Int.ofNat (3 + v))) w6Z w6B w6I P Q Z = true := by
      unfold fOkA vfin
      rw [e1, e2, e3, sx, sy, sz]; rfl
    unfold flOk
    rw [sh, aw, vp, fa]; rfl
  have rk : ringOk (Int.ofNat (3 + v)) (can .f32 1065353216) (can .f32 1056964608) K15 = true := by
    have w : okW (3 + v) K15 (ringX (Int.ofNat (3 + v)) (can .f32 1065353216)) (ringY (Int.ofNat (3 + v)) (can .f32 1065353216)) (fun _ => can .f32 1056964608) = true := w15
    unfold ringOk
    rw [decide_eq_true (show Int.ofNat (3 + v) ≥ 3 by simp; omega), decide_eq_true (show Int.ofNat (3 + v) ≤ 48 by simp; omega), fo, nt, w]; rfl
  unfold C6
  rw [decide_eq_false (show ¬ Int.ofNat la > 48 by simp; omega), decide_eq_false (show ¬ Int.ofNat lc > 48 by simp; omega), nt, ble_of (show 3 + v ≤ 1073741824 by omega), rk, sq_ok6, o1, s3, fl, w15, w3, o2, o3, s1, s2, s4]; rfl
end
end Go.Fw.E1

/-
  Wires fed with another current.
-/
namespace Go.Fw.E1
open Go.Proofs
theorem walk35 (n cur cu : Nat) (x y z : Nat → Nat) (cl : Bool) : autoW cfgF1 (fun _ => true) 0 (fun _ => none) [false, false] Try.f35 [.agg [.ro 3 n (.vecs .f32 x y z), .bool cl, .flt .f32 cur], .flt .f32 cu] = some (n.ble 4611686018427387000 && ((!!okW n cur x y z) && ((decide (0 < n) && decide (n ≤ 1073741824) && true) && (n.ble 4611686018427387000 && ((!!okW n cu x y z) && true)))), .tup [.agg [.ro 3 n (.vecs .f32 x y z), .bool cl, .flt .f32 cu], .bool true]) := by kernel_rfl
theorem s35T_at : EnvAt Try.prog 35 s35T := by
  refine ⟨⟨Try.f35, Try.func35, by kernel_rfl, by kernel_rfl⟩, fun ds cc rr h hc => ?_⟩
  unfold s35T at h
  split at h
  · rename_i n x y z cl cur cu
    simp only [Option.some.injEq, Prod.mk.injEq] at h
    obtain ⟨rfl, rfl⟩ := h
    rw [Bool.and_eq_true] at hc
    have h2 := okW_n hc.1
    exact autoW_ok cfgF1_ok Try.func35 (by kernel_rfl) (lp_none _) (walk35 n cur cu x y z cl) (by
      rw [hc.1, hc.2, ble_of (show n ≤ 4611686018427387000 by omega), decide_eq_true (show 0 < n by omega), decide_eq_true (show n ≤ 1073741824 by omega)]; rfl)
  · cases h
theorem envF2_ok : EnvOK Try.prog (look envF2) := env_cons s35T_at envX2_ok
theorem cfgF2_ok : CfgOK Try.prog cfgF2 := cfg_ok tab_eq (no_fts _) xts_ok envF2_ok mixed
end Go.Fw.E1

/-
  The law of fields.
-/
namespace Go.Fw.E1
open Go.Proofs
theorem kN_eq {v : Nat} (hv : v < 10) : kN (Int.ofNat v) = Int.ofNat (3 + v) := by
  unfold kN
  rw [show Int.ofNat 3 + Int.ofNat v = Int.ofNat (3 + v) from rfl, wrap_nat (by omega)]
theorem k3_qt : Qt K3 12 := Val.of_vof (by decide +kernel)
theorem law6 {la lc : Nat} {b c : Nat → Nat} (hb : ∀ i, b i < 256) (hc : ∀ i, c i < 256) : PureCall Try.prog 6 [.ro 1 la (.gen fun i => .int .u8 (Int.ofNat (b i))), .ro 1 lc (.gen fun i => .int .u8 (Int.ofNat (c i)))] (.bool true) := by
  by_cases h : la ≤ 48 ∧ lc ≤ 48
  · obtain ⟨i0, I0, A0⟩ := r8c_ex (la := lc) hc 0 (k := 0) (by omega)
    obtain ⟨i1, I1, A1⟩ := r8c_ex (la := lc) hc 0 (k := 1) (by omega)
    obtain ⟨i2, I2, A2⟩ := r8c_ex (la := lc) hc 0 (k := 2) (by omega)
    obtain ⟨v, hv, E0⟩ := r8a_ex (la := la) hb 0 (n := 10) (by omega)
    obtain ⟨u, hu, E1⟩ := r8a_ex (la := lc) hc 3 (n := 32) (by omega)
    have E0 : r8a la b 0 10 = Int.ofNat v := E0
    have E1 : r8a lc c 3 32 = Int.ofNat u := E1
    have W := walk6 la b lc c
    rw [E0, E1, A0, A1, A2, kN_eq hv] at W
    have H : Place (qw i0) (qw i1) (fop .add .f32 (qw i2) K3) i0 i1 i2 := ⟨I0, I1, I2, qw_qt I0, qw_qt I1, by
      have := (qw_qt I2).add k3_qt (by simp; omega)
      exact qt_to this (by simp; omega)⟩
    rw [law6_R H hv hu, u8_all hb, u8_all hc] at W
    exact autoW_ok cfgF2_ok Try.func6 (by kernel_rfl) (lp_none _) W (law6_C H hv hu h.1 h.2)
  · refine autoW_ok cfgF2_ok Try.func6 (by kernel_rfl) (lp_none _) (long6 la b lc c) ?_
    by_cases h1 : la ≤ 48
    · rw [decide_eq_false (show ¬ Int.ofNat la > 48 by simp; omega), decide_eq_true (show Int.ofNat lc > 48 by simp; omega)]; rfl
    · rw [decide_eq_true (show Int.ofNat la > 48 by simp; omega)]; rfl
end Go.Fw.E1
