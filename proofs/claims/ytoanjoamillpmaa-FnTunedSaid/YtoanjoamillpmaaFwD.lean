/-
  Floats evaluated by the kernel: sums, roots, conversions, comparisons.
-/
import Derived.Test.YtoanjoamillpmaaFwC

namespace Go.Fw
open Ieee (Datum Format Toward signed)
/-! ### Sums -/
/-- A whole number of units 2 ^ e, rounded where its first digit stands at fb + d or fb + d + 1. -/
noncomputable def vsum3 (H H2 EL : Nat) (b : Bool) (p e d P : Nat) : V :=
  Bool.rec (vrnd H H2 EL b p (Nat.mul 2 P) (Nat.add e (Nat.succ d))) (vrnd H H2 EL b p P (Nat.add e d)) (Nat.ble (Nat.succ p) (Nat.mul H2 P))
noncomputable def vsum2 (H H2 EL : Nat) (b : Bool) (m n e d P : Nat) : V := vsum3 H H2 EL b (Nat.add (Nat.mul m P) n) e d P
noncomputable def vsum1 (H H2 EL : Nat) (b : Bool) (m n e d : Nat) : V := vsum2 H H2 EL b m n e d (Nat.pow 2 d)
noncomputable def vsum (H H2 EL : Nat) (b : Bool) (m s n t : Nat) : V :=
  Bool.rec (vsum1 H H2 EL b n m s (Nat.sub t s)) (vsum1 H H2 EL b m n t (Nat.sub s t)) (Nat.ble t s)
/-- What is exact, with its first digit brought forward: H2 / 2 ≤ p * 2 ^ j. -/
noncomputable def vnrm (b : Bool) (p e j P : Nat) : V := Bool.rec V.bad (V.num b (Nat.mul p P) (Nat.sub e j)) (Nat.ble j e)
noncomputable def vsh (b : Bool) (p e j : Nat) : V := vnrm b p e j (Nat.pow 2 j)
/-- How far the first digit of p is to be moved so that H ≤ p; a hint alone. -/
noncomputable def lift (H : Nat) (p : Nat) : Nat → Nat → Nat → Nat := fun n q j =>
  Nat.rec (motive := fun _ => Nat → Nat → Nat) (fun _ j => j) (fun i ih q j => Bool.rec (ih q j) (ih (Nat.mul q (Nat.pow 2 (Nat.pow 2 i))) (Nat.add j (Nat.pow 2 i))) (Nat.ble (Nat.succ (Nat.mul q (Nat.pow 2 (Nat.pow 2 i)))) (Nat.mul 2 H))) n q j
noncomputable def vnorm (H : Nat) (b : Bool) (p e : Nat) : V := vsh b p e (lift H p 6 p 0)
/-- A difference p > 0 of numbers whose places lie d apart. -/
noncomputable def vdif4 (H H2 EL : Nat) (b : Bool) (p e d P : Nat) : V :=
  Bool.rec
    (Bool.rec (Bool.rec V.bad (vsum3 H H2 EL b p e (Nat.sub d 1) (Nat.div P 2)) (Nat.ble 1 d)) (vrnd H H2 EL b p P (Nat.add e d)) (Nat.ble (Nat.mul H P) p))
    (vnorm H b p e)
    (Nat.ble (Nat.succ p) H2)
noncomputable def vdif3 (H H2 EL : Nat) (b : Bool) (a n e d P : Nat) : V :=
  Bool.rec (Bool.rec (vdif4 H H2 EL (bx b true) (Nat.sub n a) e d P) V.zero (Nat.beq a n)) (vdif4 H H2 EL b (Nat.sub a n) e d P) (Nat.ble (Nat.succ n) a)
noncomputable def vdif2 (H H2 EL : Nat) (b : Bool) (m n e d P : Nat) : V := vdif3 H H2 EL b (Nat.mul m P) n e d P
noncomputable def vdif1 (H H2 EL : Nat) (b : Bool) (m n e d : Nat) : V := vdif2 H H2 EL b m n e d (Nat.pow 2 d)
noncomputable def vdif (H H2 EL : Nat) (b : Bool) (m s n t : Nat) : V :=
  Bool.rec (vdif1 H H2 EL (bx b true) n m s (Nat.sub t s)) (vdif1 H H2 EL b m n t (Nat.sub s t)) (Nat.ble t s)
noncomputable def vaddG (H H2 EL : Nat) (x y : V) : V :=
  V.rec y (fun b m s => V.rec (V.num b m s) (fun c n t => Bool.rec (vsum H H2 EL b m s n t) (vdif H H2 EL b m s n t) (bx b c)) V.bad y) V.bad x
noncomputable def vneg (x : V) : V := V.rec V.zero (fun b m s => V.num (bx b true) m s) V.bad x
noncomputable def vsubG (H H2 EL : Nat) (x y : V) : V := vaddG H H2 EL x (vneg y)
/-- The word w is told by the rounded fraction A * 2 ^ s / D. -/
def RR (k : FloatKind) (w : Nat) (b : Bool) (A : Nat) : Prop := rq (fbK k) A 1 < limK k → Fin k w (sg b (rq (fbK k) A 1))
theorem rep_sum3 {k : FloatKind} {fb H H2 sc EL w p e d P : Nat} {b : Bool} (ok : KOk k fb H H2 sc EL) (hP : P = 2 ^ d) (h : RR k w b (p * 2 ^ e)) : Rep k w (vsum3 H H2 EL b p e d P) := by
  have ev : ∀ u, rq (fbK k) (p * 2 ^ (e + u)) (2 ^ u) = rq (fbK k) (p * 2 ^ e) 1 := fun u => by
    have := rq_scale (fb := fbK k) (A := p * 2 ^ e) (B := 1) (Nat.two_pow_pos u)
    rw [Nat.one_mul, Nat.mul_assoc, ← Nat.pow_add] at this
    exact this
  unfold vsum3
  cases Nat.ble (Nat.succ p) (Nat.mul H2 P)
  · refine rep_rnd ok (by rw [hP]; exact Nat.mul_pos (by omega) (Nat.two_pow_pos _)) fun hl => ?_
    have e1 : Nat.mul 2 P = 2 ^ (d + 1) := by rw [hP, Nat.pow_succ']; rfl
    rw [e1] at hl ⊢
    have := ev (d + 1)
    have e2 : Nat.add e (Nat.succ d) = e + (d + 1) := rfl
    rw [e2, this] at hl ⊢
    exact h hl
  · refine rep_rnd ok (by rw [hP]; exact Nat.two_pow_pos _) fun hl => ?_
    rw [hP] at hl ⊢
    have e2 : Nat.add e d = e + d := rfl
    rw [e2, ev d] at hl ⊢
    exact h hl
theorem rep_sum {k : FloatKind} {fb H H2 sc EL w m s n t : Nat} {b : Bool} (ok : KOk k fb H H2 sc EL) (h : RR k w b (m * 2 ^ s + n * 2 ^ t)) : Rep k w (vsum H H2 EL b m s n t) := by
  have key : ∀ m s n t, t ≤ s → (m * 2 ^ (s - t) + n) * 2 ^ t = m * 2 ^ s + n * 2 ^ t := fun m s n t hst => by
    rw [Nat.add_mul, Nat.mul_assoc, ← Nat.pow_add, show s - t + t = s by omega]
  unfold vsum
  cases h1 : Nat.ble t s
  · have hst : s ≤ t := by
      rcases Nat.le_total s t with h | h
      · exact h
      · rw [Nat.ble_eq_true_of_le h] at h1; cases h1
    exact rep_sum3 (p := n * 2 ^ (t - s) + m) ok rfl (by rw [key _ _ _ _ hst, Nat.add_comm]; exact h)
  · have hst : t ≤ s := Nat.le_of_ble_eq_true h1
    exact rep_sum3 (p := m * 2 ^ (s - t) + n) ok rfl (by rw [key _ _ _ _ hst]; exact h)
theorem rep_sh {k : FloatKind} {fb H H2 sc EL w p e : Nat} {b : Bool} (j : Nat) (ok : KOk k fb H H2 sc EL) (hp : p < H2) (h : RR k w b (p * 2 ^ e)) (hl : p * 2 ^ e < limK k) : Rep k w (vsh b p e j) := by
  have he : rq (fbK k) (p * 2 ^ e) 1 = p * 2 ^ e := rq_exact (by rw [ok.eH2, ok.efb] at hp; exact hp)
  unfold RR at h
  rw [he] at h
  have hF := h hl
  unfold vsh vnrm
  cases h1 : Nat.ble j e
  · trivial
  · have h1 : j ≤ e := Nat.le_of_ble_eq_true h1
    show Fin k w (sg b (p * 2 ^ j * 2 ^ (e - j)))
    rw [Nat.mul_assoc, ← Nat.pow_add, show j + (e - j) = e by omega]
    exact hF
theorem rep_norm {k : FloatKind} {fb H H2 sc EL w p e : Nat} {b : Bool} (ok : KOk k fb H H2 sc EL) (hp : p < H2) (h : RR k w b (p * 2 ^ e)) (hl : p * 2 ^ e < limK k) : Rep k w (vnorm H b p e) :=
  rep_sh _ ok hp h hl
theorem rep_dif4 {k : FloatKind} {fb H H2 sc EL w p e d P : Nat} {b : Bool} (ok : KOk k fb H H2 sc EL) (hP : P = 2 ^ d) (h : RR k w b (p * 2 ^ e)) (hl : p * 2 ^ e < limK k) : Rep k w (vdif4 H H2 EL b p e d P) := by
  unfold vdif4
  cases h1 : Nat.ble (Nat.succ p) H2
  · cases h2 : Nat.ble (Nat.mul H P) p
    · cases h3 : Nat.ble 1 d
      · trivial
      · have h3 : 1 ≤ d := Nat.le_of_ble_eq_true h3
        obtain ⟨c, rfl⟩ : ∃ c, d = c + 1 := ⟨d - 1, by omega⟩
        refine rep_sum3 (d := c) ok ?_ h
        rw [hP, Nat.pow_succ]
        exact Nat.mul_div_cancel _ (by omega)
    · refine rep_rnd ok (by rw [hP]; exact Nat.two_pow_pos _) fun hl => ?_
      have := rq_scale (fb := fbK k) (A := p * 2 ^ e) (B := 1) (Nat.two_pow_pos d)
      rw [Nat.one_mul, Nat.mul_assoc, ← Nat.pow_add] at this
      rw [hP] at hl ⊢
      have e2 : Nat.add e d = e + d := rfl
      rw [e2, this] at hl ⊢
      exact h hl
  · exact rep_norm ok (Nat.le_of_ble_eq_true h1) h hl
/-- The word w is told by a rounded whole number. -/
def RI (k : FloatKind) (w : Nat) (z : Int) : Prop := (rI k z 1).natAbs < limK k → Fin k w (rI k z 1)
theorem RI.sg {k : FloatKind} {w A : Nat} {b : Bool} (h : RI k w (sg b A)) : RR k w b A := fun hl => by
  unfold RI at h
  rw [rI_sg, sg_abs] at h
  exact h hl
theorem sg_not (b : Bool) (n : Nat) : sg (!b) n = -sg b n := by unfold sg; cases b <;> simp
theorem rep_dif3 {k : FloatKind} {fb H H2 sc EL w a n e d P : Nat} {b : Bool} (ok : KOk k fb H H2 sc EL) (hP : P = 2 ^ d) (h : RI k w (sg b (a * 2 ^ e) + sg (!b) (n * 2 ^ e))) (ha : a * 2 ^ e < limK k) (hn : n * 2 ^ e < limK k) : Rep k w (vdif3 H H2 EL b a n e d P) := by
  have e1 : ∀ x y : Nat, y ≤ x → sg b (x * 2 ^ e) + sg (!b) (y * 2 ^ e) = sg b ((x - y) * 2 ^ e) := fun x y hxy => by
    have hm := Nat.mul_le_mul_right (2 ^ e) hxy
    rw [Nat.sub_mul]
    generalize x * 2 ^ e = X at *
    generalize y * 2 ^ e = Y at *
    unfold sg
    cases b
    · simp; omega
    · simp; omega
  unfold vdif3
  cases h1 : Nat.ble (Nat.succ n) a
  · have h1 : ¬ n < a := fun h => by
      rw [Nat.ble_eq_true_of_le (show Nat.succ n ≤ a from h)] at h1; cases h1
    cases h2 : Nat.beq a n
    · have hlt : a < n := by
        rcases Nat.lt_trichotomy a n with h | h | h
        · exact h
        · subst h; rw [Nat.beq_refl] at h2; cases h2
        · exact absurd h h1
      have e2 : sg b (a * 2 ^ e) + sg (!b) (n * 2 ^ e) = sg (!b) ((n - a) * 2 ^ e) := by
        have hm := Nat.mul_le_mul_right (2 ^ e) (Nat.le_of_lt hlt)
        rw [Nat.sub_mul]
        generalize a * 2 ^ e = X at *
        generalize n * 2 ^ e = Y at *
        unfold sg
        cases b
        · simp; omega
        · simp; omega
      rw [e2] at h
      rw [bx_eq, Bool.xor_true]
      refine rep_dif4 ok hP h.sg (Nat.lt_of_le_of_lt (Nat.mul_le_mul_right _ (Nat.sub_le _ _)) hn)
    · have h2 := Nat.eq_of_beq_eq_true h2
      subst h2
      have := e1 a a (Nat.le_refl _)
      rw [this, Nat.sub_self, Nat.zero_mul, sg_zero] at h
      unfold RI at h
      rw [rI_0] at h
      exact h (limK_pos k)
  · have h1 : n < a := Nat.le_of_ble_eq_true h1
    rw [e1 a n (Nat.le_of_lt h1)] at h
    exact rep_dif4 ok hP h.sg (Nat.lt_of_le_of_lt (Nat.mul_le_mul_right _ (Nat.sub_le _ _)) ha)
theorem rep_dif {k : FloatKind} {fb H H2 sc EL w m s n t : Nat} {b : Bool} (ok : KOk k fb H H2 sc EL) (h : RI k w (sg b (m * 2 ^ s) + sg (!b) (n * 2 ^ t))) (ha : m * 2 ^ s < limK k) (hn : n * 2 ^ t < limK k) : Rep k w (vdif H H2 EL b m s n t) := by
  have key : ∀ m s t, t ≤ s → m * 2 ^ (s - t) * 2 ^ t = m * 2 ^ s := fun m s t hst => by
    rw [Nat.mul_assoc, ← Nat.pow_add, show s - t + t = s by omega]
  unfold vdif
  cases h1 : Nat.ble t s
  · have hst : s ≤ t := by
      rcases Nat.le_total s t with h | h
      · exact h
      · rw [Nat.ble_eq_true_of_le h] at h1; cases h1
    rw [bx_eq, Bool.xor_true]
    refine rep_dif3 (a := n * 2 ^ (t - s)) ok rfl ?_ (by rw [key _ _ _ hst]; exact hn) ha
    rw [key _ _ _ hst, Bool.not_not, Int.add_comm]
    exact h
  · have hst : t ≤ s := Nat.le_of_ble_eq_true h1
    refine rep_dif3 (a := m * 2 ^ (s - t)) ok rfl ?_ (by rw [key _ _ _ hst]; exact ha) hn
    rw [key _ _ _ hst]
    exact h
theorem Fin.exact {k : FloatKind} {w : Nat} {n : Int} (h : Fin k w n) : rI k n 1 = n := by
  obtain ⟨m, p, h1, h2⟩ := h.small
  exact rI_exact h1 h2
theorem rep_addI {k : FloatKind} {fb H H2 sc EL w : Nat} {x y : Nat} {a b : V} (ok : KOk k fb H H2 sc EL) (hx : Rep k x a) (hy : Rep k y b)
    (h : ∀ p q : Int, Fin k x p → Fin k y q → RI k w (p + q)) : Rep k w (vaddG H H2 EL a b) := by
  cases a with
  | bad => trivial
  | zero =>
    cases b with
    | bad => trivial
    | zero =>
      have := h _ _ hx hy
      unfold RI at this
      rw [Int.add_zero, rI_0] at this
      exact this (limK_pos k)
    | num c n t =>
      have := h _ _ hx hy
      unfold RI at this
      have hy' : Fin k y (sg c (n * 2 ^ t)) := hy
      rw [Int.zero_add, hy'.exact] at this
      exact this hy'.lt_lim
  | num b m s => cases b with
    | _ => cases ‹V› with
      | bad => trivial
      | zero =>
        have := h _ _ hx hy
        unfold RI at this
        rw [Int.add_zero, Fin.exact hx] at this
        exact this (Fin.lt_lim hx)
      | num c n t =>
        have hz := h _ _ hx hy
        have l1 := Fin.lt_lim hx
        have l2 := Fin.lt_lim hy
        rw [sg_abs] at l1 l2
        show Rep k w (Bool.rec (vsum H H2 EL _ m s n t) (vdif H H2 EL _ m s n t) (bx _ c))
        rw [bx_eq]
        first
        | (cases c
           · refine rep_sum ok (RI.sg ?_)
             unfold sg at hz ⊢
             simpa using hz
           · exact rep_dif ok hz l1 l2)
        | (cases c
           · exact rep_dif ok hz l1 l2
           · refine rep_sum ok (RI.sg ?_)
             unfold sg at hz ⊢
             simp at hz ⊢
             rw [Int.neg_add]
             exact hz)
theorem rep_addG {k : FloatKind} {fb H H2 sc EL x y : Nat} {a b : V} (ok : KOk k fb H H2 sc EL) (hx : Rep k x a) (hy : Rep k y b) : Rep k (fop .add k x y) (vaddG H H2 EL a b) :=
  rep_addI ok hx hy fun _ _ hp hq hl => Fin.add hp hq hl
theorem rep_neg {k : FloatKind} {x : Nat} {a : V} (hx : Rep k x a) : Rep k (fneg k x) (vneg a) := by
  cases a with
  | bad => trivial
  | zero => exact Fin.neg hx
  | num b m s =>
    show Fin k _ (sg (bx b true) _)
    rw [bx_eq, Bool.xor_true, sg_not]
    exact Fin.neg hx
theorem rep_subG {k : FloatKind} {fb H H2 sc EL x y : Nat} {a b : V} (ok : KOk k fb H H2 sc EL) (hx : Rep k x a) (hy : Rep k y b) : Rep k (fop .sub k x y) (vsubG H H2 EL a b) := by
  have key : ∀ v : Int, Fin k y v → Rep k (fop .sub k x y) (vaddG H H2 EL a (vneg b)) := fun v hv =>
    rep_addI (y := fneg k y) ok hx (rep_neg hy) fun p q hp hq hl => by
      have e := hv.neg.unique hq
      subst e
      rw [← Int.sub_eq_add_neg] at hl ⊢
      exact Fin.sub hp hv hl
  cases b with
  | bad => cases a <;> trivial
  | zero => exact key _ hy
  | num c n t => exact key _ hy
end Go.Fw

/-
  Floats evaluated by the kernel: conversions, roots, comparisons; the operations of 32 and of 64 bits.
-/
namespace Go.Fw
open Ieee (Datum Format Toward signed)
theorem ok32 : KOk .f32 23 8388608 16777216 149 252 := ⟨rfl, by decide, by decide, rfl, by decide, by decide⟩
theorem ok64 : KOk .f64 52 4503599627370496 9007199254740992 1074 2044 := ⟨rfl, by decide, by decide, rfl, by decide, by decide⟩
noncomputable def vadd (x y : V) : V := vaddG 8388608 16777216 252 x y
noncomputable def vsub (x y : V) : V := vsubG 8388608 16777216 252 x y
noncomputable def vmul (x y : V) : V := vmulG 23 8388608 16777216 149 252 140737488355328 x y
noncomputable def vquo (x y : V) : V := vquoG 23 8388608 16777216 149 252 x y
noncomputable def wadd (x y : V) : V := vaddG 4503599627370496 9007199254740992 2044 x y
noncomputable def wsub (x y : V) : V := vsubG 4503599627370496 9007199254740992 2044 x y
noncomputable def wmul (x y : V) : V := vmulG 52 4503599627370496 9007199254740992 1074 2044 40564819207303340847894502572032 x y
noncomputable def wquo (x y : V) : V := vquoG 52 4503599627370496 9007199254740992 1074 2044 x y
theorem rep_add {x y : Nat} {a b : V} (hx : Rep .f32 x a) (hy : Rep .f32 y b) : Rep .f32 (fop .add .f32 x y) (vadd a b) := rep_addG ok32 hx hy
theorem rep_sub {x y : Nat} {a b : V} (hx : Rep .f32 x a) (hy : Rep .f32 y b) : Rep .f32 (fop .sub .f32 x y) (vsub a b) := rep_subG ok32 hx hy
theorem rep_mul {x y : Nat} {a b : V} (hx : Rep .f32 x a) (hy : Rep .f32 y b) : Rep .f32 (fop .mul .f32 x y) (vmul a b) := rep_mulG ok32 hx hy
theorem rep_quo {x y : Nat} {a b : V} (hx : Rep .f32 x a) (hy : Rep .f32 y b) : Rep .f32 (fop .quo .f32 x y) (vquo a b) := rep_quoG ok32 hx hy
theorem rep_wadd {x y : Nat} {a b : V} (hx : Rep .f64 x a) (hy : Rep .f64 y b) : Rep .f64 (fop .add .f64 x y) (wadd a b) := rep_addG ok64 hx hy
theorem rep_wsub {x y : Nat} {a b : V} (hx : Rep .f64 x a) (hy : Rep .f64 y b) : Rep .f64 (fop .sub .f64 x y) (wsub a b) := rep_subG ok64 hx hy
theorem rep_wmul {x y : Nat} {a b : V} (hx : Rep .f64 x a) (hy : Rep .f64 y b) : Rep .f64 (fop .mul .f64 x y) (wmul a b) := rep_mulG ok64 hx hy
theorem rep_wquo {x y : Nat} {a b : V} (hx : Rep .f64 x a) (hy : Rep .f64 y b) : Rep .f64 (fop .quo .f64 x y) (wquo a b) := rep_quoG ok64 hx hy
/-! ### Conversions -/
noncomputable def vwide (x : V) : V := V.rec V.zero (fun b m s => V.num b (Nat.mul m 536870912) (Nat.add s 896)) V.bad x
noncomputable def vnar (b : Bool) (m s : Nat) : V := Bool.rec V.bad (vrnd 8388608 16777216 252 b m 536870912 (Nat.sub s 896)) (Nat.ble 896 s)
noncomputable def vnarrow (x : V) : V := V.rec V.zero (fun b m s => vnar b m s) V.bad x
theorem sg_scale (b : Bool) (n p : Nat) : sg b n * (p : Nat) = sg b (n * p) := by
  unfold sg; cases b <;> simp [Int.neg_mul]
theorem rep_wide {x : Nat} {a : V} (hx : Rep .f32 x a) : Rep .f64 (fcvt .f32 .f64 x) (vwide a) := by
  cases a with
  | bad => trivial
  | zero =>
    have := Fin.widen scD_eq hx
    rw [Int.zero_mul] at this
    exact this
  | num b m s =>
    have := Fin.widen scD_eq hx
    rw [sg_scale] at this
    show Fin .f64 _ (sg b (m * 536870912 * 2 ^ (s + 896)))
    have e : m * 536870912 * 2 ^ (s + 896) = m * 2 ^ s * 2 ^ scD := by
      rw [show (536870912 : Nat) = 2 ^ 29 by decide, Nat.mul_assoc, Nat.mul_assoc, ← Nat.pow_add, ← Nat.pow_add, scD_eq, show 29 + (s + 896) = s + 925 by omega]
    rw [e]
    exact this
theorem nar_rat (m s : Nat) (h : 896 ≤ s) : rq 23 (m * 2 ^ (s - 896)) (2 ^ 29) = rq 23 (m * 2 ^ s) (2 ^ scD) := by
  refine rq_congr (Nat.two_pow_pos _) (Nat.two_pow_pos _) ?_
  rw [Nat.mul_assoc, Nat.mul_assoc, ← Nat.pow_add, ← Nat.pow_add, scD_eq, show s - 896 + 925 = s + 29 by omega]
theorem rep_nar {x : Nat} {b : Bool} {m s : Nat} (hx : Fin .f64 x (sg b (m * 2 ^ s))) : Rep .f32 (fcvt .f64 .f32 x) (vnar b m s) := by
  unfold vnar
  cases h1 : Nat.ble 896 s
  · trivial
  have h1 : 896 ≤ s := Nat.le_of_ble_eq_true h1
  refine rep_rnd ok32 (by omega) fun hl => ?_
  have e29 : (536870912 : Nat) = 2 ^ 29 := by decide
  rw [e29] at hl ⊢
  have e : rq (fbK .f32) (m * 2 ^ (Nat.sub s 896)) (2 ^ 29) = _ := nar_rat m s h1
  rw [e] at hl ⊢
  have := Fin.narrow scD_eq hx
  rw [rI_sg, sg_abs] at this
  exact (this hl).1
theorem rep_narrow {x : Nat} {a : V} (hx : Rep .f64 x a) : Rep .f32 (fcvt .f64 .f32 x) (vnarrow a) := by
  cases a with
  | bad => trivial
  | zero =>
    have := Fin.narrow scD_eq hx
    rw [rI_0] at this
    exact (this (limK_pos _)).1
  | num b m s => exact rep_nar hx
noncomputable def vok (x : V) : Bool := V.rec true (fun b m s => Bool.rec (Nat.ble m 16777216) (Nat.ble m 16777216) b && Nat.ble s 252) false x
theorem rnd_ok {b : Bool} {A D s : Nat} (hD : 0 < D) (h : vrnd 8388608 16777216 252 b A D s ≠ .bad) : rq 23 (A * 2 ^ s) D < limK .f32 := by
  unfold vrnd vrnd1 at h
  cases h1 : Nat.ble 8388608 (Nat.div A D)
  · rw [h1] at h; exact absurd rfl h
  cases h2 : Nat.ble (Nat.succ (Nat.div A D)) 16777216
  · rw [h1, h2] at h; exact absurd rfl h
  cases h3 : Nat.ble s 252
  · rw [h1, h2, h3] at h; exact absurd rfl h
  have h1 : 2 ^ 23 ≤ A / D := Nat.le_of_ble_eq_true h1
  have h2 : A / D + 1 ≤ 2 ^ (23 + 1) := Nat.le_of_ble_eq_true h2
  have h3 : s ≤ 252 := Nat.le_of_ble_eq_true h3
  rw [rq_at hD h1 h2, limK_pow]
  calc rqN A D * 2 ^ s ≤ 2 ^ (23 + 1) * 2 ^ s := Nat.mul_le_mul_right _ (Nat.le_trans (rqN_le _ _) h2)
    _ = 2 ^ (23 + 1 + s) := (Nat.pow_add ..).symm
    _ < 2 ^ limE .f32 := Nat.pow_lt_pow_right (by omega) (by have : limE .f32 = 277 := rfl; omega)
/-- The narrowing is fixed by the model. -/
noncomputable def vgood (x : V) : Bool := V.rec true (fun _ _ _ => true) false x
theorem narrow_ok {x : Nat} {a : V} (hx : Rep .f64 x a) (h : vgood (vnarrow a) = true) : fcvtOk .f64 .f32 x = true := by
  cases a with
  | bad => cases h
  | zero =>
    have := Fin.narrow scD_eq hx
    rw [rI_0] at this
    exact (this (limK_pos _)).2
  | num b m s =>
    have h' : vgood (vnar b m s) = true := h
    unfold vnar at h'
    cases h1 : Nat.ble 896 s
    · rw [h1] at h'; cases h'
    rw [h1] at h'
    have h1 : 896 ≤ s := Nat.le_of_ble_eq_true h1
    have h2 := rnd_ok (b := b) (A := m) (D := 536870912) (s := Nat.sub s 896) (by omega) (fun e => by
      have h' : vgood (vrnd 8388608 16777216 252 b m 536870912 (Nat.sub s 896)) = true := h'
      rw [e] at h'; cases h')
    have e29 : (536870912 : Nat) = 2 ^ 29 := by decide
    rw [e29] at h2
    have e : rq 23 (m * 2 ^ (Nat.sub s 896)) (2 ^ 29) = _ := nar_rat m s h1
    rw [e] at h2
    have := Fin.narrow scD_eq hx
    rw [rI_sg, sg_abs] at this
    exact (this h2).2
/-! ### Roots -/
/-- Newton's steps towards the root of M. -/
noncomputable def newt (M : Nat) (n x : Nat) : Nat := Nat.rec x (fun _ y => Nat.div (Nat.add y (Nat.div M y)) 2) n
/-- N = 2 W + st, of 56 or 57 digits, times 2 ^ (e - 1). -/
noncomputable def vroot4 (e N : Nat) : V :=
  Bool.rec (vrnd 4503599627370496 9007199254740992 2044 false N 16 (Nat.add e 3)) (vrnd 4503599627370496 9007199254740992 2044 false N 8 (Nat.add e 2)) (Nat.ble (Nat.succ N) 72057594037927936)
noncomputable def vroot3 (M e W : Nat) : V :=
  Bool.rec V.bad (Bool.rec V.bad (Bool.rec V.bad (vroot4 e (Nat.add (Nat.mul 2 W) (Bool.rec 1 0 (Nat.beq (Nat.mul W W) M)))) (Nat.ble 9007199254740992 W)) (Nat.ble (Nat.succ M) (Nat.mul (Nat.succ W) (Nat.succ W)))) (Nat.ble (Nat.mul W W) M)
noncomputable def vroot2 (M e : Nat) : V := vroot3 M e (newt M 5 (Nat.add (Nat.div M 72057594037927936) 18014398509481984))
noncomputable def vroot1 (m s : Nat) : V := Bool.rec (vroot2 (Nat.mul m 144115188075855872) (Nat.div (Nat.add s 1017) 2)) (vroot2 (Nat.mul m 288230376151711744) (Nat.div (Nat.add s 1016) 2)) (Nat.beq (Nat.mod s 2) 0)
noncomputable def wsqrt (x : V) : V := V.rec V.zero (fun b m s => Bool.rec (vroot1 m s) V.bad b) V.bad x
theorem exists_root (X : Nat) : ∃ S, S * S ≤ X ∧ X < (S + 1) * (S + 1) := ⟨_, rootFrom_ok X⟩
theorem rep_root4 {x e N Y : Nat} (hN : 2 ^ (52 + 2) ≤ N) (he : 1 ≤ e) (st : Stick N Y (2 ^ e)) (h : Fin .f64 (fsqrt x) ((rq 52 Y 2 : Nat) : Int)) : Rep .f64 (fsqrt x) (vroot4 e N) := by
  have key := stick_rq (fb := 52) (u := e - 1) (v := 0) (Nat.two_pow_pos e) st hN (.inr rfl)
  rw [Nat.pow_zero, Nat.mul_one] at key
  obtain ⟨F, rfl⟩ : ∃ F, e = F + 1 := ⟨e - 1, by omega⟩
  rw [Nat.add_sub_cancel, Nat.pow_succ', rq_scale (Nat.two_pow_pos _)] at key
  rw [key] at h
  have rr : RR .f64 (fsqrt x) false (N * 2 ^ F) := fun _ => h
  have e3 : ∀ u, Rep .f64 (fsqrt x) (vrnd 4503599627370496 9007199254740992 2044 false N (2 ^ u) (F + u)) := fun u => by
    refine rep_rnd ok64 (Nat.two_pow_pos _) fun hl => ?_
    have := rq_scale (fb := fbK .f64) (A := N * 2 ^ F) (B := 1) (Nat.two_pow_pos u)
    rw [Nat.one_mul, Nat.mul_assoc, ← Nat.pow_add] at this
    rw [this] at hl ⊢
    exact rr hl
  unfold vroot4
  cases Nat.ble (Nat.succ N) 72057594037927936
  · exact e3 4
  · exact e3 3
theorem rep_root3 {x n X M e W : Nat} (h : Fin .f64 x (n : Int)) (hX : X = n * 2 ^ scK .f64) (hM : X = M * (2 ^ e * 2 ^ e)) (he : 1 ≤ e) : Rep .f64 (fsqrt x) (vroot3 M e W) := by
  unfold vroot3
  cases h1 : Nat.ble (Nat.mul W W) M
  · trivial
  cases h2 : Nat.ble (Nat.succ M) (Nat.mul (Nat.succ W) (Nat.succ W))
  · trivial
  cases h3 : Nat.ble 9007199254740992 W
  · trivial
  have h1 : W * W ≤ M := Nat.le_of_ble_eq_true h1
  have h2 : M < (W + 1) * (W + 1) := Nat.le_of_ble_eq_true h2
  have h3 : 9007199254740992 ≤ W := Nat.le_of_ble_eq_true h3
  obtain ⟨S, hS, hS'⟩ := exists_root X
  have hs := Fin.sqrt h hX hS hS'
  have hp : 0 < 2 ^ e * 2 ^ e := Nat.mul_pos (Nat.two_pow_pos _) (Nat.two_pow_pos _)
  have st := root_stick (e := e) hS hS' (by rw [hM]; exact Nat.mul_le_mul_right _ h1) (by rw [hM]; exact Nat.mul_lt_mul_of_pos_right h2 hp)
  have hd : (W * W * (2 ^ e * 2 ^ e) != X).toNat = (Bool.rec 1 0 (Nat.beq (W * W) M) : Nat) := by
    have : Nat.beq (W * W) M = (W * W * (2 ^ e * 2 ^ e) == X) := by
      rw [Bool.eq_iff_iff, Nat.beq_eq, beq_iff_eq, hM]
      exact ⟨fun h => by rw [h], fun h => Nat.eq_of_mul_eq_mul_right hp h⟩
    rw [this]
    unfold bne
    cases (W * W * (2 ^ e * 2 ^ e) == X) <;> rfl
  rw [hd] at st
  refine rep_root4 ?_ he st hs
  have : (2 : Nat) ^ (52 + 2) = 18014398509481984 := by decide
  show _ ≤ 2 * W + _
  omega
theorem root_X {m s c d e n : Nat} (hn : n = m * 2 ^ s) (hc : c = 2 ^ d) (h : s + scK .f64 = d + (e + e)) : n * 2 ^ scK .f64 = m * c * (2 ^ e * 2 ^ e) := by
  rw [hn, hc, Nat.mul_assoc, Nat.mul_assoc, ← Nat.pow_add, ← Nat.pow_add, ← Nat.pow_add, h]
theorem rep_sqrt {x : Nat} {a : V} (hx : Rep .f64 x a) : Rep .f64 (fsqrt x) (wsqrt a) := by
  cases a with
  | bad => trivial
  | zero =>
    have h0 := Fin.sqrt (x := x) (n := 0) (X := 0) (S := 0) hx (by rw [Nat.zero_mul]) (by omega) (by omega)
    have e0 : (rq 52 (2 * 0 + (0 * 0 != 0).toNat) 2 : Nat) = 0 := rq_zero _ _
    rw [e0] at h0
    exact h0
  | num b m s =>
    cases b
    · have hx' : Fin .f64 x ((m * 2 ^ s : Nat) : Int) := hx
      show Rep .f64 (fsqrt x) (vroot1 m s)
      unfold vroot1
      cases h1 : Nat.beq (Nat.mod s 2) 0
      · have h1 : s % 2 ≠ 0 := fun e => by
          have : Nat.beq (s % 2) 0 = false := h1
          rw [e] at this; cases this
        exact rep_root3 hx' rfl (root_X (d := 57) rfl (by decide) (by show s + 1074 = 57 + ((s + 1017) / 2 + (s + 1017) / 2); omega)) (by show 1 ≤ (s + 1017) / 2; omega)
      · have h1 : s % 2 = 0 := Nat.eq_of_beq_eq_true h1
        exact rep_root3 hx' rfl (root_X (d := 58) rfl (by decide) (by show s + 1074 = 58 + ((s + 1016) / 2 + (s + 1016) / 2); omega)) (by show 1 ≤ (s + 1016) / 2; omega)
    · trivial
/-- The root of a 32-bit number. -/
noncomputable def vsqrt (x : V) : V := vnarrow (wsqrt (vwide x))
theorem rep_vsqrt {x : Nat} {a : V} (hx : Rep .f32 x a) : Rep .f32 (fcvt .f64 .f32 (fsqrt (fcvt .f32 .f64 x))) (vsqrt a) := rep_narrow (rep_sqrt (rep_wide hx))
/-! ### Comparisons -/
noncomputable def ncmp (a b : Nat) : Ordering := Bool.rec (Bool.rec .gt .eq (Nat.beq a b)) .lt (Nat.ble (Nat.succ a) b)
noncomputable def vmag (x : V) : Nat := V.rec 0 (fun _ m s => Nat.mul m (Nat.pow 2 s)) 0 x
/-- Is below nought. -/
noncomputable def vlow (x : V) : Bool := V.rec false (fun b _ _ => b) false x
noncomputable def vcmp2 (p q : Bool) (a b : Nat) : Ordering := Bool.rec (Bool.rec (ncmp a b) (ncmp (Nat.add a b) 0) q) (Bool.rec (ncmp 0 (Nat.add a b)) (ncmp b a) q) p
noncomputable def vcmp (x y : V) : Option Ordering := Bool.rec none (Bool.rec none (some (vcmp2 (vlow x) (vlow y) (vmag x) (vmag y))) (vgood y)) (vgood x)
theorem ncmp_eq (a b : Nat) : ncmp a b = compare (a : Int) (b : Int) := by
  show _ = compareOfLessAndEq _ _
  unfold ncmp compareOfLessAndEq
  cases h : Nat.ble (Nat.succ a) b
  · have : ¬ (a : Int) < b := fun h' => by
      have : Nat.ble (Nat.succ a) b = true := Nat.ble_eq_true_of_le (by omega)
      rw [h] at this; cases this
    rw [if_neg this]
    cases h' : Nat.beq a b
    · rw [if_neg (fun e => by have e : a = b := by omega
                              rw [e, Nat.beq_refl] at h'; cases h')]
    · rw [if_pos (by rw [Nat.eq_of_beq_eq_true h'])]
  · have := Nat.le_of_ble_eq_true h
    rw [if_pos (by omega)]
theorem rep_val {k : FloatKind} {x : Nat} {a : V} (hx : Rep k x a) (h : vgood a = true) : Fin k x (sg (vlow a) (vmag a)) := by
  cases a with
  | bad => cases h
  | zero => exact hx
  | num b m s => exact hx
theorem rep_cmp {k : FloatKind} {x y : Nat} {a b : V} {o : Ordering} (hx : Rep k x a) (hy : Rep k y b) (h : vcmp a b = some o) : forder k x y = some o := by
  unfold vcmp at h
  cases h1 : vgood a
  · rw [h1] at h; cases h
  cases h2 : vgood b
  · rw [h1, h2] at h; cases h
  rw [h1, h2] at h
  have h : some (vcmp2 (vlow a) (vlow b) (vmag a) (vmag b)) = some o := h
  rw [Fin.order (rep_val hx h1) (rep_val hy h2), ← h]
  generalize vmag a = m
  generalize vmag b = n
  have c : ∀ p q r : Int, compare (p + r) (q + r) = compare p q := fun p q r => by
    show compareOfLessAndEq _ _ = compareOfLessAndEq _ _
    unfold compareOfLessAndEq
    have h1 : p + r < q + r ↔ p < q := by omega
    have h2 : p + r = q + r ↔ p = q := by omega
    simp only [h1, h2]
  unfold sg
  cases vlow a <;> cases vlow b
  · exact congrArg some (ncmp_eq m n).symm
  · show some (compare (m : Int) (-(n : Int))) = some (ncmp (m + n) 0)
    rw [ncmp_eq, ← c _ _ n, Int.add_left_neg, Int.natCast_add]; rfl
  · show some (compare (-(m : Int)) (n : Int)) = some (ncmp 0 (m + n))
    rw [ncmp_eq, ← c _ _ m, Int.add_left_neg, Int.natCast_add, Int.add_comm (m : Int)]; rfl
  · show some (compare (-(m : Int)) (-(n : Int))) = some (ncmp n m)
    rw [ncmp_eq, ← c _ _ ((m : Int) + n)]
    congr 2 <;> omega
/-- A word read. -/
def vofD (k : FloatKind) : Datum → V
  | .number s m i => if m = 0 then .zero else .num s m (i - k.format.leastPlace).toNat
  | _ => .bad
def vof (k : FloatKind) (w : Nat) : V := vofD k (k.format.read w)
theorem rep_of (k : FloatKind) (w : Nat) : Rep k w (vof k w) := by
  unfold vof
  cases h : k.format.read w with
  | nan s t => trivial
  | infinity s => trivial
  | number s m i =>
    have hl : k.format.leastPlace ≤ i := by
      rcases (read_number h).2.1 with h1 | h1
      · omega
      · exact h1.2
    unfold vofD
    simp only
    by_cases h0 : m = 0
    · subst h0
      rw [if_pos rfl]
      exact ⟨s, 0, i, h, hl, by rw [signed_sg, Nat.zero_mul, sg_zero]⟩
    · rw [if_neg h0]
      exact ⟨s, m, i, h, hl, by rw [signed_sg]⟩
end Go.Fw
