/-
  Floats evaluated by the kernel: sums, roots, conversions, comparisons.
-/
import Derived.Test.YtlehhjphmenfbaaFwC

namespace Go.Fw
open Ieee (Datum Format Toward signed)
noncomputable def vsum3 (H H2 EL : Nat) (b : Bool) (p e d P : Nat) : V :=
  Bool.rec (vrnd H H2 EL b p (Nat.mul 2 P) (Nat.add e (Nat.succ d))) (vrnd H H2 EL b p P (Nat.add e d)) (Nat.ble (Nat.succ p) (Nat.mul H2 P))
noncomputable def vsum2 (H H2 EL : Nat) (b : Bool) (m n e d P : Nat) : V := vsum3 H H2 EL b (Nat.add (Nat.mul m P) n) e d P
noncomputable def vsum1 (H H2 EL : Nat) (b : Bool) (m n e d : Nat) : V := vsum2 H H2 EL b m n e d (Nat.pow 2 d)
noncomputable def vsum (H H2 EL : Nat) (b : Bool) (m s n t : Nat) : V :=
  Bool.rec (vsum1 H H2 EL b n m s (Nat.sub t s)) (vsum1 H H2 EL b m n t (Nat.sub s t)) (Nat.ble t s)
noncomputable def vnrm (b : Bool) (p e j P : Nat) : V := Bool.rec V.bad (V.num b (Nat.mul p P) (Nat.sub e j)) (Nat.ble j e)
noncomputable def vsh (b : Bool) (p e j : Nat) : V := vnrm b p e j (Nat.pow 2 j)
noncomputable def lift (H : Nat) (p : Nat) : Nat → Nat → Nat → Nat := fun n q j =>
  Nat.rec (motive := fun _ => Nat → Nat → Nat) (fun _ j => j) (fun i ih q j => Bool.rec (ih q j) (ih (Nat.mul q (Nat.pow 2 (Nat.pow 2 i))) (Nat.add j (Nat.pow 2 i))) (Nat.ble (Nat.succ (Nat.mul q (Nat.pow 2 (Nat.pow 2 i)))) (Nat.mul 2 H))) n q j
noncomputable def vnorm (H : Nat) (b : Bool) (p e : Nat) : V := vsh b p e (lift H p 6 p 0)
noncomputable def vdif4 (H H2 EL : Nat) (b : Bool) (p e d P : Nat) : V :=
  Bool.rec
    (Bool.rec (Bool.rec V.bad (vsum3 H H2 EL b p e (Nat.sub d 1) (Nat.div P 2)) (Nat.ble 1 d)) (vrnd H H2 EL b p P (Nat.add e d)) (Nat.ble (Nat.mul H P) p))
    (vnorm H b p e)
    (Nat.ble (Nat.succ p) H2)
noncomputable def vdif3 (H H2 EL : Nat) (b : Bool) (a n e d P : Nat) : V :=
  Bool.rec (Bool.rec (vdif4 H H2 EL (bx b true) (Nat.sub n a) e d P) V.zero (Nat.beq a n)) (vdif4 H H2 EL b (Nat.sub a n) e d P) (Nat.ble (Nat.succ n) a)
noncomputable def vdif2 (H H2 EL : Nat) (b : Bool) (m n e d P : Nat) : V := vdif3 H H2 EL b (Nat.mul m P) n e d P
noncomputable def vdif1 (H H2 EL : Nat) (b : Bool) (m n e d : Nat) : V := vdif2 H H2 EL b m n e d (Nat.pow 2 d)
noncomputable def vdif (H H2 EL : Nat) (b : Bool) (m s n t : Nat) : V :=
  Bool.rec (vdif1 H H2 EL (bx b true) n m s (Nat.sub t s)) (vdif1 H H2 EL b m n t (Nat.sub s t)) (Nat.ble t s)
noncomputable def vaddG (H H2 EL : Nat) (x y : V) : V :=
  V.rec y (fun b m s => V.rec (V.num b m s) (fun c n t => Bool.rec (vsum H H2 EL b m s n t) (vdif H H2 EL b m s n t) (bx b c)) V.bad y) V.bad x
noncomputable def vneg (x : V) : V := V.rec V.zero (fun b m s => V.num (bx b true) m s) V.bad x
noncomputable def vsubG (H H2 EL : Nat) (x y : V) : V := vaddG H H2 EL x (vneg y)
def RR (k : FloatKind) (w : Nat) (b : Bool) (A : Nat) : Prop := rq (fbK k) A 1 < limK k → Fin k w (sg b (rq (fbK k) A 1))
theorem rep_sum3 {k : FloatKind} {fb H H2 sc EL w p e d P : Nat} {b : Bool} (ok : KOk k fb H H2 sc EL) (hP : P = 2 ^ d) (h : RR k w b (p * 2 ^ e)) : Rep k w (vsum3 H H2 EL b p e d P) := by
  have ev : ∀ u, rq (fbK k) (p * 2 ^ (e + u)) (2 ^ u) = rq (fbK k) (p * 2 ^ e) 1 := fun u => by
    have := rq_scale (fb := fbK k) (A := p * 2 ^ e) (B := 1) (Nat.two_pow_pos u)
    rw [Nat.one_mul, Nat.mul_assoc, ← Nat.pow_add] at this
    exact this
  unfold vsum3
  cases Nat.ble (Nat.succ p) (Nat.mul H2 P)
  · refine rep_rnd ok (by rw [hP]; exact Nat.mul_pos (by omega) (Nat.two_pow_pos _)) fun hl => ?_
    have e1 : Nat.mul 2 P = 2 ^ (d + 1) := by rw [hP, Nat.pow_succ']; rfl
    rw [e1] at hl ⊢
    have := ev (d + 1)
    have e2 : Nat.add e (Nat.succ d) = e + (d + 1) := rfl
    rw [e2, this] at hl ⊢
    exact h hl
  · refine rep_rnd ok (by rw [hP]; exact Nat.two_pow_pos _) fun hl => ?_
    rw [hP] at hl ⊢
    have e2 : Nat.add e d = e + d := rfl
    rw [e2, ev d] at hl ⊢
    exact h hl
theorem rep_sum {k : FloatKind} {fb H H2 sc EL w m s n t : Nat} {b : Bool} (ok : KOk k fb H H2 sc EL) (h : RR k w b (m * 2 ^ s + n * 2 ^ t)) : Rep k w (vsum H H2 EL b m s n t) := by
  have key : ∀ m s n t, t ≤ s → (m * 2 ^ (s - t) + n) * 2 ^ t = m * 2 ^ s + n * 2 ^ t := fun m s n t hst => by
    rw [Nat.add_mul, Nat.mul_assoc, ← Nat.pow_add, show s - t + t = s by omega]
  unfold vsum
  cases h1 : Nat.ble t s
  · have hst : s ≤ t := by
      rcases Nat.le_total s t with h | h
      · exact h
      · rw [Nat.ble_eq_true_of_le h] at h1; cases h1
    exact rep_sum3 (p := n * 2 ^ (t - s) + m) ok rfl (by rw [key _ _ _ _ hst, Nat.add_comm]; exact h)
  · have hst : t ≤ s := Nat.le_of_ble_eq_true h1
    exact rep_sum3 (p := m * 2 ^ (s - t) + n) ok rfl (by rw [key _ _ _ _ hst]; exact h)
theorem rep_sh {k : FloatKind} {fb H H2 sc EL w p e : Nat} {b : Bool} (j : Nat) (ok : KOk k fb H H2 sc EL) (hp : p < H2) (h : RR k w b (p * 2 ^ e)) (hl : p * 2 ^ e < limK k) : Rep k w (vsh b p e j) := by
  have he : rq (fbK k) (p * 2 ^ e) 1 = p * 2 ^ e := rq_exact (by rw [ok.eH2, ok.efb] at hp; exact hp)
  unfold RR at h
  rw [he] at h
  have hF := h hl
  unfold vsh vnrm
  cases h1 : Nat.ble j e
  · trivial
  · have h1 : j ≤ e := Nat.le_of_ble_eq_true h1
    show Fin k w (sg b (p * 2 ^ j * 2 ^ (e - j)))
    rw [Nat.mul_assoc, ← Nat.pow_add, show j + (e - j) = e by omega]
    exact hF
theorem rep_norm {k : FloatKind} {fb H H2 sc EL w p e : Nat} {b : Bool} (ok : KOk k fb H H2 sc EL) (hp : p < H2) (h : RR k w b (p * 2 ^ e)) (hl : p * 2 ^ e < limK k) : Rep k w (vnorm H b p e) :=
  rep_sh _ ok hp h hl
theorem rep_dif4 {k : FloatKind} {fb H H2 sc EL w p e d P : Nat} {b : Bool} (ok : KOk k fb H H2 sc EL) (hP : P = 2 ^ d) (h : RR k w b (p * 2 ^ e)) (hl : p * 2 ^ e < limK k) : Rep k w (vdif4 H H2 EL b p e d P) := by
  unfold vdif4
  cases h1 : Nat.ble (Nat.succ p) H2
  · cases h2 : Nat.ble (Nat.mul H P) p
    · cases h3 : Nat.ble 1 d
      · trivial
      · have h3 : 1 ≤ d := Nat.le_of_ble_eq_true h3
        obtain ⟨c, rfl⟩ : ∃ c, d = c + 1 := ⟨d - 1, by omega⟩
        refine rep_sum3 (d := c) ok ?_ h
        rw [hP, Nat.pow_succ]
        exact Nat.mul_div_cancel _ (by omega)
    · refine rep_rnd ok (by rw [hP]; exact Nat.two_pow_pos _) fun hl => ?_
      have := rq_scale (fb := fbK k) (A := p * 2 ^ e) (B := 1) (Nat.two_pow_pos d)
      rw [Nat.one_mul, Nat.mul_assoc, ← Nat.pow_add] at this
      rw [hP] at hl ⊢
      have e2 : Nat.add e d = e + d := rfl
      rw [e2, this] at hl ⊢
      exact h hl
  · exact rep_norm ok (Nat.le_of_ble_eq_true h1) h hl
def RI (k : FloatKind) (w : Nat) (z : Int) : Prop := (rI k z 1).natAbs < limK k → Fin k w (rI k z 1)
theorem RI.sg {k : FloatKind} {w A : Nat} {b : Bool} (h : RI k w (sg b A)) : RR k w b A := fun hl => by
  unfold RI at h
  rw [rI_sg, sg_abs] at h
  exact h hl
theorem sg_not (b : Bool) (n : Nat) : sg (!b) n = -sg b n := by unfold sg; cases b <;> simp
theorem rep_dif3 {k : FloatKind} {fb H H2 sc EL w a n e d P : Nat} {b : Bool} (ok : KOk k fb H H2 sc EL) (hP : P = 2 ^ d) (h : RI k w (sg b (a * 2 ^ e) + sg (!b) (n * 2 ^ e))) (ha : a * 2 ^ e < limK k) (hn : n * 2 ^ e < limK k) : Rep k w (vdif3 H H2 EL b a n e d P) := by
  have e1 : ∀ x y : Nat, y ≤ x → sg b (x * 2 ^ e) + sg (!b) (y * 2 ^ e) = sg b ((x - y) * 2 ^ e) := fun x y hxy => by
    have hm := Nat.mul_le_mul_right (2 ^ e) hxy
    rw [Nat.sub_mul]
    generalize x * 2 ^ e = X at *
    generalize y * 2 ^ e = Y at *
    unfold sg
    cases b
    · simp; omega
    · simp; omega
  unfold vdif3
  cases h1 : Nat.ble (Nat.succ n) a
  · have h1 : ¬ n < a := fun h => by
      rw [Nat.ble_eq_true_of_le (show Nat.succ n ≤ a from h)] at h1; cases h1
    cases h2 : Nat.beq a n
    · have hlt : a < n := by
        rcases Nat.lt_trichotomy a n with h | h | h
        · exact h
        · subst h; rw [Nat.beq_refl] at h2; cases h2
        · exact absurd h h1
      have e2 : sg b (a * 2 ^ e) + sg (!b) (n * 2 ^ e) = sg (!b) ((n - a) * 2 ^ e) := by
        have hm := Nat.mul_le_mul_right (2 ^ e) (Nat.le_of_lt hlt)
        rw [Nat.sub_mul]
        generalize a * 2 ^ e = X at *
        generalize n * 2 ^ e = Y at *
        unfold sg
        cases b
        · simp; omega
        · simp; omega
      rw [e2] at h
      rw [bx_eq, Bool.xor_true]
      refine rep_dif4 ok hP h.sg (Nat.lt_of_le_of_lt (Nat.mul_le_mul_right _ (Nat.sub_le _ _)) hn)
    · have h2 := Nat.eq_of_beq_eq_true h2
      subst h2
      have := e1 a a (Nat.le_refl _)
      rw [this, Nat.sub_self, Nat.zero_mul, sg_zero] at h
      unfold RI at h
      rw [rI_0] at h
      exact h (limK_pos k)
  · have h1 : n < a := Nat.le_of_ble_eq_true h1
    rw [e1 a n (Nat.le_of_lt h1)] at h
    exact rep_dif4 ok hP h.sg (Nat.lt_of_le_of_lt (Nat.mul_le_mul_right _ (Nat.sub_le _ _)) ha)
theorem rep_dif {k : FloatKind} {fb H H2 sc EL w m s n t : Nat} {b : Bool} (ok : KOk k fb H H2 sc EL) (h : RI k w (sg b (m * 2 ^ s) + sg (!b) (n * 2 ^ t))) (ha : m * 2 ^ s < limK k) (hn : n * 2 ^ t < limK k) : Rep k w (vdif H H2 EL b m s n t) := by
  have key : ∀ m s t, t ≤ s → m * 2 ^ (s - t) * 2 ^ t = m * 2 ^ s := fun m s t hst => by
    rw [Nat.mul_assoc, ← Nat.pow_add, show s - t + t = s by omega]
  unfold vdif
  cases h1 : Nat.ble t s
  · have hst : s ≤ t := by
      rcases Nat.le_total s t with h | h
      · exact h
      · rw [Nat.ble_eq_true_of_le h] at h1; cases h1
    rw [bx_eq, Bool.xor_true]
    refine rep_dif3 (a := n * 2 ^ (t - s)) ok rfl ?_ (by rw [key _ _ _ hst]; exact hn) ha
    rw [key _ _ _ hst, Bool.not_not, Int.add_comm]
    exact h
  · have hst : t ≤ s := Nat.le_of_ble_eq_true h1
    refine rep_dif3 (a := m * 2 ^ (s - t)) ok rfl ?_ (by rw [key _ _ _ hst]; exact ha) hn
    rw [key _ _ _ hst]
    exact h
theorem Fin.exact {k : FloatKind} {w : Nat} {n : Int} (h : Fin k w n) : rI k n 1 = n := by
  obtain ⟨m, p, h1, h2⟩ := h.small
  exact rI_exact h1 h2
theorem rep_addI {k : FloatKind} {fb H H2 sc EL w : Nat} {x y : Nat} {a b : V} (ok : KOk k fb H H2 sc EL) (hx : Rep k x a) (hy : Rep k y b)
    (h : ∀ p q : Int, Fin k x p → Fin k y q → RI k w (p + q)) : Rep k w (vaddG H H2 EL a b) := by
  cases a with
  | bad => trivial
  | zero =>
    cases b with
    | bad => trivial
    | zero =>
      have := h _ _ hx hy
      unfold RI at this
      rw [Int.add_zero, rI_0] at this
      exact this (limK_pos k)
    | num c n t =>
      have := h _ _ hx hy
      unfold RI at this
      have hy' : Fin k y (sg c (n * 2 ^ t)) := hy
      rw [Int.zero_add, hy'.exact] at this
      exact this hy'.lt_lim
  | num b m s => cases b with
    | _ => cases ‹V› with
      | bad => trivial
      | zero =>
        have := h _ _ hx hy
        unfold RI at this
        rw [Int.add_zero, Fin.exact hx] at this
        exact this (Fin.lt_lim hx)
      | num c n t =>
        have hz := h _ _ hx hy
        have l1 := Fin.lt_lim hx
        have l2 := Fin.lt_lim hy
        rw [sg_abs] at l1 l2
        show Rep k w (Bool.rec (vsum H H2 EL _ m s n t) (vdif H H2 EL _ m s n t) (bx _ c))
        rw [bx_eq]
        first
        | (cases c
           · refine rep_sum ok (RI.sg ?_)
             unfold sg at hz ⊢
             simpa using hz
           · exact rep_dif ok hz l1 l2)
        | (cases c
           · exact rep_dif ok hz l1 l2
           · refine rep_sum ok (RI.sg ?_)
             unfold sg at hz ⊢
             simp at hz ⊢
             rw [Int.neg_add]
             exact hz)
theorem rep_addG {k : FloatKind} {fb H H2 sc EL x y : Nat} {a b : V} (ok : KOk k fb H H2 sc EL) (hx : Rep k x a) (hy : Rep k y b) : Rep k (fop .add k x y) (vaddG H H2 EL a b) :=
  rep_addI ok hx hy fun _ _ hp hq hl => Fin.add hp hq hl
theorem rep_neg {k : FloatKind} {x : Nat} {a : V} (hx : Rep k x a) : Rep k (fneg k x) (vneg a) := by
  cases a with
  | bad => trivial
  | zero => exact Fin.neg hx
  | num b m s =>
    show Fin k _ (sg (bx b true) _)
    rw [bx_eq, Bool.xor_true, sg_not]
    exact Fin.neg hx
theorem rep_subG {k : FloatKind} {fb H H2 sc EL x y : Nat} {a b : V} (ok : KOk k fb H H2 sc EL) (hx : Rep k x a) (hy : Rep k y b) : Rep k (fop .sub k x y) (vsubG H H2 EL a b) := by
  have key : ∀ v : Int, Fin k y v → Rep k (fop .sub k x y) (vaddG H H2 EL a (vneg b)) := fun v hv =>
    rep_addI (y := fneg k y) ok hx (rep_neg hy) fun p q hp hq hl => by
      have e := hv.neg.unique hq
      subst e
      rw [← Int.sub_eq_add_neg] at hl ⊢
      exact Fin.sub hp hv hl
  cases b with
  | bad => cases a <;> trivial
  | zero => exact key _ hy
  | num c n t => exact key _ hy
end Go.Fw

/-
  Floats evaluated by the kernel: conversions, roots, comparisons; the operations of 32 and of 64 bits.
-/
namespace Go.Fw
open Ieee (Datum Format Toward signed)
theorem ok32 : KOk .f32 23 8388608 16777216 149 252 := ⟨rfl, by decide, by decide, rfl, by decide, by decide⟩
theorem ok64 : KOk .f64 52 4503599627370496 9007199254740992 1074 2044 := ⟨rfl, by decide, by decide, rfl, by decide, by decide⟩
noncomputable def vadd (x y : V) : V := vaddG 8388608 16777216 252 x y
noncomputable def vsub (x y : V) : V := vsubG 8388608 16777216 252 x y
noncomputable def vmul (x y : V) : V := vmulG 23 8388608 16777216 149 252 140737488355328 x y
noncomputable def vquo (x y : V) : V := vquoG 23 8388608 16777216 149 252 x y
theorem rep_add {x y : Nat} {a b : V} (hx : Rep .f32 x a) (hy : Rep .f32 y b) : Rep .f32 (fop .add .f32 x y) (vadd a b) := rep_addG ok32 hx hy
theorem rep_sub {x y : Nat} {a b : V} (hx : Rep .f32 x a) (hy : Rep .f32 y b) : Rep .f32 (fop .sub .f32 x y) (vsub a b) := rep_subG ok32 hx hy
theorem rep_mul {x y : Nat} {a b : V} (hx : Rep .f32 x a) (hy : Rep .f32 y b) : Rep .f32 (fop .mul .f32 x y) (vmul a b) := rep_mulG ok32 hx hy
theorem rep_quo {x y : Nat} {a b : V} (hx : Rep .f32 x a) (hy : Rep .f32 y b) : Rep .f32 (fop .quo .f32 x y) (vquo a b) := rep_quoG ok32 hx hy
noncomputable def vwide (x : V) : V := V.rec V.zero (fun b m s => V.num b (Nat.mul m 536870912) (Nat.add s 896)) V.bad x
noncomputable def vnar (b : Bool) (m s : Nat) : V := Bool.rec V.bad (vrnd 8388608 16777216 252 b m 536870912 (Nat.sub s 896)) (Nat.ble 896 s)
noncomputable def vnarrow (x : V) : V := V.rec V.zero (fun b m s => vnar b m s) V.bad x
theorem sg_scale (b : Bool) (n p : Nat) : sg b n * (p : Nat) = sg b (n * p) := by
  unfold sg; cases b <;> simp [Int.neg_mul]
theorem rep_wide {x : Nat} {a : V} (hx : Rep .f32 x a) : Rep .f64 (fcvt .f32 .f64 x) (vwide a) := by
  cases a with
  | bad => trivial
  | zero =>
    have := Fin.widen scD_eq hx
    rw [Int.zero_mul] at this
    exact this
  | num b m s =>
    have := Fin.widen scD_eq hx
    rw [sg_scale] at this
    show Fin .f64 _ (sg b (m * 536870912 * 2 ^ (s + 896)))
    have e : m * 536870912 * 2 ^ (s + 896) = m * 2 ^ s * 2 ^ scD := by
      rw [show (536870912 : Nat) = 2 ^ 29 by decide, Nat.mul_assoc, Nat.mul_assoc, ← Nat.pow_add, ← Nat.pow_add, scD_eq, show 29 + (s + 896) = s + 925 by omega]
    rw [e]
    exact this
theorem nar_rat (m s : Nat) (h : 896 ≤ s) : rq 23 (m * 2 ^ (s - 896)) (2 ^ 29) = rq 23 (m * 2 ^ s) (2 ^ scD) := by
  refine rq_congr (Nat.two_pow_pos _) (Nat.two_pow_pos _) ?_
  rw [Nat.mul_assoc, Nat.mul_assoc, ← Nat.pow_add, ← Nat.pow_add, scD_eq, show s - 896 + 925 = s + 29 by omega]
theorem rep_nar {x : Nat} {b : Bool} {m s : Nat} (hx : Fin .f64 x (sg b (m * 2 ^ s))) : Rep .f32 (fcvt .f64 .f32 x) (vnar b m s) := by
  unfold vnar
  cases h1 : Nat.ble 896 s
  · trivial
  have h1 : 896 ≤ s := Nat.le_of_ble_eq_true h1
  refine rep_rnd ok32 (by omega) fun hl => ?_
  have e29 : (536870912 : Nat) = 2 ^ 29 := by decide
  rw [e29] at hl ⊢
  have e : rq (fbK .f32) (m * 2 ^ (Nat.sub s 896)) (2 ^ 29) = _ := nar_rat m s h1
  rw [e] at hl ⊢
  have := Fin.narrow scD_eq hx
  rw [rI_sg, sg_abs] at this
  exact (this hl).1
theorem rep_narrow {x : Nat} {a : V} (hx : Rep .f64 x a) : Rep .f32 (fcvt .f64 .f32 x) (vnarrow a) := by
  cases a with
  | bad => trivial
  | zero =>
    have := Fin.narrow scD_eq hx
    rw [rI_0] at this
    exact (this (limK_pos _)).1
  | num b m s => exact rep_nar hx
noncomputable def vgood (x : V) : Bool := V.rec true (fun _ _ _ => true) false x
noncomputable def newt (M : Nat) (n x : Nat) : Nat := Nat.rec x (fun _ y => Nat.div (Nat.add y (Nat.div M y)) 2) n
noncomputable def vroot4 (e N : Nat) : V :=
  Bool.rec (vrnd 4503599627370496 9007199254740992 2044 false N 16 (Nat.add e 3)) (vrnd 4503599627370496 9007199254740992 2044 false N 8 (Nat.add e 2)) (Nat.ble (Nat.succ N) 72057594037927936)
noncomputable def vroot3 (M e W : Nat) : V :=
  Bool.rec V.bad (Bool.rec V.bad (Bool.rec V.bad (vroot4 e (Nat.add (Nat.mul 2 W) (Bool.rec 1 0 (Nat.beq (Nat.mul W W) M)))) (Nat.ble 9007199254740992 W)) (Nat.ble (Nat.succ M) (Nat.mul (Nat.succ W) (Nat.succ W)))) (Nat.ble (Nat.mul W W) M)
noncomputable def vroot2 (M e : Nat) : V := vroot3 M e (newt M 5 (Nat.add (Nat.div M 72057594037927936) 18014398509481984))
noncomputable def vroot1 (m s : Nat) : V := Bool.rec (vroot2 (Nat.mul m 144115188075855872) (Nat.div (Nat.add s 1017) 2)) (vroot2 (Nat.mul m 288230376151711744) (Nat.div (Nat.add s 1016) 2)) (Nat.beq (Nat.mod s 2) 0)
noncomputable def wsqrt (x : V) : V := V.rec V.zero (fun b m s => Bool.rec (vroot1 m s) V.bad b) V.bad x
theorem exists_root (X : Nat) : ∃ S, S * S ≤ X ∧ X < (S + 1) * (S + 1) := ⟨_, rootFrom_ok X⟩
theorem rep_root4 {x e N Y : Nat} (hN : 2 ^ (52 + 2) ≤ N) (he : 1 ≤ e) (st : Stick N Y (2 ^ e)) (h : Fin .f64 (fsqrt x) ((rq 52 Y 2 : Nat) : Int)) : Rep .f64 (fsqrt x) (vroot4 e N) := by
  have key := stick_rq (fb := 52) (u := e - 1) (v := 0) (Nat.two_pow_pos e) st hN (.inr rfl)
  rw [Nat.pow_zero, Nat.mul_one] at key
  obtain ⟨F, rfl⟩ : ∃ F, e = F + 1 := ⟨e - 1, by omega⟩
  rw [Nat.add_sub_cancel, Nat.pow_succ', rq_scale (Nat.two_pow_pos _)] at key
  rw [key] at h
  have rr : RR .f64 (fsqrt x) false (N * 2 ^ F) := fun _ => h
  have e3 : ∀ u, Rep .f64 (fsqrt x) (vrnd 4503599627370496 9007199254740992 2044 false N (2 ^ u) (F + u)) := fun u => by
    refine rep_rnd ok64 (Nat.two_pow_pos _) fun hl => ?_
    have := rq_scale (fb := fbK .f64) (A := N * 2 ^ F) (B := 1) (Nat.two_pow_pos u)
    rw [Nat.one_mul, Nat.mul_assoc, ← Nat.pow_add] at this
    rw [this] at hl ⊢
    exact rr hl
  unfold vroot4
  cases Nat.ble (Nat.succ N) 72057594037927936
  · exact e3 4
  · exact e3 3
theorem rep_root3 {x n X M e W : Nat} (h : Fin .f64 x (n : Int)) (hX : X = n * 2 ^ scK .f64) (hM : X = M * (2 ^ e * 2 ^ e)) (he : 1 ≤ e) : Rep .f64 (fsqrt x) (vroot3 M e W) := by
  unfold vroot3
  cases h1 : Nat.ble (Nat.mul W W) M
  · trivial
  cases h2 : Nat.ble (Nat.succ M) (Nat.mul (Nat.succ W) (Nat.succ W))
  · trivial
  cases h3 : Nat.ble 9007199254740992 W
  · trivial
  have h1 : W * W ≤ M := Nat.le_of_ble_eq_true h1
  have h2 : M < (W + 1) * (W + 1) := Nat.le_of_ble_eq_true h2
  have h3 : 9007199254740992 ≤ W := Nat.le_of_ble_eq_true h3
  obtain ⟨S, hS, hS'⟩ := exists_root X
  have hs := Fin.sqrt h hX hS hS'
  have hp : 0 < 2 ^ e * 2 ^ e := Nat.mul_pos (Nat.two_pow_pos _) (Nat.two_pow_pos _)
  have st := root_stick (e := e) hS hS' (by rw [hM]; exact Nat.mul_le_mul_right _ h1) (by rw [hM]; exact Nat.mul_lt_mul_of_pos_right h2 hp)
  have hd : (W * W * (2 ^ e * 2 ^ e) != X).toNat = (Bool.rec 1 0 (Nat.beq (W * W) M) : Nat) := by
    have : Nat.beq (W * W) M = (W * W * (2 ^ e * 2 ^ e) == X) := by
      rw [Bool.eq_iff_iff, Nat.beq_eq, beq_iff_eq, hM]
      exact ⟨fun h => by rw [h], fun h => Nat.eq_of_mul_eq_mul_right hp h⟩
    rw [this]
    unfold bne
    cases (W * W * (2 ^ e * 2 ^ e) == X) <;> rfl
  rw [hd] at st
  refine rep_root4 ?_ he st hs
  have : (2 : Nat) ^ (52 + 2) = 18014398509481984 := by decide
  show _ ≤ 2 * W + _
  omega
theorem root_X {m s c d e n : Nat} (hn : n = m * 2 ^ s) (hc : c = 2 ^ d) (h : s + scK .f64 = d + (e + e)) : n * 2 ^ scK .f64 = m * c * (2 ^ e * 2 ^ e) := by
  rw [hn, hc, Nat.mul_assoc, Nat.mul_assoc, ← Nat.pow_add, ← Nat.pow_add, ← Nat.pow_add, h]
theorem rep_sqrt {x : Nat} {a : V} (hx : Rep .f64 x a) : Rep .f64 (fsqrt x) (wsqrt a) := by
  cases a with
  | bad => trivial
  | zero =>
    have h0 := Fin.sqrt (x := x) (n := 0) (X := 0) (S := 0) hx (by rw [Nat.zero_mul]) (by omega) (by omega)
    have e0 : (rq 52 (2 * 0 + (0 * 0 != 0).toNat) 2 : Nat) = 0 := rq_zero _ _
    rw [e0] at h0
    exact h0
  | num b m s =>
    cases b
    · have hx' : Fin .f64 x ((m * 2 ^ s : Nat) : Int) := hx
      show Rep .f64 (fsqrt x) (vroot1 m s)
      unfold vroot1
      cases h1 : Nat.beq (Nat.mod s 2) 0
      · have h1 : s % 2 ≠ 0 := fun e => by
          have : Nat.beq (s % 2) 0 = false := h1
          rw [e] at this; cases this
        exact rep_root3 hx' rfl (root_X (d := 57) rfl (by decide) (by show s + 1074 = 57 + ((s + 1017) / 2 + (s + 1017) / 2); omega)) (by show 1 ≤ (s + 1017) / 2; omega)
      · have h1 : s % 2 = 0 := Nat.eq_of_beq_eq_true h1
        exact rep_root3 hx' rfl (root_X (d := 58) rfl (by decide) (by show s + 1074 = 58 + ((s + 1016) / 2 + (s + 1016) / 2); omega)) (by show 1 ≤ (s + 1016) / 2; omega)
    · trivial
noncomputable def vsqrt (x : V) : V := vnarrow (wsqrt (vwide x))
theorem rep_vsqrt {x : Nat} {a : V} (hx : Rep .f32 x a) : Rep .f32 (fcvt .f64 .f32 (fsqrt (fcvt .f32 .f64 x))) (vsqrt a) := rep_narrow (rep_sqrt (rep_wide hx))
noncomputable def vmag (x : V) : Nat := V.rec 0 (fun _ m s => Nat.mul m (Nat.pow 2 s)) 0 x
noncomputable def vlow (x : V) : Bool := V.rec false (fun b _ _ => b) false x
theorem rep_val {k : FloatKind} {x : Nat} {a : V} (hx : Rep k x a) (h : vgood a = true) : Fin k x (sg (vlow a) (vmag a)) := by
  cases a with
  | bad => cases h
  | zero => exact hx
  | num b m s => exact hx
def vofD (k : FloatKind) : Datum → V
  | .number s m i => if m = 0 then .zero else .num s m (i - k.format.leastPlace).toNat
  | _ => .bad
def vof (k : FloatKind) (w : Nat) : V := vofD k (k.format.read w)
theorem rep_of (k : FloatKind) (w : Nat) : Rep k w (vof k w) := by
  unfold vof
  cases h : k.format.read w with
  | nan s t => trivial
  | infinity s => trivial
  | number s m i =>
    have hl : k.format.leastPlace ≤ i := by
      rcases (read_number h).2.1 with h1 | h1
      · omega
      · exact h1.2
    unfold vofD
    simp only
    by_cases h0 : m = 0
    · subst h0
      rw [if_pos rfl]
      exact ⟨s, 0, i, h, hl, by rw [signed_sg, Nat.zero_mul, sg_zero]⟩
    · rw [if_neg h0]
      exact ⟨s, m, i, h, hl, by rw [signed_sg]⟩
end Go.Fw

/-
  Floats that are finite numbers, told as fractions; how far from the exact results the operations' are.
-/
namespace Go.Fw
def Near (d e : Rat) : Prop := -e ≤ d ∧ d ≤ e
theorem Near.nonneg {d e : Rat} (h : Near d e) : 0 ≤ e := by unfold Near at h; grind
theorem Near.add {a b A B : Rat} (h : Near a A) (h' : Near b B) : Near (a + b) (A + B) := by unfold Near at *; grind
theorem Near.sub {a b A B : Rat} (h : Near a A) (h' : Near b B) : Near (a - b) (A + B) := by unfold Near at *; grind
theorem Near.neg {a A : Rat} (h : Near a A) : Near (-a) A := by unfold Near at *; grind
theorem Near.mono {a A B : Rat} (h : Near a A) (h' : A ≤ B) : Near a B := by unfold Near at *; grind
theorem Near.zero {A : Rat} (h : 0 ≤ A) : Near 0 A := by unfold Near; grind
theorem Near.mul {a b A B : Rat} (h : Near a A) (h' : Near b B) : Near (a * b) (A * B) := by
  have hA := h.nonneg
  have hB := h'.nonneg
  unfold Near at *
  have h1 := Rat.mul_nonneg (show 0 ≤ A - a by grind) (show 0 ≤ B + b by grind)
  have h2 := Rat.mul_nonneg (show 0 ≤ A + a by grind) (show 0 ≤ B - b by grind)
  have h3 := Rat.mul_nonneg (show 0 ≤ A - a by grind) (show 0 ≤ B - b by grind)
  have h4 := Rat.mul_nonneg (show 0 ≤ A + a by grind) (show 0 ≤ B + b by grind)
  constructor <;> grind
theorem rqN_near {A D : Nat} (hD : 0 < D) : 2 * (rqN A D * D) ≤ 2 * A + D ∧ 2 * A ≤ 2 * (rqN A D * D) + D := by
  unfold rqN
  have h1 := Nat.div_add_mod A D
  have h2 := Nat.mod_lt A hD
  generalize A / D = q at *
  generalize A % D = r at *
  cases h : (Nat.blt D (2 * r) || (Nat.beq D (2 * r) && Nat.beq (q % 2) 1))
  · have : ¬ D < 2 * r := fun h' => by
      rw [show Nat.blt D (2 * r) = true by rw [Nat.blt_eq]; exact h'] at h; cases h
    rw [cond_false, Nat.mul_comm q D]
    show 2 * (D * q) ≤ _ ∧ _ ≤ 2 * (D * q) + D
    omega
  · have : D ≤ 2 * r := by
      simp only [Bool.or_eq_true, Bool.and_eq_true, Nat.blt_eq, Nat.beq_eq] at h
      omega
    rw [cond_true, Nat.add_mul, Nat.mul_comm q D]; omega
theorem rq_near {fb A B : Nat} (hB : 0 < B) : rq fb A B * B * 2 ^ (fb + 1) ≤ A * 2 ^ (fb + 1) + (A + B * 2 ^ fb) ∧ A * 2 ^ (fb + 1) ≤ rq fb A B * B * 2 ^ (fb + 1) + (A + B * 2 ^ fb) := by
  have hp := Nat.two_pow_pos (rqS fb A B)
  have hD : 0 < B * 2 ^ rqS fb A B := Nat.mul_pos hB hp
  obtain ⟨h1, h2⟩ := rqN_near (A := A) hD
  have e : rq fb A B * B = rqN A (B * 2 ^ rqS fb A B) * (B * 2 ^ rqS fb A B) := by
    unfold rq
    rw [Nat.mul_assoc, Nat.mul_comm (2 ^ rqS fb A B) B]
  rw [e]
  have h3 : B * 2 ^ rqS fb A B * 2 ^ fb ≤ A + B * 2 ^ fb := by
    rcases Nat.eq_zero_or_pos (rqS fb A B) with h | h
    · rw [h, Nat.pow_zero, Nat.mul_one]; omega
    · have := rqS_lo h
      have := (Nat.le_div_iff_mul_le hD).1 this
      rw [Nat.mul_comm] at this
      omega
  generalize rqN A (B * 2 ^ rqS fb A B) * (B * 2 ^ rqS fb A B) = N at *
  generalize B * 2 ^ rqS fb A B = D at *
  rw [Nat.pow_succ]
  have a1 := Nat.mul_le_mul_right (2 ^ fb) h1
  have a2 := Nat.mul_le_mul_right (2 ^ fb) h2
  rw [Nat.add_mul] at a1 a2
  have e1 : N * (2 ^ fb * 2) = 2 * N * 2 ^ fb := by rw [Nat.mul_comm (2 ^ fb) 2, ← Nat.mul_assoc, Nat.mul_comm N 2]
  have e2 : A * (2 ^ fb * 2) = 2 * A * 2 ^ fb := by rw [Nat.mul_comm (2 ^ fb) 2, ← Nat.mul_assoc, Nat.mul_comm A 2]
  rw [e1, e2]
  omega
def ur (k : FloatKind) : Rat := 1 / ((2 ^ (fbK k + 1) : Nat) : Rat)
def hf : Rat := 1 / 2
theorem hf2 : hf + hf = 1 := by decide +kernel
def unit (k : FloatKind) : Rat := ((2 ^ scK k : Nat) : Rat)
def tiny (k : FloatKind) : Rat := 1 / (2 * unit k)
theorem unit_pos (k : FloatKind) : 0 < unit k := Rat.natCast_pos.2 (Nat.two_pow_pos _)
theorem ur_pos (k : FloatKind) : 0 < ur k := by
  unfold ur
  rw [Rat.lt_div_iff (Rat.natCast_pos.2 (Nat.two_pow_pos _)), Rat.zero_mul]; decide
theorem tiny_unit (k : FloatKind) : tiny k * unit k = hf := by
  unfold tiny
  have := unit_pos k
  have h : (2 * unit k) ≠ 0 := by grind
  have := Rat.div_mul_cancel (a := 1) h
  have := hf2
  grind
theorem tiny_pos (k : FloatKind) : 0 < tiny k := by
  have h1 := unit_pos k
  have h2 := tiny_unit k
  by_cases h : 0 < tiny k
  · exact h
  · have := Rat.mul_le_mul_of_nonneg_right (show tiny k ≤ 0 by grind) (show 0 ≤ unit k by grind)
    have := hf2
    grind
def Val (k : FloatKind) (w : Nat) (q : Rat) : Prop := ∃ n : Int, Fin k w n ∧ (n : Rat) = q * unit k
theorem Val.unique {k : FloatKind} {w : Nat} {a b : Rat} (h : Val k w a) (h' : Val k w b) : a = b := by
  obtain ⟨n, h1, h2⟩ := h
  obtain ⟨m, h3, h4⟩ := h'
  rw [h1.unique h3, h4] at h2
  have := unit_pos k
  have h5 : (a - b) * unit k = 0 := by grind
  rcases Rat.mul_eq_zero.1 h5 with h | h <;> grind
theorem Fin.val {k : FloatKind} {w : Nat} {n : Int} (h : Fin k w n) : Val k w ((n : Rat) / unit k) := ⟨n, h, by
  have := unit_pos k
  rw [Rat.div_mul_cancel (by grind)]⟩
theorem rI_near {k : FloatKind} {z : Int} {D : Nat} {x X : Rat} (hD : 0 < D) (hx : x * (D : Rat) = (z : Rat)) (hX : Near x X) : Near ((rI k z D : Rat) - x) (X * ur k + hf) := by
  have hd : (0 : Rat) < (D : Rat) := Rat.natCast_pos.2 hD
  obtain ⟨h1, h2⟩ := rq_near (fb := fbK k) (A := z.natAbs) hD
  have h1 := Rat.natCast_le_natCast.2 h1
  have h2 := Rat.natCast_le_natCast.2 h2
  simp only [Rat.natCast_mul, Rat.natCast_add] at h1 h2
  have hP : (0 : Rat) < ((2 ^ fbK k : Nat) : Rat) := Rat.natCast_pos.2 (Nat.two_pow_pos _)
  have hP1 : ((2 ^ (fbK k + 1) : Nat) : Rat) = 2 * ((2 ^ fbK k : Nat) : Rat) := by
    rw [Nat.pow_succ', Rat.natCast_mul]; rfl
  have hu : ur k * (2 * ((2 ^ fbK k : Nat) : Rat)) = 1 := by
    unfold ur
    rw [hP1, Rat.div_mul_cancel (by grind)]
  rw [hP1] at h1 h2
  have hh := hf2
  have main : ∀ y : Rat, y * (D : Rat) = (z.natAbs : Rat) → y ≤ X → Near ((rq (fbK k) z.natAbs D : Rat) - y) (X * ur k + hf) := fun y hy hyX => by
    rw [← hy] at h1 h2
    generalize (rq (fbK k) z.natAbs D : Rat) = r at *
    generalize ((2 ^ fbK k : Nat) : Rat) = P at *
    generalize (D : Rat) = d at *
    have hX0 := hX.nonneg
    have a1 : (d * P) * (2 * r) ≤ (d * P) * (2 * y + y * (ur k * 2) + 1) := by
      have : y * d = y * d * (ur k * (2 * P)) := by rw [hu, Rat.mul_one]
      grind
    have a2 : (d * P) * (2 * y) ≤ (d * P) * (2 * r + y * (ur k * 2) + 1) := by
      have : y * d = y * d * (ur k * (2 * P)) := by rw [hu, Rat.mul_one]
      grind
    have hdP := Rat.mul_pos hd hP
    have a1 := Rat.le_of_mul_le_mul_left a1 hdP
    have a2 := Rat.le_of_mul_le_mul_left a2 hdP
    have hur := ur_pos k
    have := Rat.mul_le_mul_of_nonneg_right hyX (Rat.le_of_lt hur)
    unfold Near
    constructor <;> grind
  unfold Near at hX
  by_cases hz : z < 0
  · have hn : (z.natAbs : Rat) = -(z : Rat) := by
      have e : (z.natAbs : Int) = -z := by omega
      rw [← Rat.intCast_natCast, e, Rat.intCast_neg]
    have := main (-x) (by rw [hn]; grind) (by grind)
    unfold rI sg
    rw [decide_eq_true hz, if_pos rfl, Rat.intCast_neg, Rat.intCast_natCast]
    unfold Near at *
    constructor <;> grind
  · have hn : (z.natAbs : Rat) = (z : Rat) := by
      have e : (z.natAbs : Int) = z := by omega
      rw [← Rat.intCast_natCast, e]
    have := main x (by rw [hn]; grind) (by grind)
    unfold rI sg
    rw [decide_eq_false hz, if_neg (by decide), Rat.intCast_natCast]
    exact this
def most : Rat := 2 ^ 100
theorem lim_most (k : FloatKind) : most * 2 * unit k + 1 ≤ ((limK k : Nat) : Rat) := by cases k <;> decide +kernel
theorem ur_half (k : FloatKind) : ur k ≤ hf := by cases k <;> decide +kernel
theorem rI_lim {k : FloatKind} {z : Int} {D : Nat} {x X : Rat} (hD : 0 < D) (hx : x * (D : Rat) = (z : Rat)) (hX : Near x (X * unit k)) (hm : X ≤ most) : (rI k z D).natAbs < limK k := by
  have h := rI_near (k := k) hD hx hX
  have hu := unit_pos k
  have h0 := hX.nonneg
  have h1 := lim_most k
  have h2 := ur_half k
  have h4 := Rat.mul_le_mul_of_nonneg_left h2 h0
  have h5 := Rat.mul_le_mul_of_nonneg_right hm (Rat.le_of_lt hu)
  have hh := hf2
  have h6 : (0 : Rat) ≤ most := by decide
  have h7 := Rat.mul_nonneg h6 (Rat.le_of_lt hu)
  have h8 : X * unit k * hf + X * unit k * hf = X * unit k := by rw [← Rat.mul_add, hh, Rat.mul_one]
  unfold Near at *
  have k1 : (rI k z D : Rat) < ((limK k : Nat) : Rat) := by grind
  have k2 : -((limK k : Nat) : Rat) < (rI k z D : Rat) := by grind
  rw [← Rat.intCast_natCast] at k1 k2
  rw [← Rat.intCast_neg] at k2
  have k1 := Rat.intCast_lt_intCast.1 k1
  have k2 := Rat.intCast_lt_intCast.1 k2
  omega
theorem rI_val {k : FloatKind} {w : Nat} {z : Int} {D : Nat} {x X : Rat} (hD : 0 < D) (hx : x * unit k * (D : Rat) = (z : Rat)) (hX : Near x X) (hm : X ≤ most) (h : (rI k z D).natAbs < limK k → Fin k w (rI k z D)) : ∃ c, Val k w c ∧ Near (c - x) (X * ur k + tiny k) := by
  have hu := unit_pos k
  have hXu : Near (x * unit k) (X * unit k) := by
    unfold Near at *
    have := Rat.mul_le_mul_of_nonneg_right hX.1 (Rat.le_of_lt hu)
    have := Rat.mul_le_mul_of_nonneg_right hX.2 (Rat.le_of_lt hu)
    grind
  refine ⟨_, (h (rI_lim hD hx hXu hm)).val, ?_⟩
  have hn := rI_near (k := k) hD hx hXu
  have ht := tiny_unit k
  have hh := hf2
  have hc : (rI k z D : Rat) / unit k * unit k = (rI k z D : Rat) := Rat.div_mul_cancel (by grind)
  generalize (rI k z D : Rat) / unit k = c at *
  rw [← hc] at hn
  unfold Near at *
  constructor
  · refine Rat.le_of_mul_le_mul_right (c := unit k) ?_ hu; grind
  · refine Rat.le_of_mul_le_mul_right (c := unit k) ?_ hu; grind
theorem Val.add {k : FloatKind} {x y : Nat} {a b X : Rat} (hx : Val k x a) (hy : Val k y b) (hX : Near (a + b) X) (hm : X ≤ most) : ∃ c, Val k (fop .add k x y) c ∧ Near (c - (a + b)) (X * ur k + tiny k) := by
  obtain ⟨n, h1, h2⟩ := hx
  obtain ⟨m, h3, h4⟩ := hy
  exact rI_val (z := n + m) (D := 1) (by omega) (by rw [Rat.intCast_add, h2, h4]; grind) hX hm (Fin.add h1 h3)
theorem Val.sub {k : FloatKind} {x y : Nat} {a b X : Rat} (hx : Val k x a) (hy : Val k y b) (hX : Near (a - b) X) (hm : X ≤ most) : ∃ c, Val k (fop .sub k x y) c ∧ Near (c - (a - b)) (X * ur k + tiny k) := by
  obtain ⟨n, h1, h2⟩ := hx
  obtain ⟨m, h3, h4⟩ := hy
  exact rI_val (z := n - m) (D := 1) (by omega) (by rw [Rat.intCast_sub, h2, h4]; grind) hX hm (Fin.sub h1 h3)
theorem Val.mul {k : FloatKind} {x y : Nat} {a b X : Rat} (hx : Val k x a) (hy : Val k y b) (hX : Near (a * b) X) (hm : X ≤ most) : ∃ c, Val k (fop .mul k x y) c ∧ Near (c - (a * b)) (X * ur k + tiny k) := by
  obtain ⟨n, h1, h2⟩ := hx
  obtain ⟨m, h3, h4⟩ := hy
  exact rI_val (z := n * m) (D := 2 ^ scK k) (Nat.two_pow_pos _) (by rw [Rat.intCast_mul, h2, h4]; show a * b * unit k * unit k = _; grind) hX hm (Fin.mul h1 h3)
theorem Val.neg {k : FloatKind} {x : Nat} {a : Rat} (hx : Val k x a) : Val k (fneg k x) (-a) := by
  obtain ⟨n, h1, h2⟩ := hx
  exact ⟨-n, h1.neg, by rw [Rat.intCast_neg, h2]; grind⟩
end Go.Fw

/-
  Roots, widening and narrowing as fractions.
-/
namespace Go.Fw
theorem sc_add : scK .f64 = scK .f32 + scD := by rw [scD_eq]; rfl
theorem unit_64 : unit .f64 = unit .f32 * ((2 ^ scD : Nat) : Rat) := by
  unfold unit
  rw [← Rat.natCast_mul, ← Nat.pow_add, sc_add]
theorem Val.widen {x : Nat} {a : Rat} (hx : Val .f32 x a) : Val .f64 (fcvt .f32 .f64 x) a := by
  obtain ⟨n, h1, h2⟩ := hx
  refine ⟨_, Fin.widen scD_eq h1, ?_⟩
  rw [Rat.intCast_mul, h2, Rat.intCast_natCast]
  rw [unit_64]
  grind
theorem Val.narrow {x : Nat} {a X : Rat} (hx : Val .f64 x a) (hX : Near a X) (hm : X ≤ most) : (∃ c, Val .f32 (fcvt .f64 .f32 x) c ∧ Near (c - a) (X * ur .f32 + tiny .f32)) ∧ fcvtOk .f64 .f32 x = true := by
  obtain ⟨n, h1, h2⟩ := hx
  have e := unit_64
  have hz : a * unit .f32 * ((2 ^ scD : Nat) : Rat) = (n : Rat) := by rw [h2, e]; grind
  refine ⟨rI_val (Nat.two_pow_pos _) hz hX hm fun hl => (Fin.narrow scD_eq h1 hl).1, (Fin.narrow scD_eq h1 ?_).2⟩
  refine rI_lim (Nat.two_pow_pos _) hz ?_ hm
  unfold Near at *
  have hu := unit_pos .f32
  have := Rat.mul_le_mul_of_nonneg_right hX.1 (Rat.le_of_lt hu)
  have := Rat.mul_le_mul_of_nonneg_right hX.2 (Rat.le_of_lt hu)
  grind
def e53 : Rat := 1 / 9007199254740992
theorem e53_pos : 0 < e53 := by decide +kernel
theorem e53_small : e53 * 1024 ≤ 1 := by decide +kernel
theorem sq_mono {a b : Rat} (h : 0 ≤ a) (h' : a ≤ b) : a * a ≤ b * b := by
  have h1 := Rat.mul_le_mul_of_nonneg_right h' h
  have h2 := Rat.mul_le_mul_of_nonneg_left h' (Rat.le_trans h h')
  exact Rat.le_trans h1 h2
theorem root_core {r S X e : Rat} (he : 0 < e) (hs : e * 1024 ≤ 1) (hS : 1 ≤ S * e) (h1 : S * S ≤ X) (h2 : X ≤ (S + 1) * (S + 1)) (h3 : r ≤ S * (1 + e) + 2) (h4 : S * (1 - e) - 1 ≤ r) (hS0 : 0 < S) : Near (r * r - X) (X * (8 * e)) := by
  have a1 : r ≤ S * (1 + 3 * e) := by grind
  have a2 : S * (1 - 2 * e) ≤ r := by grind
  have hSe := Rat.mul_pos hS0 he
  have hS2e : 2 * e ≤ 1 := by grind
  have hlow : 0 ≤ S * (1 - 2 * e) := Rat.mul_nonneg (Rat.le_of_lt hS0) (by grind)
  have a3 := sq_mono (Rat.le_trans hlow a2) a1
  have a4 := sq_mono hlow a2
  have hSS := Rat.mul_pos hS0 hS0
  have hSSe := Rat.mul_pos hSS he
  have ee : (S * S * e) * (e * 1024) ≤ (S * S * e) * 1 := Rat.mul_le_mul_of_nonneg_left hs (Rat.le_of_lt hSSe)
  have b1 : r * r ≤ S * S + 7 * (S * S * e) := by grind
  have b2 : S * S - 4 * (S * S * e) ≤ r * r := by
    have : 0 ≤ S * S * e * e := Rat.le_of_lt (Rat.mul_pos hSSe he)
    grind
  have hXe : S * S * e ≤ X * e := Rat.mul_le_mul_of_nonneg_right h1 (Rat.le_of_lt he)
  have c1 : X ≤ S * S + 3 * (S * S * e) := by
    have k1 : S ≤ S * S * e := by
      have := Rat.mul_le_mul_of_nonneg_left hS (Rat.le_of_lt hS0)
      grind
    have k2 : 1 ≤ S := by
      have : S * e * 1024 ≤ S := by
        have := Rat.mul_le_mul_of_nonneg_left hs (Rat.le_of_lt hS0)
        grind
      grind
    grind
  unfold Near
  constructor <;> grind
theorem Val.root64 {x : Nat} {a : Rat} (hx : Val .f64 x a) (h0 : a = 0 ∨ (1 : Rat) / 2 ^ 200 ≤ a) : ∃ s, Val .f64 (fsqrt x) s ∧ 0 ≤ s ∧ Near (s * s - a) (a * (8 * e53)) := by
  obtain ⟨n, h1, h2⟩ := hx
  have hu := unit_pos .f64
  rcases h0 with h0 | h0
  · subst h0
    rw [Rat.zero_mul] at h2
    have hn : n = 0 := Rat.intCast_eq_zero_iff.1 h2
    subst hn
    have h0 := Fin.sqrt (x := x) (n := 0) (X := 0) (S := 0) h1 (by rw [Nat.zero_mul]) (by omega) (by omega)
    have e0 : (rq 52 (2 * 0 + (0 * 0 != 0).toNat) 2 : Nat) = 0 := rq_zero _ _
    rw [e0] at h0
    exact ⟨0, ⟨0, h0, by rw [Rat.zero_mul]; rfl⟩, by decide, by unfold Near; constructor <;> grind⟩
  · have hpos : (0 : Rat) < (n : Rat) := by
      rw [h2]
      exact Rat.mul_pos (by have : (0 : Rat) < 1 / 2 ^ 200 := by decide +kernel
                            grind) hu
    have hn0 : 0 < n := Rat.intCast_pos.1 hpos
    obtain ⟨m, rfl⟩ : ∃ m : Nat, n = (m : Int) := ⟨n.toNat, (Int.toNat_of_nonneg (by omega)).symm⟩
    obtain ⟨S, hS, hS'⟩ := exists_root (m * 2 ^ scK .f64)
    have hq := Fin.sqrt h1 rfl hS hS'
    generalize hd : (S * S != m * 2 ^ scK .f64).toNat = d at hq
    have hd1 : d ≤ 1 := by rw [← hd]; cases (S * S != m * 2 ^ scK .f64) <;> decide
    obtain ⟨q1, q2⟩ := rq_near (fb := 52) (A := 2 * S + d) (B := 2) (by omega)
    generalize rq 52 (2 * S + d) 2 = r at *
    have hXr : ((m * 2 ^ scK .f64 : Nat) : Rat) = a * unit .f64 * unit .f64 := by
      rw [Rat.natCast_mul, ← Rat.intCast_natCast m, h2]; rfl
    have big : (2 : Rat) ^ 120 ≤ (S : Rat) := by
      by_cases hb : (2 : Rat) ^ 120 ≤ (S : Rat)
      · exact hb
      · exfalso
        have hlt : (S : Rat) < 2 ^ 120 := by grind
        have hlt' : S < 2 ^ 120 := by
          have : (S : Rat) < ((2 ^ 120 : Nat) : Rat) := by
            rw [show ((2 ^ 120 : Nat) : Rat) = 2 ^ 120 by decide +kernel]; exact hlt
          exact Rat.natCast_lt_natCast.1 this
        have : (S + 1) * (S + 1) ≤ 2 ^ 120 * 2 ^ 120 := Nat.mul_le_mul hlt' hlt'
        have h5 : m * 2 ^ scK .f64 < 2 ^ 240 := Nat.lt_of_lt_of_le hS' (by rw [← Nat.pow_add] at this; exact this)
        have h6 := Rat.natCast_lt_natCast.2 h5
        rw [hXr] at h6
        have k1 := Rat.mul_le_mul_of_nonneg_right h0 (Rat.le_of_lt (Rat.mul_pos hu hu))
        have k2 : ((2 ^ 240 : Nat) : Rat) ≤ 1 / 2 ^ 200 * (unit .f64 * unit .f64) := by decide +kernel
        grind
    have hS0 : (0 : Rat) < (S : Rat) := by
      have : (0 : Rat) < 2 ^ 120 := by decide +kernel
      grind
    have core : Near ((r : Rat) * r - ((m * 2 ^ scK .f64 : Nat) : Rat)) (((m * 2 ^ scK .f64 : Nat) : Rat) * (8 * e53)) := by
      refine root_core (S := (S : Rat)) e53_pos e53_small ?_ ?_ ?_ ?_ ?_ hS0
      · have := Rat.mul_le_mul_of_nonneg_right big (Rat.le_of_lt e53_pos)
        have k : (1 : Rat) ≤ 2 ^ 120 * e53 := by decide +kernel
        grind
      · have := Rat.natCast_le_natCast.2 hS
        rw [Rat.natCast_mul] at this
        exact this
      · have := Rat.natCast_le_natCast.2 (Nat.le_of_lt hS')
        rw [Rat.natCast_mul (S + 1), Rat.natCast_add] at this
        exact this
      · have q1 := Rat.natCast_le_natCast.2 q1
        have hdr := Rat.natCast_le_natCast.2 hd1
        simp only [Rat.natCast_mul, Rat.natCast_add] at q1
        have p1 : ((2 ^ (52 + 1) : Nat) : Rat) * e53 = 1 := by decide +kernel
        have p2 : ((2 ^ 52 : Nat) : Rat) * e53 = hf := by decide +kernel
        have hh := hf2
        have k1 := Rat.mul_le_mul_of_nonneg_right q1 (Rat.le_of_lt e53_pos)
        have d0 : (0 : Rat) ≤ (d : Rat) := Rat.natCast_nonneg
        have l1 : ((2 : Nat) : Rat) = 2 := rfl
        have l2 : ((1 : Nat) : Rat) = 1 := rfl
        rw [l1] at k1
        rw [l2] at hdr
        generalize ((2 ^ (52 + 1) : Nat) : Rat) = P at *
        generalize ((2 ^ 52 : Nat) : Rat) = Q at *
        have es := e53_small
        have ep := e53_pos
        have g1 : (r : Rat) * 2 * P * e53 = (r : Rat) * 2 := by rw [Rat.mul_assoc, p1, Rat.mul_one]
        have g2 : (2 * (S : Rat) + (d : Rat)) * P * e53 = 2 * (S : Rat) + (d : Rat) := by rw [Rat.mul_assoc, p1, Rat.mul_one]
        have g3 : 2 * Q * e53 = 1 := by rw [Rat.mul_assoc, p2]; grind
        have g4 : (d : Rat) * e53 ≤ 1 * e53 := Rat.mul_le_mul_of_nonneg_right hdr (Rat.le_of_lt ep)
        grind
      · have q2 := Rat.natCast_le_natCast.2 q2
        have hdr := Rat.natCast_le_natCast.2 hd1
        simp only [Rat.natCast_mul, Rat.natCast_add] at q2
        have p1 : ((2 ^ (52 + 1) : Nat) : Rat) * e53 = 1 := by decide +kernel
        have p2 : ((2 ^ 52 : Nat) : Rat) * e53 = hf := by decide +kernel
        have hh := hf2
        have k1 := Rat.mul_le_mul_of_nonneg_right q2 (Rat.le_of_lt e53_pos)
        have d0 : (0 : Rat) ≤ (d : Rat) := Rat.natCast_nonneg
        have l1 : ((2 : Nat) : Rat) = 2 := rfl
        have l2 : ((1 : Nat) : Rat) = 1 := rfl
        rw [l1] at k1
        rw [l2] at hdr
        generalize ((2 ^ (52 + 1) : Nat) : Rat) = P at *
        generalize ((2 ^ 52 : Nat) : Rat) = Q at *
        have es := e53_small
        have ep := e53_pos
        have g1 : (r : Rat) * 2 * P * e53 = (r : Rat) * 2 := by rw [Rat.mul_assoc, p1, Rat.mul_one]
        have g2 : (2 * (S : Rat) + (d : Rat)) * P * e53 = 2 * (S : Rat) + (d : Rat) := by rw [Rat.mul_assoc, p1, Rat.mul_one]
        have g3 : 2 * Q * e53 = 1 := by rw [Rat.mul_assoc, p2]; grind
        have g4 : (d : Rat) * e53 ≤ 1 * e53 := Rat.mul_le_mul_of_nonneg_right hdr (Rat.le_of_lt ep)
        grind
    refine ⟨_, hq.val, ?_, ?_⟩
    · rw [Rat.intCast_natCast]
      refine Rat.le_of_mul_le_mul_right (c := unit .f64) ?_ hu
      rw [Rat.div_mul_cancel (by grind), Rat.zero_mul]
      exact Rat.natCast_nonneg
    · rw [Rat.intCast_natCast]
      have hc : (r : Rat) / unit .f64 * unit .f64 = (r : Rat) := Rat.div_mul_cancel (by grind)
      generalize (r : Rat) / unit .f64 = c at *
      rw [hXr, ← hc] at core
      have huu := Rat.mul_pos hu hu
      unfold Near at *
      constructor
      · refine Rat.le_of_mul_le_mul_right (c := unit .f64 * unit .f64) ?_ huu; grind
      · refine Rat.le_of_mul_le_mul_right (c := unit .f64 * unit .f64) ?_ huu; grind
end Go.Fw

/-
  32-bit numbers near exact fractions: bounds in parts of 2 ^ 60, which the kernel computes.
-/
namespace Go.Fw
def e22 : Rat := 1 / 4194304
theorem e22_pos : 0 < e22 := by decide +kernel
theorem ur32 : ur .f32 * 4 = e22 := by decide +kernel
theorem val_pos {w : Nat} {a : Rat} (h : Val .f32 w a) (h0 : 0 < a) : (1 : Rat) / 2 ^ 149 ≤ a := by
  obtain ⟨n, _, h2⟩ := h
  have hu := unit_pos .f32
  have : (0 : Rat) < (n : Rat) := by rw [h2]; exact Rat.mul_pos h0 hu
  have hn := Rat.intCast_pos.1 this
  have h1 : ((1 : Int) : Rat) ≤ (n : Rat) := Rat.intCast_le_intCast.2 hn
  rw [h2] at h1
  refine Rat.le_of_mul_le_mul_right (c := unit .f32) ?_ hu
  have e : (1 : Rat) / 2 ^ 149 * unit .f32 = ((1 : Int) : Rat) := by decide +kernel
  rw [e]; exact h1
theorem lt_of_sq {a b : Rat} (hb : 0 ≤ b) (h : a * a < b * b) : a < b := by
  by_cases h' : a < b
  · exact h'
  · have := sq_mono hb (show b ≤ a by grind)
    grind
theorem le_of_sq {a b : Rat} (hb : 0 ≤ b) (h : a * a ≤ b * b) : a ≤ b := by
  by_cases h' : a ≤ b
  · exact h'
  · have h1 : b < a := by grind
    have h2 := Rat.mul_lt_mul_of_pos_right h1 (show 0 < a by grind)
    have h3 := Rat.mul_le_mul_of_nonneg_left (Rat.le_of_lt h1) hb
    grind
theorem root_nar {a t c u y e : Rat} (ha : 0 < a) (ht : 0 < t) (hu : 0 < u) (he : 4 * u = e) (hs : e * 1024 ≤ 1) (hy : y ≤ t * (u * (1 / 64))) (hy0 : 0 < y) (h1 : Near (t * t - a) (a * (e * (1 / 64)))) (h2 : Near (c - t) (t * u + y)) : Near (c * c - a) (a * e) := by
  have q : (1 / 64 : Rat) * 64 = 1 := by decide +kernel
  have q0 : (0 : Rat) < 1 / 64 := by decide +kernel
  generalize (1 / 64 : Rat) = k at *
  have htu := Rat.mul_pos ht hu
  have hk1 : 64 * y ≤ t * u := by
    have : t * (u * k) * 64 = t * u * (k * 64) := by grind
    rw [q, Rat.mul_one] at this
    grind
  have a1 : c ≤ t + t * u + y := by unfold Near at h2; grind
  have a2 : t - t * u - y ≤ c := by unfold Near at h2; grind
  have hlow : 0 ≤ t - t * u - y := by
    have : t * (e * 1024) ≤ t * 1 := Rat.mul_le_mul_of_nonneg_left hs (Rat.le_of_lt ht)
    subst he
    grind
  have b1 := sq_mono (Rat.le_trans hlow a2) a1
  have b2 := sq_mono hlow a2
  have htt := Rat.mul_pos ht ht
  have httu := Rat.mul_pos htt hu
  have m1 : t * (64 * y) ≤ t * (t * u) := Rat.mul_le_mul_of_nonneg_left hk1 (Rat.le_of_lt ht)
  have m2 : (t * u) * (64 * y) ≤ (t * u) * (t * u) := Rat.mul_le_mul_of_nonneg_left hk1 (Rat.le_of_lt htu)
  have m3 : (64 * y) * (64 * y) ≤ (t * u) * (t * u) := sq_mono (by grind) hk1
  have m4 : (t * t * u) * (e * 1024) ≤ (t * t * u) * 1 := Rat.mul_le_mul_of_nonneg_left hs (Rat.le_of_lt httu)
  have c1 : c * c ≤ t * t + (t * t * u) * 3 := by subst he; grind
  have c2 : t * t - (t * t * u) * 3 ≤ c * c := by
    have : 0 ≤ (t * u + y) * (t * u + y) := Rat.mul_nonneg (by grind) (by grind)
    subst he; grind
  unfold Near at h1
  have hae := Rat.mul_pos ha (show 0 < e by grind)
  have n1 : a * (e * k) * 64 = a * e := by
    have : a * (e * k) * 64 = a * e * (k * 64) := by grind
    rw [this, q, Rat.mul_one]
  have n2 : t * t * u ≤ (a + a * (e * k)) * u := Rat.mul_le_mul_of_nonneg_right (by grind) (Rat.le_of_lt hu)
  have n3 : a * (e * k) * u * 64 = a * e * u := by
    have : a * (e * k) * u * 64 = a * e * u * (k * 64) := by grind
    rw [this, q, Rat.mul_one]
  have n4 : (a * e) * u * 4096 ≤ (a * e) * 1 := by
    have : (a * e) * (e * 1024) ≤ (a * e) * 1 := Rat.mul_le_mul_of_nonneg_left hs (Rat.le_of_lt hae)
    subst he; grind
  unfold Near
  constructor <;> (subst he; grind)
theorem Val.root {x : Nat} {a : Rat} (hx : Val .f32 x a) (h0 : 0 ≤ a) (hm : a ≤ most) : ∃ s, Val .f32 (fcvt .f64 .f32 (fsqrt (fcvt .f32 .f64 x))) s ∧ 0 ≤ s ∧ Near (s * s - a) (a * e22) ∧ fcvtOk .f64 .f32 (fsqrt (fcvt .f32 .f64 x)) = true := by
  have hw := hx.widen
  by_cases hz : a = 0
  · subst hz
    obtain ⟨t, h1, h2, h3⟩ := hw.root64 (.inl rfl)
    have ht : t * t = 0 := by unfold Near at h3; grind
    have ht : t = 0 := by rcases Rat.mul_eq_zero.1 ht with h | h <;> exact h
    subst ht
    obtain ⟨⟨c, h4, h5⟩, h6⟩ := h1.narrow (X := 0) (by unfold Near; grind) (by decide +kernel)
    have hn : c = 0 := by
      by_cases hc : 0 < c
      · have := val_pos h4 hc
        have h7 : tiny .f32 < 1 / 2 ^ 149 := by decide +kernel
        unfold Near at h5; grind
      · by_cases hc : 0 < -c
        · have := val_pos h4.neg hc
          have h7 : tiny .f32 < 1 / 2 ^ 149 := by decide +kernel
          unfold Near at h5; grind
        · grind
    subst hn
    exact ⟨0, h4, by decide, by unfold Near; grind, h6⟩
  · have hp : 0 < a := by grind
    have hl := val_pos hx hp
    obtain ⟨t, h1, h2, h3⟩ := hw.root64 (.inr (by
      have : (1 : Rat) / 2 ^ 200 ≤ 1 / 2 ^ 149 := by decide +kernel
      grind))
    have es : e53 * 16 ≤ 1 := by decide +kernel
    have hae := Rat.mul_le_mul_of_nonneg_left es h0
    have hlow : (1 : Rat) / 2 ^ 76 < t := by
      refine lt_of_sq h2 ?_
      have k : (1 : Rat) / 2 ^ 76 * (1 / 2 ^ 76) * 4 ≤ 1 / 2 ^ 149 := by decide +kernel
      have : (0 : Rat) < 1 / 2 ^ 149 := by decide +kernel
      unfold Near at h3; grind
    have ht : 0 < t := by
      have : (0 : Rat) < 1 / 2 ^ 76 := by decide +kernel
      grind
    have hhi : t ≤ most := by
      refine le_of_sq (by decide +kernel) ?_
      have k : most * 2 ≤ most * most := by decide +kernel
      unfold Near at h3; grind
    obtain ⟨⟨c, h4, h5⟩, h6⟩ := h1.narrow (X := t) (by unfold Near; grind) hhi
    have hurp := ur_pos .f32
    have hy : tiny .f32 ≤ t * (ur .f32 * (1 / 64)) := by
      have k1 : tiny .f32 ≤ 1 / 2 ^ 76 * (ur .f32 * (1 / 64)) := by decide +kernel
      have k2 : (0 : Rat) ≤ ur .f32 * (1 / 64) := by decide +kernel
      have := Rat.mul_le_mul_of_nonneg_right (Rat.le_of_lt hlow) k2
      grind
    have hc0 : 0 ≤ c := by
      have k1 : ur .f32 * 4 ≤ 1 := by decide +kernel
      have k3 : ur .f32 * (1 / 64) * 4 ≤ 1 := by decide +kernel
      have := Rat.mul_le_mul_of_nonneg_left k1 (Rat.le_of_lt ht)
      have := Rat.mul_le_mul_of_nonneg_left k3 (Rat.le_of_lt ht)
      unfold Near at h5; grind
    refine ⟨c, h4, hc0, root_nar hp ht hurp (by rw [Rat.mul_comm]; exact ur32) (by decide +kernel) hy (tiny_pos _) ?_ h5, h6⟩
    refine h3.mono ?_
    have k : 8 * e53 ≤ e22 * (1 / 64) := by decide +kernel
    exact Rat.mul_le_mul_of_nonneg_left k h0
end Go.Fw

/-
  Quarters: numbers that are exact; words told by their values.
-/
namespace Go.Fw
noncomputable def isV (k : FloatKind) (v : V) (q : Rat) : Bool := vgood v && decide (((sg (vlow v) (vmag v) : Int) : Rat) = q * unit k)
theorem Val.of_rep {k : FloatKind} {w : Nat} {v : V} {q : Rat} (hr : Rep k w v) (h : isV k v q = true) : Val k w q := by
  unfold isV at h
  simp only [Bool.and_eq_true, decide_eq_true_eq] at h
  exact ⟨_, rep_val hr h.1, h.2⟩
theorem Val.of_vof {k : FloatKind} {w : Nat} {q : Rat} (h : isV k (vof k w) q = true) : Val k w q := .of_rep (rep_of k w) h
def Qt (w : Nat) (z : Int) : Prop := Val .f32 w ((z : Rat) * (1 / 4))
theorem forder_lt {k : FloatKind} {x y : Nat} {a b : Rat} (hx : Val k x a) (hy : Val k y b) (h : a < b) : forder k x y = some .lt := by
  obtain ⟨n, h1, h2⟩ := hx
  obtain ⟨m, h3, h4⟩ := hy
  rw [Fin.order h1 h3]
  have : (n : Rat) < (m : Rat) := by rw [h2, h4]; exact Rat.mul_lt_mul_of_pos_right h (unit_pos k)
  have := Rat.intCast_lt_intCast.1 this
  show some (compareOfLessAndEq _ _) = _
  unfold compareOfLessAndEq
  rw [if_pos this]
theorem forder_eq {k : FloatKind} {x y : Nat} {a : Rat} (hx : Val k x a) (hy : Val k y a) : forder k x y = some .eq := by
  obtain ⟨n, h1, h2⟩ := hx
  obtain ⟨m, h3, h4⟩ := hy
  rw [Fin.order h1 h3]
  have e : n = m := Rat.intCast_inj.1 (by rw [h2, h4])
  subst e
  show some (compareOfLessAndEq _ _) = _
  unfold compareOfLessAndEq
  rw [if_neg (Int.lt_irrefl _), if_pos rfl]
theorem forder_gt {k : FloatKind} {x y : Nat} {a b : Rat} (hx : Val k x a) (hy : Val k y b) (h : b < a) : forder k x y = some .gt := by
  obtain ⟨n, h1, h2⟩ := hx
  obtain ⟨m, h3, h4⟩ := hy
  rw [Fin.order h1 h3]
  have : (m : Rat) < (n : Rat) := by rw [h2, h4]; exact Rat.mul_lt_mul_of_pos_right h (unit_pos k)
  have := Rat.intCast_lt_intCast.1 this
  show some (compareOfLessAndEq _ _) = _
  unfold compareOfLessAndEq
  rw [if_neg (by omega), if_neg (by omega)]
theorem fmax_val {k : FloatKind} {x y : Nat} {a b : Rat} (hx : Val k x a) (hy : Val k y b) : Val k (fmax k x y) (if a ≤ b then b else a) := by
  unfold fmax
  by_cases h1 : a < b
  · rw [forder_lt hx hy h1, if_pos (Rat.le_of_lt h1)]; exact hy
  · by_cases h2 : b < a
    · rw [forder_gt hx hy h2, if_neg (by grind)]; exact hx
    · have e : a = b := by grind
      subst e
      rw [forder_eq hx hy, if_pos Rat.le_refl]
      simp only
      split <;> assumption
end Go.Fw

/-
  Quotients as fractions; numbers that are not below nought.
-/
namespace Go.Fw
theorem sign_natAbs (m : Int) : m.sign * m = (m.natAbs : Int) := by
  rcases Int.lt_trichotomy m 0 with h | h | h
  · rw [Int.sign_eq_neg_one_of_neg h]; omega
  · subst h; rfl
  · rw [Int.sign_eq_one_of_pos h]; omega
theorem Val.quo {k : FloatKind} {x y : Nat} {a b X : Rat} (hx : Val k x a) (hy : Val k y b) (hb : b ≠ 0) (hX : Near (a / b) X) (hm : X ≤ most) : ∃ c, Val k (fop .quo k x y) c ∧ Near (c - a / b) (X * ur k + tiny k) := by
  obtain ⟨n, h1, h2⟩ := hx
  obtain ⟨m, h3, h4⟩ := hy
  have hu := unit_pos k
  have hm0 : m ≠ 0 := fun e => by
    subst e
    have : b * unit k = 0 := by rw [← h4]; rfl
    rcases Rat.mul_eq_zero.1 this with h | h
    · exact hb h
    · grind
  have key : a / b * unit k * ((m.natAbs : Nat) : Rat) = ((n * m.sign * ((2 ^ scK k : Nat) : Int) : Int) : Rat) := by
    have e1 : ((m.natAbs : Nat) : Rat) = (m.sign : Rat) * (m : Rat) := by
      rw [← Rat.intCast_natCast, ← Rat.intCast_mul, sign_natAbs]
    rw [e1, Rat.intCast_mul, Rat.intCast_mul, Rat.intCast_natCast, h2, h4]
    have e2 : a / b * b = a := Rat.div_mul_cancel hb
    show a / b * unit k * ((m.sign : Rat) * (b * unit k)) = a * unit k * (m.sign : Rat) * unit k
    have : a / b * unit k * ((m.sign : Rat) * (b * unit k)) = (a / b * b) * unit k * (m.sign : Rat) * unit k := by grind
    rw [this, e2]
  exact rI_val (D := m.natAbs) (by omega) key hX hm (Fin.quo h1 h3 hm0)
theorem val_nonneg {w : Nat} {a : Rat} (h : Val .f32 w a) (h0 : -tiny .f32 ≤ a) : 0 ≤ a := by
  by_cases hc : 0 < -a
  · have := val_pos h.neg hc
    have h7 : tiny .f32 < 1 / 2 ^ 149 := by decide +kernel
    grind
  · grind
theorem ur32_small : ur .f32 * 1024 ≤ 1 := by decide +kernel
theorem ur_le_one {X : Rat} (h : 0 ≤ X) : X * ur .f32 ≤ X := by
  have := Rat.mul_le_mul_of_nonneg_left (show ur .f32 ≤ 1 by decide +kernel) h
  grind
theorem Val.sq {x : Nat} {a : Rat} (hx : Val .f32 x a) (hm : a * a ≤ most) : ∃ c, Val .f32 (fop .mul .f32 x x) c ∧ 0 ≤ c ∧ Near (c - a * a) (a * a * ur .f32 + tiny .f32) := by
  have h0 : 0 ≤ a * a := by
    by_cases h : 0 ≤ a
    · exact Rat.mul_nonneg h h
    · have := Rat.mul_nonneg (show 0 ≤ -a by grind) (show 0 ≤ -a by grind); grind
  obtain ⟨c, h1, h2⟩ := hx.mul hx (X := a * a) (by unfold Near; grind) hm
  refine ⟨c, h1, val_nonneg h1 ?_, h2⟩
  have := ur_le_one h0
  unfold Near at h2; grind
theorem Val.addp {x y : Nat} {a b : Rat} (hx : Val .f32 x a) (hy : Val .f32 y b) (ha : 0 ≤ a) (hb : 0 ≤ b) (hm : a + b ≤ most) : ∃ c, Val .f32 (fop .add .f32 x y) c ∧ 0 ≤ c ∧ Near (c - (a + b)) ((a + b) * ur .f32 + tiny .f32) := by
  have h0 : 0 ≤ a + b := by grind
  obtain ⟨c, h1, h2⟩ := hx.add hy (X := a + b) (by unfold Near; grind) hm
  refine ⟨c, h1, val_nonneg h1 ?_, h2⟩
  have := ur_le_one h0
  unfold Near at h2; grind
theorem sqn (t : Rat) : 0 ≤ t * t := by
  by_cases h : 0 ≤ t
  · exact Rat.mul_nonneg h h
  · have := Rat.mul_nonneg (show 0 ≤ -t by grind) (show 0 ≤ -t by grind); grind
def b1 : Nat := 1152921504606846976
end Go.Fw

/-
  The sine of turns, evaluated by the kernel.
-/
namespace Go.Fw
open Ieee (Datum Format Toward signed)
section
variable {f : Nat} {F : V} (h : Rep .f64 f F)
include h
end
noncomputable def vbeq (a b : V) : Bool := V.rec (V.rec true (fun _ _ _ => false) false b) (fun p m s => V.rec false (fun q n t => and (Nat.beq m n) (and (Nat.beq s t) (Bool.rec (Bool.rec true false q) q p))) false b) (V.rec false (fun _ _ _ => false) true b) a
theorem vbeq_eq {a b : V} (h : vbeq a b = true) : a = b := by
  cases a <;> cases b <;> first | rfl | cases h | skip
  rename_i p m s q n t
  have h : (Nat.beq m n && (Nat.beq s t && (Bool.rec (Bool.rec true false q) q p : Bool))) = true := h
  rw [Bool.and_eq_true, Bool.and_eq_true] at h
  obtain ⟨h1, h2, h3⟩ := h
  rw [Nat.eq_of_beq_eq_true h1, Nat.eq_of_beq_eq_true h2]
  cases p <;> cases q <;> first | rfl | cases h3
end Go.Fw

/-
  What a segment makes, in proportion: quotients and products of numbers that are known but for a share.
-/
namespace Go.Fw
end Go.Fw

/-
  Inner products, cross products and lengths of vectors that are known nearly; what a segment makes, number by number.
-/
namespace Go.Fw
end Go.Fw

/-
  What a segment makes at a place, where both are turned around Z, nearly.
-/
namespace Go.Fw
def nabs (x : Rat) : Rat := if 0 ≤ x then x else -x
theorem nabs_pos (x : Rat) : 0 ≤ nabs x := by unfold nabs; split <;> grind
theorem nabs_sq (x : Rat) : nabs x * nabs x = x * x := by unfold nabs; split <;> grind
theorem nabs_near (x : Rat) : Near x (nabs x) := by unfold nabs Near; split <;> constructor <;> grind
def u17 : Rat := 17 * ur .f32
def uu (n : Rat) : Rat := n * ur .f32
structure Turned (C S r1 r2 r3 a b c : Rat) : Prop where
  h1 : Near (a - (C * r1 - S * r2)) u17
  h2 : Near (b - (S * r1 + C * r2)) u17
  h3 : c = r3
section
variable {C S : Rat} (hC : Near (C * C + S * S - 1) (2 * ur .f32))
include hC
variable {r1 r2 r3 a b c X : Rat} (hT : Turned C S r1 r2 r3 a b c)
include hT
end
end Go.Fw

/-
  What a segment makes at a place, where both are turned around Z, nearly: the numbers.
-/
namespace Go.Fw
section
variable {C S : Rat} (hC : Near (C * C + S * S - 1) (2 * ur .f32))
variable {r1 r2 r3 a b c X : Rat} (hT : Turned C S r1 r2 r3 a b c) (X1 : 149 / 100 ≤ X) (hX : Near (r1 * r1 + r2 * r2 + r3 * r3 - X * X) (uu 17 * (X * X)))
variable {s1 s2 s3 x y z Y : Rat} (hU : Turned C S s1 s2 s3 x y z) (Y1 : 149 / 100 ≤ Y) (hY : Near (s1 * s1 + s2 * s2 + s3 * s3 - Y * Y) (uu 17 * (Y * Y)))
include hX X1
include hC hT hU hY Y1
end
end Go.Fw

/-
  What a segment makes at a place, where both are turned around Z, nearly: all three numbers.
-/
namespace Go.Fw
noncomputable def inW (a b c x y z : Nat) : Nat := fop .add .f32 (fop .add .f32 (fop .mul .f32 a x) (fop .mul .f32 b y)) (fop .mul .f32 c z)
noncomputable def lgW (a b c : Nat) : Nat := fcvt .f64 .f32 (fsqrt (fcvt .f32 .f64 (inW a b c a b c)))
noncomputable def dW (a b c x y z : Nat) : Nat := fop .mul .f32 (fop .mul .f32 (lgW a b c) (lgW x y z)) (fop .add .f32 (fop .mul .f32 (lgW a b c) (lgW x y z)) (inW a b c x y z))
noncomputable def qW (a b c x y z : Nat) : Nat := fop .quo .f32 (fop .add .f32 (lgW a b c) (lgW x y z)) (dW a b c x y z)
end Go.Fw

/-
  What a segment of a ring makes at a place above it: bounds.
-/
namespace Go.Fw
end Go.Fw

/-
  Operations turned round: products and sums don't care, differences change their sign; sums of many; doubled numbers.
-/
namespace Go.Fw
open Ieee (Datum Format Toward signed)
theorem val_add0 {k : FloatKind} {z x : Nat} {a : Rat} (hz : Val k z 0) (hx : Val k x a) : Val k (fop .add k z x) a := by
  obtain ⟨n, n1, n2⟩ := hx
  obtain ⟨m, m1, m2⟩ := hz
  have hm : m = 0 := by
    rw [Rat.zero_mul] at m2
    exact Rat.intCast_eq_zero_iff.1 m2
  subst hm
  have h := Fin.add m1 n1
  rw [Int.zero_add, n1.exact] at h
  exact ⟨n, h n1.lt_lim, n2⟩
def rsum (f : Nat → Rat) : Nat → Rat
  | 0 => 0
  | k + 1 => rsum f k + f k
theorem rsum_congr {f g : Nat → Rat} : ∀ k, (∀ j, j < k → f j = g j) → rsum f k = rsum g k
  | 0, _ => rfl
  | k + 1, h => by
    show rsum f k + f k = rsum g k + g k
    rw [rsum_congr k fun j hj => h j (by omega), h k (by omega)]
theorem rsum_near {f : Nat → Rat} {B : Rat} : ∀ k, (∀ j, j < k → Near (f j) B) → Near (rsum f k) ((k : Rat) * B)
  | 0, _ => by
    show Near 0 (((0 : Nat) : Rat) * B)
    rw [show ((0 : Nat) : Rat) = 0 from rfl, Rat.zero_mul]
    exact Near.zero (Rat.le_refl)
  | k + 1, h => by
    have := (rsum_near k fun j hj => h j (by omega)).add (h k (by omega))
    have e : ((k + 1 : Nat) : Rat) * B = (k : Rat) * B + B := by rw [Rat.natCast_add, show ((1 : Nat) : Rat) = 1 from rfl, Rat.add_mul, Rat.one_mul]
    rw [e]
    exact this
def eta (B : Rat) : Rat := (14 * B) * ur .f32 + tiny .f32
theorem sum_val {s t : Nat → Nat} {f : Nat → Rat} {B : Rat} {n : Nat} (h0 : Val .f32 (s 0) 0) (hs : ∀ k, s (k + 1) = fop .add .f32 (s k) (t k)) (ht : ∀ k, k < n → Val .f32 (t k) (f k)) (hf : ∀ k, k < n → Near (f k) B) (hn : n ≤ 12) (B0 : 1 ≤ B) (B9 : B ≤ 64) :
    ∀ k, k ≤ n → ∃ v, Val .f32 (s k) v ∧ Near (v - rsum f k) ((k : Rat) * eta B)
  | 0, _ => ⟨0, h0, by
    show Near (0 - 0) (((0 : Nat) : Rat) * eta B)
    rw [show ((0 : Nat) : Rat) = 0 from rfl, Rat.zero_mul]
    exact Near.mono (Near.zero (Rat.le_refl)) (Rat.le_refl) |> fun h => by rw [show (0 : Rat) - 0 = 0 by grind]; exact h⟩
  | k + 1, hk => by
    obtain ⟨v, v1, v2⟩ := sum_val h0 hs ht hf hn B0 B9 k (by omega)
    have r := rsum_near k fun j hj => hf j (by omega)
    have k12 : (k : Rat) ≤ 12 := by
      have := Rat.natCast_le_natCast.2 (show k ≤ 12 by omega)
      exact this
    have k0 : (0 : Rat) ≤ (k : Rat) := Rat.natCast_nonneg
    have u0 := ur_pos .f32
    have t0 := tiny_pos .f32
    have e0 : 0 ≤ eta B := by
      unfold eta
      have := Rat.mul_nonneg (show 0 ≤ 14 * B by grind) (Rat.le_of_lt u0)
      grind
    have e1 : 12 * eta B ≤ 1 := by
      unfold eta
      have := Rat.mul_le_mul_of_nonneg_right (show 14 * B ≤ 14 * 64 by grind) (Rat.le_of_lt u0)
      have k2 : 12 * ((14 * 64) * ur .f32 + tiny .f32) ≤ 1 := by decide +kernel
      grind
    have kB := Rat.mul_le_mul_of_nonneg_right k12 (show 0 ≤ B by grind)
    have ke := Rat.mul_le_mul_of_nonneg_right k12 e0
    have hX : Near (v + f k) (14 * B) := by
      have := hf k (by omega)
      unfold Near at *
      constructor <;> grind
    obtain ⟨c, c1, c2⟩ := v1.add (ht k (by omega)) hX (by
      have : (14 * 64 : Rat) ≤ most := by decide +kernel
      grind)
    rw [hs]
    refine ⟨c, c1, ?_⟩
    have e : ((k + 1 : Nat) : Rat) * eta B = (k : Rat) * eta B + eta B := by rw [Rat.natCast_add, show ((1 : Nat) : Rat) = 1 from rfl, Rat.add_mul, Rat.one_mul]
    rw [e]
    show Near (c - (rsum f k + f k)) _
    have : eta B = 14 * B * ur .f32 + tiny .f32 := rfl
    unfold Near at *
    constructor <;> grind
end Go.Fw

/-
  Segments gone back; lengths; turned places; how fine numbers are.
-/
namespace Go.Fw
section
variable {c s x y : Nat} {C S X Y M : Rat} (hC : Near (C * C + S * S - 1) (2 * ur .f32)) (hc : Val .f32 c C) (hs : Val .f32 s S) (hx : Val .f32 x X) (hy : Val .f32 y Y) (hX : Near X M) (hY : Near Y M) (M1 : 1 ≤ M) (M9 : M ≤ 64)
include hC hc hs hx hy hX hY M1 M9
end
end Go.Fw

/-
  Values of words; places turned around Z, seen from one another.
-/
namespace Go.Fw
open Classical in
noncomputable def vl (w : Nat) : Rat := if h : ∃ q, Val .f32 w q then Classical.choose h else 0
theorem vl_eq {w : Nat} {q : Rat} (h : Val .f32 w q) : vl w = q := by
  unfold vl
  have : ∃ q, Val .f32 w q := ⟨q, h⟩
  rw [dif_pos this]
  exact (Classical.choose_spec this).unique h
section
variable {C S : Rat} (hC : Near (C * C + S * S - 1) (2 * ur .f32))
include hC
end
end Go.Fw

/-
  Sums over pairs of places: 1 / (t + the square of the distance) never makes less than nothing.
-/
namespace Go.Fw
theorem rsum_add2 (f g : Nat → Rat) : ∀ n, rsum (fun i => f i + g i) n = rsum f n + rsum g n
  | 0 => by show (0 : Rat) = 0 + 0; grind
  | n + 1 => by
    show rsum (fun i => f i + g i) n + (f n + g n) = rsum f n + f n + (rsum g n + g n)
    rw [rsum_add2 f g n]; grind
theorem rsum_mul (c : Rat) (f : Nat → Rat) : ∀ n, rsum (fun i => c * f i) n = c * rsum f n
  | 0 => by show (0 : Rat) = c * 0; grind
  | n + 1 => by
    show rsum (fun i => c * f i) n + c * f n = c * (rsum f n + f n)
    rw [rsum_mul c f n]; grind
theorem rsum_zero : ∀ n, rsum (fun _ => 0) n = 0
  | 0 => rfl
  | n + 1 => by show rsum (fun _ => 0) n + 0 = 0; rw [rsum_zero n]; grind
theorem rsum_nonneg {f : Nat → Rat} : ∀ n, (∀ i, i < n → 0 ≤ f i) → 0 ≤ rsum f n
  | 0, _ => by show (0 : Rat) ≤ 0; decide
  | n + 1, H => by
    have h1 := rsum_nonneg n fun i hi => H i (by omega)
    have h2 := H n (by omega)
    show 0 ≤ rsum f n + f n
    grind
theorem rsum_le {f g : Nat → Rat} : ∀ n, (∀ i, i < n → f i ≤ g i) → rsum f n ≤ rsum g n
  | 0, _ => by show (0 : Rat) ≤ 0; decide
  | n + 1, H => by
    have h1 := rsum_le n fun i hi => H i (by omega)
    have h2 := H n (by omega)
    show rsum f n + f n ≤ rsum g n + g n
    grind
theorem rsum_swap (f : Nat → Nat → Rat) (m : Nat) : ∀ n, rsum (fun i => rsum (f i) m) n = rsum (fun j => rsum (fun i => f i j) n) m
  | 0 => by
    show (0 : Rat) = rsum (fun _ => 0) m
    rw [rsum_zero]
  | n + 1 => by
    show rsum (fun i => rsum (f i) m) n + rsum (f n) m = rsum (fun j => rsum (fun i => f i j) n + f n j) m
    rw [rsum_swap f m n, rsum_add2]
def dsum (f : Nat → Nat → Rat) (n m : Nat) : Rat := rsum (fun i => rsum (f i) m) n
theorem dsum_congr {f g : Nat → Nat → Rat} {n m : Nat} (h : ∀ i j, i < n → j < m → f i j = g i j) : dsum f n m = dsum g n m :=
  rsum_congr _ fun i hi => rsum_congr _ fun j hj => h i j hi hj
theorem dsum_add (f g : Nat → Nat → Rat) (n m : Nat) : dsum (fun i j => f i j + g i j) n m = dsum f n m + dsum g n m := by
  unfold dsum
  rw [← rsum_add2]
  exact rsum_congr _ fun i _ => rsum_add2 _ _ _
theorem dsum_mul (c : Rat) (f : Nat → Nat → Rat) (n m : Nat) : dsum (fun i j => c * f i j) n m = c * dsum f n m := by
  unfold dsum
  rw [← rsum_mul]
  exact rsum_congr _ fun i _ => rsum_mul _ _ _
theorem dsum_prod (a b : Nat → Rat) (n m : Nat) : dsum (fun i j => a i * b j) n m = rsum a n * rsum b m := by
  unfold dsum
  rw [Rat.mul_comm, ← rsum_mul]
  exact rsum_congr _ fun i _ => by rw [rsum_mul, Rat.mul_comm]
theorem dsum_swap (f : Nat → Nat → Rat) (n m : Nat) : dsum f n m = dsum (fun j i => f i j) m n := rsum_swap f m n
section
variable (t : Rat) (x y z : Nat → Rat)
def dst (i j : Nat) : Rat := t + (x i - x j) * (x i - x j) + (y i - y j) * (y i - y j) + (z i - z j) * (z i - z j)
variable {t}
end
end Go.Fw

/-
  Sums of 32-bit numbers, with an error in proportion to the sum of the sizes; sums over pairs.
-/
namespace Go.Fw
def eps (T : Rat) : Rat := 2 * ur .f32 * T + 2 * tiny .f32
theorem eps_pos {T : Rat} (h : 0 ≤ T) : 0 ≤ eps T := by
  unfold eps
  have := Rat.mul_nonneg (Rat.le_of_lt (ur_pos .f32)) h
  have := tiny_pos .f32
  grind
theorem rsum_mono {F : Nat → Rat} {n : Nat} (h : ∀ k, k < n → 0 ≤ F k) {m : Nat} : m ≤ n → rsum F m ≤ rsum F n := by
  induction n with
  | zero => intro hm; obtain rfl : m = 0 := by omega
            exact Rat.le_refl
  | succ n ih =>
    intro hm
    rcases Nat.lt_or_ge m (n + 1) with h1 | h1
    · have a := ih (fun k hk => h k (by omega)) (show m ≤ n by omega)
      have b := h n (by omega)
      show rsum F m ≤ rsum F n + F n
      grind
    · obtain rfl : m = n + 1 := by omega
      exact Rat.le_refl
theorem rsum_nearF {f F : Nat → Rat} : ∀ n, (∀ k, k < n → Near (f k) (F k)) → Near (rsum f n) (rsum F n)
  | 0, _ => by show Near 0 0; unfold Near; constructor <;> decide
  | n + 1, h => (rsum_nearF n fun k hk => h k (by omega)).add (h n (by omega))
theorem sum_rel {s t : Nat → Nat} {f F : Nat → Rat} {T : Rat} {n : Nat} (h0 : Val .f32 (s 0) 0) (hs : ∀ k, k < n → s (k + 1) = fop .add .f32 (s k) (t k)) (ht : ∀ k, k < n → Val .f32 (t k) (f k)) (hF : ∀ k, k < n → Near (f k) (F k))
    (hT : rsum F n ≤ T) (hn : n ≤ 4096) (hm : T ≤ 1152921504606846976) : ∀ k, k ≤ n → ∃ v, Val .f32 (s k) v ∧ Near (v - rsum f k) ((k : Rat) * eps T)
  | 0, _ => ⟨0, h0, by
    show Near (0 - 0) (((0 : Nat) : Rat) * eps T)
    rw [show ((0 : Nat) : Rat) = 0 from rfl, Rat.zero_mul]
    unfold Near; constructor <;> grind⟩
  | k + 1, hk => by
    obtain ⟨v, v1, v2⟩ := sum_rel h0 hs ht hF hT hn hm k (by omega)
    have F0 : ∀ j, j < n → 0 ≤ F j := fun j hj => (hF j hj).nonneg
    have b1 := rsum_nearF k fun j hj => hF j (by omega)
    have b2 : rsum F k + F k ≤ rsum F n := rsum_mono F0 (m := k + 1) hk
    have b3 := hF k (by omega)
    have T0 : 0 ≤ T := Rat.le_trans (rsum_nonneg n F0) hT
    have k4 : ((k : Nat) : Rat) ≤ 4096 := Rat.natCast_le_natCast.2 (show k ≤ 4096 by omega)
    have e0 := eps_pos T0
    have k5 := Rat.mul_le_mul_of_nonneg_right k4 e0
    have X : Near (v + f k) (T + 4096 * eps T) := by
      unfold Near at *
      constructor <;> grind
    have big : (1152921504606846976 : Rat) * 2 ≤ most := by decide +kernel
    have s1 : 4096 * (2 * ur .f32) ≤ 1 / 2 := by decide +kernel
    have s2 : 4096 * (2 * tiny .f32) ≤ 1 := by decide +kernel
    have s1 := Rat.mul_le_mul_of_nonneg_right s1 T0
    have eX : T + 4096 * eps T = T + 4096 * (2 * ur .f32) * T + 4096 * (2 * tiny .f32) := by unfold eps; grind
    obtain ⟨w, w1, w2⟩ := v1.add (ht k (by omega)) X (by rw [eX]; grind)
    refine ⟨w, by rw [hs k (by omega)]; exact w1, ?_⟩
    have s3 : 4096 * (2 * ur .f32) * ur .f32 ≤ 1 / 2 * ur .f32 := by decide +kernel
    have s3 := Rat.mul_le_mul_of_nonneg_right s3 T0
    have s4 : 4096 * (2 * tiny .f32) * ur .f32 ≤ tiny .f32 := by decide +kernel
    have loss : (T + 4096 * eps T) * ur .f32 + tiny .f32 ≤ eps T := by
      rw [eX]
      unfold eps
      have u0 := Rat.mul_nonneg (Rat.le_of_lt (ur_pos .f32)) T0
      grind
    have w3 := w2.mono loss
    show Near (w - (rsum f k + f k)) (((k + 1 : Nat) : Rat) * eps T)
    rw [Rat.natCast_add, Rat.add_mul, show ((1 : Nat) : Rat) = 1 from rfl, Rat.one_mul]
    have := v2.add w3
    rw [show v - rsum f k + (w - (v + f k)) = w - (rsum f k + f k) by grind] at this
    exact this
theorem dsum_flat (f : Nat → Nat → Rat) {m : Nat} (hm : 0 < m) : ∀ n, rsum (fun k => f (k / m) (k % m)) (n * m) = dsum f n m
  | 0 => by rw [Nat.zero_mul]; rfl
  | n + 1 => by
    have h := dsum_flat f hm n
    have go : ∀ j, j ≤ m → rsum (fun k => f (k / m) (k % m)) (n * m + j) = dsum f n m + rsum (f n) j := fun j => by
      induction j with
      | zero => intro _; show _ = dsum f n m + 0; rw [Nat.add_zero, h]; grind
      | succ j ih =>
        intro hj
        show rsum (fun k => f (k / m) (k % m)) (n * m + j) + f ((n * m + j) / m) ((n * m + j) % m) = dsum f n m + (rsum (f n) j + f n j)
        rw [ih (by omega), Nat.mul_comm n m, Nat.mul_add_div hm, Nat.mul_add_mod, Nat.div_eq_of_lt (by omega), Nat.mod_eq_of_lt (by omega), Nat.add_zero]
        grind
    rw [Nat.succ_mul, go m (Nat.le_refl _)]
    rfl
theorem flat_words {I : Nat → Nat → Nat → Nat} {O : Nat → Nat} {t : Nat → Nat → Nat} {n m : Nat} (hm : 0 < m) (h0 : ∀ k s, I k s 0 = s) (hI : ∀ k s i, k < n → i < m → I k s (i + 1) = fop .add .f32 (I k s i) (t k i)) (hO : ∀ k, O (k + 1) = I k (O k) m) :
    ∃ W : Nat → Nat, W 0 = O 0 ∧ (∀ k, k < n * m → W (k + 1) = fop .add .f32 (W k) (t (k / m) (k % m))) ∧ W (n * m) = O n := by
  refine ⟨fun k => I (k / m) (O (k / m)) (k % m), ?_, fun k hk => ?_, ?_⟩
  · show I (0 / m) (O (0 / m)) (0 % m) = O 0
    rw [Nat.zero_div, Nat.zero_mod, h0]
  · have hd : k / m < n := Nat.div_lt_of_lt_mul (by rw [Nat.mul_comm]; exact hk)
    have hr : k % m < m := Nat.mod_lt _ hm
    show I ((k + 1) / m) (O ((k + 1) / m)) ((k + 1) % m) = fop .add .f32 (I (k / m) (O (k / m)) (k % m)) (t (k / m) (k % m))
    rw [← hI _ _ _ hd hr]
    have hk := Nat.div_add_mod k m
    by_cases h : k % m + 1 < m
    · have e1 : (k + 1) / m = k / m := by
        rw [show k + 1 = m * (k / m) + (k % m + 1) by omega, Nat.mul_add_div hm, Nat.div_eq_of_lt h, Nat.add_zero]
      have e2 : (k + 1) % m = k % m + 1 := by
        rw [show k + 1 = m * (k / m) + (k % m + 1) by omega, Nat.mul_add_mod, Nat.mod_eq_of_lt h]
      rw [e1, e2]
    · have he : k % m + 1 = m := by omega
      have e0 : k + 1 = m * (k / m + 1) := by rw [Nat.mul_add, Nat.mul_one]; omega
      have e1 : (k + 1) / m = k / m + 1 := by rw [e0, Nat.mul_div_cancel_left _ hm]
      have e2 : (k + 1) % m = 0 := by rw [e0, Nat.mul_mod_right]
      rw [e1, e2, h0, hO, he]
  · show I (n * m / m) (O (n * m / m)) (n * m % m) = O n
    rw [Nat.mul_div_cancel _ hm, Nat.mul_mod_left, h0]
theorem dsum_rel {I : Nat → Nat → Nat → Nat} {O : Nat → Nat} {t : Nat → Nat → Nat} {f F : Nat → Nat → Rat} {T : Rat} {n m : Nat} (hm : 0 < m) (h0 : ∀ k s, I k s 0 = s) (hI : ∀ k s i, k < n → i < m → I k s (i + 1) = fop .add .f32 (I k s i) (t k i)) (hO : ∀ k, O (k + 1) = I k (O k) m)
    (hz : Val .f32 (O 0) 0) (ht : ∀ k i, k < n → i < m → Val .f32 (t k i) (f k i)) (hF : ∀ k i, k < n → i < m → Near (f k i) (F k i)) (hT : dsum F n m ≤ T) (hn : n * m ≤ 4096) (hM : T ≤ 1152921504606846976) :
    ∃ v, Val .f32 (O n) v ∧ Near (v - dsum f n m) (((n * m : Nat) : Rat) * eps T) := by
  obtain ⟨W, w0, w1, w2⟩ := flat_words hm h0 hI hO
  have hd : ∀ k, k < n * m → k / m < n := fun k hk => Nat.div_lt_of_lt_mul (by rw [Nat.mul_comm]; exact hk)
  have hr : ∀ k, k % m < m := fun k => Nat.mod_lt _ hm
  obtain ⟨v, v1, v2⟩ := sum_rel (s := W) (t := fun k => t (k / m) (k % m)) (f := fun k => f (k / m) (k % m)) (F := fun k => F (k / m) (k % m)) (by rw [w0]; exact hz) w1 (fun k hk => ht _ _ (hd k hk) (hr k)) (fun k hk => hF _ _ (hd k hk) (hr k)) (by rw [dsum_flat F hm]; exact hT) hn hM (n * m) (Nat.le_refl _)
  rw [w2] at v1
  rw [dsum_flat f hm] at v2
  exact ⟨v, v1, v2⟩
theorem dsum_nearF {f F : Nat → Nat → Rat} {n m : Nat} (h : ∀ i j, i < n → j < m → Near (f i j) (F i j)) : Near (dsum f n m) (dsum F n m) :=
  rsum_nearF _ fun i hi => rsum_nearF _ fun j hj => h i j hi hj
end Go.Fw

/-
  One through a distance, and a little, is nearly a sum of eight kernels that never make less than nothing.
-/
namespace Go.Fw
end Go.Fw

/-
  One through a distance, and a little, is nearly a sum of eight kernels: in fractions.
-/
namespace Go.Fw
section
variable {l : Rat} (h0 : 0 < l)
include h0
end
end Go.Fw

/-
  Sums over pairs of places, weighed by one through their distances and a little: not less than nothing, nearly.
-/
namespace Go.Fw
section
variable (x y z : Nat → Rat)
end
end Go.Fw

/-
  Two pieces of wires: the root of their distance, what they are to one another, as fractions.
-/
namespace Go.Fw
theorem nabs_le_of {x M : Rat} (h : Near x M) : nabs x ≤ M := by unfold nabs Near at *; split <;> grind
end Go.Fw

/-
  Two pieces of wires: what they are to one another is nearly the product of their ways, weighed by the kernel of their places.
-/
namespace Go.Fw
theorem cs3 {a b c p q r X Y : Rat} (h1 : a * a + b * b + c * c ≤ X * X) (h2 : p * p + q * q + r * r ≤ Y * Y) (hX : 0 ≤ X) (hY : 0 ≤ Y) : Near (a * p + b * q + c * r) (X * Y) := by
  have k : (a * p + b * q + c * r) * (a * p + b * q + c * r) ≤ X * Y * (X * Y) := by
    have s1 := sqn (a * q - b * p)
    have s2 := sqn (a * r - c * p)
    have s3 := sqn (b * r - c * q)
    have e : (a * p + b * q + c * r) * (a * p + b * q + c * r) = (a * a + b * b + c * c) * (p * p + q * q + r * r) - (a * q - b * p) * (a * q - b * p) - (a * r - c * p) * (a * r - c * p) - (b * r - c * q) * (b * r - c * q) := by grind
    have p0 : 0 ≤ p * p + q * q + r * r := by have := sqn p; have := sqn q; have := sqn r; grind
    have m1 := Rat.mul_le_mul_of_nonneg_right h1 p0
    have m2 := Rat.mul_le_mul_of_nonneg_left h2 (sqn X)
    have e2 : X * Y * (X * Y) = X * X * (Y * Y) := by grind
    rw [e, e2]
    grind
  have XY := Rat.mul_nonneg hX hY
  have h := nabs_near (a * p + b * q + c * r)
  refine h.mono (le_of_sq XY ?_)
  rw [nabs_sq]
  exact k
theorem coord {a b c X : Rat} (h : a * a + b * b + c * c ≤ X * X) (hX : 0 ≤ X) : Near a X ∧ Near b X ∧ Near c X := by
  have s1 := sqn a
  have s2 := sqn b
  have s3 := sqn c
  refine ⟨(nabs_near a).mono (le_of_sq hX ?_), (nabs_near b).mono (le_of_sq hX ?_), (nabs_near c).mono (le_of_sq hX ?_)⟩ <;> (rw [nabs_sq]; grind)
end Go.Fw

/-
  Sums over all pairs of pieces of two wires: nearly those of the kernel; these are the same both ways and not below nothing.
-/
namespace Go.Fw
theorem rsum_ge {f : Nat → Rat} {c : Rat} {n : Nat} (hn : 0 < n) (c0 : 0 ≤ c) (h : ∀ j, j < n → c ≤ f j) : c ≤ rsum f n := by
  obtain ⟨m, rfl⟩ : ∃ m, n = m + 1 := ⟨n - 1, by omega⟩
  have h1 := rsum_nonneg m fun j hj => Rat.le_trans c0 (h j (by omega))
  have h2 := h m (by omega)
  show c ≤ rsum f m + f m
  grind
end Go.Fw

/-
  Two pieces, one of them gone back: the opposite, nearly.
-/
namespace Go.Fw
end Go.Fw

/-
  How one through a distance changes along a way: the difference over two steps is nearly the product of both through the third power.
-/
namespace Go.Fw
def eta6 : Rat := 1 / 1000000
theorem prod_near {A B P Q η : Rat} (hA : Near (A - P) (P * η)) (hB : Near (B - Q) (Q * η)) (P0 : 0 ≤ P) (Q0 : 0 ≤ Q) (h0 : 0 ≤ η) (h1 : η ≤ 1 / 100) : Near (A * B - P * Q) (P * Q * (21 / 10 * η)) := by
  have Pη := Rat.mul_nonneg P0 h0
  have Qη := Rat.mul_nonneg Q0 h0
  have k : P * η ≤ P * (1 / 100) := Rat.mul_le_mul_of_nonneg_left h1 P0
  have nP : Near P P := by unfold Near; constructor <;> grind
  have nQ : Near Q Q := by unfold Near; constructor <;> grind
  have a := hA.mul nQ
  have b := nP.mul hB
  have c := hA.mul hB
  have e : A * B - P * Q = (A - P) * Q + P * (B - Q) + (A - P) * (B - Q) := by grind
  rw [e]
  refine ((a.add b).add c).mono ?_
  have kk := Rat.mul_le_mul_of_nonneg_right k Qη
  have e1 : (21 / 10 : Rat) = 2 + 1 / 10 := by decide +kernel
  have e2 : P * (1 / 100) * (Q * η) ≤ P * Q * (1 / 10 * η) := by
    have := Rat.mul_le_mul_of_nonneg_left (show (1 / 100 : Rat) ≤ 1 / 10 by decide +kernel) (Rat.mul_nonneg P0 Qη)
    grind
  rw [e1]
  grind
section
variable {S V e l A B σ τ : Rat} (S9 : 9 ≤ S) (SM : S ≤ 1000) (V0 : 0 ≤ V) (V12 : V ≤ 12) (he : e * e ≤ S * V) (l0 : 0 < l) (A0 : 0 < A) (B0 : 0 < B) (hl : Near (l * l - S) (S * eta6))
  (hA : Near (A * A - (S + e * (1 / 8) + V * (1 / 256))) ((S + e * (1 / 8) + V * (1 / 256)) * eta6)) (hB : Near (B * B - (S - e * (1 / 8) + V * (1 / 256))) ((S - e * (1 / 8) + V * (1 / 256)) * eta6))
  (hσ : σ = V * (1 / 256)) (hτ : τ * (256 * S) = e * e)
include S9 SM V0 V12 he l0 A0 B0 hl hA hB hσ hτ
omit SM l0 hl in
theorem along_sq : Near (A * B * (A + B) * (A * B * (A + B)) - 4 * (S * S * S + S * S * (3 * σ - 5 * τ))) (4 * (S * S * (9 / 10 * (σ * σ)) + S * S * S * (7 * eta6))) ∧ 0 ≤ τ ∧ τ ≤ σ ∧ 0 ≤ σ ∧ σ ≤ 12 / 256 := by
  have S0 : 0 < S := by grind
  have σ0 : 0 ≤ σ := by
    rw [hσ]; exact Rat.mul_nonneg V0 (by decide +kernel)
  have σ1 : σ ≤ 12 / 256 := by
    have := Rat.mul_le_mul_of_nonneg_right V12 (show (0 : Rat) ≤ 1 / 256 by decide +kernel)
    have k : (12 : Rat) * (1 / 256) = 12 / 256 := by decide +kernel
    rw [hσ, ← k]; exact this
  have τ0 : 0 ≤ τ := by
    refine Rat.le_of_mul_le_mul_right (c := 256 * S) ?_ (by grind)
    rw [hτ, Rat.zero_mul]; exact sqn e
  have τσ : τ ≤ σ := by
    refine Rat.le_of_mul_le_mul_right (c := 256 * S) ?_ (by grind)
    have k : (1 / 256 : Rat) * 256 = 1 := by decide +kernel
    have : σ * (256 * S) = S * V := by rw [hσ]; grind
    rw [hτ, this]; exact he
  have k256 : (1 / 256 : Rat) * 256 = 1 := by decide +kernel
  have k8 : (1 / 8 : Rat) * (1 / 8) * 64 = 1 := by decide +kernel
  have ee : e * (1 / 8) * (e * (1 / 8)) = 4 * (τ * S) := by
    have h1 : e * (1 / 8) * (e * (1 / 8)) = e * e * ((1 / 8) * (1 / 8)) := by grind
    rw [h1, ← hτ]
    grind
  rw [← hσ] at hA hB
  generalize e * (1 / 8) = ε at *
  have hP : (S + ε + σ) * (S - ε + σ) = (S + σ) * (S + σ) - 4 * (τ * S) := by grind
  have c47 : (12 / 256 : Rat) ≤ 1 / 20 := by decide +kernel
  have σσ := Rat.mul_nonneg σ0 σ0
  have σ20 : σ ≤ 1 / 20 := by grind
  have σσ1 : σ * σ ≤ 1 / 20 * σ := Rat.mul_le_mul_of_nonneg_right σ20 σ0
  have k20 : (1 / 20 : Rat) * 20 = 1 := by decide +kernel
  have εε : ε * ε ≤ 4 * (1 / 20 * S) := by
    have : τ * S ≤ 1 / 20 * S := Rat.mul_le_mul_of_nonneg_right (by grind) (Rat.le_of_lt S0)
    grind
  have εS : ε * ε ≤ S / 2 * (S / 2) := by
    have h2 : S / 2 * 2 = S := Rat.div_mul_cancel (by decide)
    have h3 : 9 * S ≤ S * S := Rat.mul_le_mul_of_nonneg_right S9 (Rat.le_of_lt S0)
    grind
  have hS2 : S / 2 * 2 = S := Rat.div_mul_cancel (by decide)
  have εN : Near ε (S / 2) := (nabs_near ε).mono (le_of_sq (by grind) (by rw [nabs_sq]; exact εS))
  have Pp : 0 ≤ S + ε + σ := by unfold Near at εN; grind
  have Pm : 0 ≤ S - ε + σ := by unfold Near at εN; grind
  have eta0 : 0 ≤ eta6 := by decide +kernel
  have eta1 : eta6 ≤ 1 / 100 := by decide +kernel
  have q := prod_near hA hB Pp Pm eta0 eta1
  rw [hP] at q
  have eAB : A * A * (B * B) = A * B * (A * B) := by grind
  rw [eAB] at q
  have p0 := Rat.mul_pos A0 B0
  have sum : Near (A * A + B * B - 2 * (S + σ)) (2 * (S + σ) * eta6) := by
    have := hA.add hB
    unfold Near at this ⊢
    constructor <;> grind
  have esq : A * B * (A + B) * (A * B * (A + B)) = A * B * (A * B) * (A * A + B * B + 2 * (A * B)) := by grind
  rw [esq]
  generalize A * B = p at *
  generalize A * A + B * B = m at *
  clear hA hB eAB esq εN εε εS Pp Pm ee
  generalize hPe : (S + σ) * (S + σ) - 4 * (τ * S) = P at *
  have τσ2 : 0 ≤ τ * (σ - τ) := Rat.mul_nonneg τ0 (by grind)
  have τσ3 : τ * (σ - τ) * 4 ≤ σ * σ := by have := sqn (σ - 2 * τ); grind
  have PY : P = (S + σ - 2 * τ) * (S + σ - 2 * τ) + 4 * (τ * (σ - τ)) := by rw [← hPe]; grind
  have e6 : eta6 * 1000000 = 1 := by decide +kernel
  have SS := Rat.mul_pos S0 S0
  have S9S : 9 * S ≤ S * S := Rat.mul_le_mul_of_nonneg_right S9 (Rat.le_of_lt S0)
  have σS : σ * S ≤ 1 / 20 * S := Rat.mul_le_mul_of_nonneg_right σ20 (Rat.le_of_lt S0)
  have τS : τ * S ≤ σ * S := Rat.mul_le_mul_of_nonneg_right τσ (Rat.le_of_lt S0)
  have σS0 : 0 ≤ σ * S := Rat.mul_nonneg σ0 (Rat.le_of_lt S0)
  have τS0 : 0 ≤ τ * S := Rat.mul_nonneg τ0 (Rat.le_of_lt S0)
  have P1 : P ≤ 102 / 100 * (S * S) := by
    have k : (102 / 100 : Rat) * 50 = 51 := by decide +kernel
    rw [← hPe]
    have : 50 * ((S + σ) * (S + σ) - 4 * (τ * S)) ≤ 51 * (S * S) := by grind
    grind
  have P0 : 0 ≤ P := by
    rw [PY]
    have := sqn (S + σ - 2 * τ)
    grind
  have Y0 : 98 / 100 * S ≤ S + σ - 2 * τ := by
    have k : (98 / 100 : Rat) * 100 = 98 := by decide +kernel
    have : 98 * S ≤ 100 * (S + σ - 2 * τ) := by grind
    grind
  have Y1 : 0 ≤ S + σ - 2 * τ := by grind
  generalize hYe : S + σ - 2 * τ = Y at *
  have PE := Rat.mul_le_mul_of_nonneg_right P1 eta0
  have up : p ≤ Y + (σ * σ + 3 * (eta6 * S)) := by
    refine le_of_sq (by have := Rat.mul_nonneg eta0 (Rat.le_of_lt S0); grind) ?_
    have h1 : 98 / 100 * S * (σ * σ) ≤ Y * (σ * σ) := Rat.mul_le_mul_of_nonneg_right Y0 σσ
    have h2 : 98 / 100 * S * (eta6 * S) ≤ Y * (eta6 * S) := Rat.mul_le_mul_of_nonneg_right Y0 (Rat.mul_nonneg eta0 (Rat.le_of_lt S0))
    have h3 : 9 * (σ * σ) ≤ S * (σ * σ) := Rat.mul_le_mul_of_nonneg_right S9 σσ
    have h4 := sqn (σ * σ + 3 * (eta6 * S))
    have h5 : 0 ≤ eta6 * (S * S) := Rat.mul_nonneg eta0 (Rat.le_of_lt SS)
    have k1 : (98 / 100 : Rat) * 100 = 98 := by decide +kernel
    have k2 : (102 / 100 : Rat) * 100 = 102 := by decide +kernel
    have k3 : (21 / 10 : Rat) * 10 = 21 := by decide +kernel
    unfold Near at q
    have q2 := q.2
    have ex : (Y + (σ * σ + 3 * (eta6 * S))) * (Y + (σ * σ + 3 * (eta6 * S))) = Y * Y + 2 * (Y * (σ * σ)) + 6 * (Y * (eta6 * S)) + (σ * σ + 3 * (eta6 * S)) * (σ * σ + 3 * (eta6 * S)) := by grind
    rw [ex]
    generalize (σ * σ + 3 * (eta6 * S)) * (σ * σ + 3 * (eta6 * S)) = Z at *
    grind
  have lo : Y - 3 * (eta6 * S) ≤ p := by
    refine le_of_sq (Rat.le_of_lt p0) ?_
    have h2 : 98 / 100 * S * (eta6 * S) ≤ Y * (eta6 * S) := Rat.mul_le_mul_of_nonneg_right Y0 (Rat.mul_nonneg eta0 (Rat.le_of_lt S0))
    have h5 : 0 ≤ eta6 * (S * S) := Rat.mul_nonneg eta0 (Rat.le_of_lt SS)
    have h6 : eta6 * (eta6 * (S * S)) ≤ 1 / 100 * (eta6 * (S * S)) := Rat.mul_le_mul_of_nonneg_right eta1 h5
    have k1 : (98 / 100 : Rat) * 100 = 98 := by decide +kernel
    have k2 : (102 / 100 : Rat) * 100 = 102 := by decide +kernel
    have k3 : (21 / 10 : Rat) * 10 = 21 := by decide +kernel
    have k4 : (1 / 100 : Rat) * 100 = 1 := by decide +kernel
    unfold Near at q
    have q1 := q.1
    grind
  refine ⟨?_, τ0, τσ, σ0, σ1⟩
  have ηS := Rat.mul_nonneg eta0 (Rat.le_of_lt S0)
  have ησ : eta6 * σ ≤ eta6 * (1 / 20) := Rat.mul_le_mul_of_nonneg_left σ20 eta0
  have η9 : eta6 * 9 ≤ eta6 * S := Rat.mul_le_mul_of_nonneg_left S9 eta0
  have k81 : (81 / 10 : Rat) * 10 = 81 := by decide +kernel
  have ρN : Near (m - 2 * (S + σ) + 2 * (p - Y)) (2 * (σ * σ) + 81 / 10 * (eta6 * S)) := by
    have a1 : 2 * (S + σ) * eta6 ≤ 21 / 10 * (eta6 * S) := by
      have k21 : (21 / 10 : Rat) = 2 + 1 / 10 := by decide +kernel
      have k1 : (1 / 10 : Rat) * 10 = 1 := by decide +kernel
      rw [k21]
      have e1 : 2 * (S + σ) * eta6 = 2 * (eta6 * S) + 2 * (eta6 * σ) := by grind
      have e2 : (2 + 1 / 10) * (eta6 * S) = 2 * (eta6 * S) + 1 / 10 * (eta6 * S) := by grind
      rw [e1, e2]
      have e3 : 10 * (2 * (eta6 * σ)) ≤ 10 * (1 / 10 * (eta6 * S)) := by
        have : 10 * (1 / 10 * (eta6 * S)) = eta6 * S := by grind
        rw [this]
        have : eta6 * (1 / 20) * 20 = eta6 := by grind
        clear up lo sum q hP hPe PY
        grind
      clear up lo sum q hP hPe PY
      grind
    have a2 : Near (2 * (p - Y)) (2 * (σ * σ) + 6 * (eta6 * S)) := by
      clear sum q hP hPe PY
      unfold Near
      constructor <;> grind
    refine ((sum.mono a1).add a2).mono ?_
    have k1 : (21 / 10 : Rat) + 6 = 81 / 10 := by decide +kernel
    rw [← k1]
    clear up lo sum q hP hPe PY a1 a2
    grind
  have k42 : (42 / 10 : Rat) * 10 = 42 := by decide +kernel
  have MN : Near (m + 2 * p) (42 / 10 * S) := by
    have e1 : m + 2 * p = 4 * (S + σ - τ) + (m - 2 * (S + σ) + 2 * (p - Y)) := by rw [← hYe]; grind
    rw [e1]
    clear up lo sum q hP hPe PY P1 P0
    have b1 : Near (4 * (S + σ - τ)) (4 * S + 1 / 5) := by
      have k5 : (1 / 20 : Rat) * 4 = 1 / 5 := by decide +kernel
      rw [← k5]
      unfold Near
      constructor <;> grind
    have b2 : 2 * (σ * σ) + 81 / 10 * (eta6 * S) ≤ 1 / 10 * S := by
      have h1 : 81 / 10 * eta6 ≤ 1 / 100 := by decide +kernel
      have h1 := Rat.mul_le_mul_of_nonneg_right h1 (Rat.le_of_lt S0)
      have h2 : 2 * (1 / 20 * (1 / 20)) ≤ (9 / 100 * 9 : Rat) := by decide +kernel
      have h3 := Rat.mul_le_mul_of_nonneg_left σ20 (show (0 : Rat) ≤ 1 / 20 by decide +kernel)
      have h4 := Rat.mul_le_mul_of_nonneg_left S9 (show (0 : Rat) ≤ 9 / 100 by decide +kernel)
      have h5 : (1 / 10 : Rat) = 1 / 100 + 9 / 100 := by decide +kernel
      rw [h5]
      clear ρN b1
      grind
    refine (b1.add (ρN.mono b2)).mono ?_
    have h6 : (1 / 5 : Rat) ≤ 1 / 10 * 9 := by decide +kernel
    have h7 := Rat.mul_le_mul_of_nonneg_left S9 (show (0 : Rat) ≤ 1 / 10 by decide +kernel)
    have h8 : (42 / 10 : Rat) = 4 + 1 / 10 + 1 / 10 := by decide +kernel
    rw [h8]
    clear ρN b1 b2
    grind
  have k214 : (102 / 100 : Rat) * (21 / 10) * (42 / 10) ≤ 9 := by decide +kernel
  have ηSSS : 0 ≤ eta6 * (S * S * S) := Rat.mul_nonneg eta0 (Rat.mul_nonneg (Rat.le_of_lt SS) (Rat.le_of_lt S0))
  have D1 := q.mul MN
  have D1 := D1.mono (show P * (21 / 10 * eta6) * (42 / 10 * S) ≤ 9 * (eta6 * (S * S * S)) by
    have h1 := Rat.mul_le_mul_of_nonneg_right P1 (show 0 ≤ 21 / 10 * (42 / 10) * (eta6 * S) from Rat.mul_nonneg (by decide +kernel) ηS)
    have h2 := Rat.mul_le_mul_of_nonneg_right k214 ηSSS
    grind)
  have PN : Near P (102 / 100 * (S * S)) := by unfold Near; constructor <;> grind
  have D2 := PN.mul ρN
  have D2 := D2.mono (show 102 / 100 * (S * S) * (2 * (σ * σ) + 81 / 10 * (eta6 * S)) ≤ 204 / 100 * (S * S * (σ * σ)) + 83 / 10 * (eta6 * (S * S * S)) by
    have h1 : (102 / 100 : Rat) * (81 / 10) ≤ 83 / 10 := by decide +kernel
    have h2 := Rat.mul_le_mul_of_nonneg_right h1 ηSSS
    have h3 : (204 / 100 : Rat) = 102 / 100 * 2 := by decide +kernel
    rw [h3]
    grind)
  have X : P * (S + σ - τ) - (S * S * S + S * S * (3 * σ - 5 * τ)) = S * (3 * (σ * σ) - 6 * (σ * τ) + 4 * (τ * τ)) + σ * σ * (σ - τ) := by rw [← hPe]; grind
  have στ := Rat.mul_nonneg σ0 τ0
  have ττ : τ * τ ≤ σ * τ := Rat.mul_le_mul_of_nonneg_right τσ τ0
  have ττ0 := sqn τ
  have Q0 : 0 ≤ 3 * (σ * σ) - 6 * (σ * τ) + 4 * (τ * τ) := by have := sqn (σ - τ); grind
  have Q1 : 3 * (σ * σ) - 6 * (σ * τ) + 4 * (τ * τ) ≤ 3 * (σ * σ) := by grind
  have Q2 := Rat.mul_nonneg (Rat.le_of_lt S0) Q0
  have Q3 := Rat.mul_le_mul_of_nonneg_left Q1 (Rat.le_of_lt S0)
  have Q4 := Rat.mul_nonneg σσ (show 0 ≤ σ - τ by grind)
  have Q5 := Rat.mul_le_mul_of_nonneg_left (show σ - τ ≤ 1 / 20 by grind) σσ
  have Q6 : 9 * (σ * σ) ≤ S * (σ * σ) := Rat.mul_le_mul_of_nonneg_right S9 σσ
  have Q7 : 9 * (S * (σ * σ)) ≤ S * S * (σ * σ) := by
    have := Rat.mul_le_mul_of_nonneg_right S9S σσ
    rw [Rat.mul_assoc] at this
    exact this
  have D3 : Near (4 * (P * (S + σ - τ) - (S * S * S + S * S * (3 * σ - 5 * τ)))) (15 / 10 * (S * S * (σ * σ))) := by
    rw [X]
    have k15 : (15 / 10 : Rat) * 10 = 15 := by decide +kernel
    unfold Near
    constructor
    · have := Rat.mul_nonneg (Rat.le_of_lt SS) σσ
      grind
    · grind
  have id : p * p * (m + 2 * p) - 4 * (S * S * S + S * S * (3 * σ - 5 * τ)) = (p * p - P) * (m + 2 * p) + P * (m - 2 * (S + σ) + 2 * (p - Y)) + 4 * (P * (S + σ - τ) - (S * S * S + S * S * (3 * σ - 5 * τ))) := by rw [← hYe]; grind
  rw [id]
  refine ((D1.add D2).add D3).mono ?_
  have h1 : (204 / 100 + 15 / 10 : Rat) ≤ 4 * (9 / 10) := by decide +kernel
  have h1 := Rat.mul_le_mul_of_nonneg_right h1 (Rat.mul_nonneg (Rat.le_of_lt SS) σσ)
  have h2 : (9 + 83 / 10 : Rat) ≤ 4 * 7 := by decide +kernel
  have h2 := Rat.mul_le_mul_of_nonneg_right h2 ηSSS
  grind
end
end Go.Fw

/-
  How one through a distance changes along a way: bounds, and the result.
-/
namespace Go.Fw
theorem cube_poly {E : Rat} (h0 : 0 ≤ E) (h1 : E ≤ 36 / 10) : E * (36 - 5 * (E * E)) ≤ 373 / 10 := by
  have k := Rat.mul_nonneg (sqn (E - 1549 / 1000)) (show 0 ≤ E + 3098 / 1000 by have : (0 : Rat) ≤ 3098 / 1000 := by decide +kernel
                                                                                grind)
  have c1 : (1549 / 1000 : Rat) * 2 = 3098 / 1000 := by decide +kernel
  have c2 : (36 : Rat) - 15 * (1549 / 1000 * (1549 / 1000)) ≤ 1 / 100 := by decide +kernel
  have c2 := Rat.mul_le_mul_of_nonneg_right c2 h0
  have c3 : (10 : Rat) * (1549 / 1000 * (1549 / 1000) * (1549 / 1000)) + 1 / 100 * (36 / 10) ≤ 10 * (1549 / 1000 * (1549 / 1000) * (1549 / 1000)) + 36 / 1000 := by decide +kernel
  have c4 : 0 ≤ 373 / 10 - 10 * (1549 / 1000 * (1549 / 1000) * (1549 / 1000)) - (1 / 100 * (36 / 10) : Rat) := by decide +kernel
  have c5 := Rat.mul_le_mul_of_nonneg_left h1 (show (0 : Rat) ≤ 1 / 100 by decide +kernel)
  rw [← c1] at k
  generalize (1549 / 1000 : Rat) = a at *
  have ex : (E - a) * (E - a) * (E + a * 2) = E * E * E - 3 * (a * a) * E + 2 * (a * a * a) := by grind
  rw [ex] at k
  grind
section
variable {S V e l E t : Rat} (S9 : 9 ≤ S) (V12 : V ≤ 12) (he : e * e ≤ S * V) (hl : Near (l * l - S) (S * eta6)) (hE : E * l = nabs e) (E0 : 0 ≤ E) (ht : t * S = e * e) (h10 : S ≤ 10 → e * e ≤ 84)
include S9 V12 he hl hE E0 ht h10
theorem along_pow : E * (nabs (3 * V - 5 * t) + 51 / 100 + 2048 * eta6 * S) ≤ 8888 / 10000 * (S * S) := by
  have S0 : 0 < S := by grind
  have eta0 : 0 ≤ eta6 := by decide +kernel
  have EEl : E * E * (l * l) = e * e := by
    have : E * E * (l * l) = E * l * (E * l) := by grind
    rw [this, hE, nabs_sq]
  have EE0 := sqn E
  have lS : (1 - eta6) * S ≤ l * l := by unfold Near at hl; grind
  have c1 : (0 : Rat) < 1 - eta6 := by decide +kernel
  have EV : E * E * (1 - eta6) ≤ V := by
    refine Rat.le_of_mul_le_mul_right (c := S) ?_ S0
    have := Rat.mul_le_mul_of_nonneg_left lS EE0
    grind
  have E12 : E * E ≤ 120001 / 10000 := by
    refine Rat.le_of_mul_le_mul_right (c := 1 - eta6) ?_ c1
    have : (12 : Rat) ≤ 120001 / 10000 * (1 - eta6) := by decide +kernel
    grind
  have E346 : E ≤ 34643 / 10000 := by
    refine le_of_sq (by decide +kernel) ?_
    have : (120001 / 10000 : Rat) ≤ 34643 / 10000 * (34643 / 10000) := by decide +kernel
    grind
  have tE : Near (t - E * E) (E * E * eta6) := by
    have nE : Near (E * E) (E * E) := by unfold Near; constructor <;> grind
    have h := nE.mul hl
    have id : (t - E * E) * S = E * E * (l * l - S) := by grind
    rw [← id] at h
    unfold Near at h ⊢
    constructor
    · refine Rat.le_of_mul_le_mul_right (c := S) ?_ S0; grind
    · refine Rat.le_of_mul_le_mul_right (c := S) ?_ S0; grind
  have SS9 : 9 * S ≤ S * S := Rat.mul_le_mul_of_nonneg_right S9 (Rat.le_of_lt S0)
  have SS81 : 81 ≤ S * S := by grind
  have main : E * nabs (3 * V - 5 * (E * E)) + 177 / 100 ≤ 887 / 1000 * (S * S) := by
    have low := Rat.mul_le_mul_of_nonneg_left SS81 (show (0 : Rat) ≤ 887 / 1000 by decide +kernel)
    by_cases hc : 0 ≤ 3 * V - 5 * (E * E)
    · have e1 : nabs (3 * V - 5 * (E * E)) = 3 * V - 5 * (E * E) := if_pos hc
      rw [e1]
      have h1 := Rat.mul_le_mul_of_nonneg_left (show 3 * V - 5 * (E * E) ≤ 36 - 5 * (E * E) by grind) E0
      have h2 := cube_poly E0 (Rat.le_trans E346 (by decide +kernel))
      have h3 : (373 / 10 : Rat) + 177 / 100 ≤ 887 / 1000 * 81 := by decide +kernel
      grind
    · have e1 : nabs (3 * V - 5 * (E * E)) = -(3 * V - 5 * (E * E)) := if_neg hc
      rw [e1]
      have h1 : -(3 * V - 5 * (E * E)) ≤ 20001 / 10000 * (E * E) := by
        have h2 : 2 + 3 * eta6 ≤ 20001 / 10000 := by decide +kernel
        have h2 := Rat.mul_le_mul_of_nonneg_right h2 EE0
        grind
      have h2 := Rat.mul_le_mul_of_nonneg_left h1 E0
      by_cases h : S ≤ 10
      · have e84 := h10 h
        have E93 : E * E ≤ 93334 / 10000 := by
          refine Rat.le_of_mul_le_mul_right (c := 9 * (1 - eta6)) ?_ (by decide +kernel)
          have k1 : (84 : Rat) ≤ 93334 / 10000 * (9 * (1 - eta6)) := by decide +kernel
          have k2 : E * E * (9 * (1 - eta6)) ≤ E * E * (l * l) := Rat.mul_le_mul_of_nonneg_left (by
            have := Rat.mul_le_mul_of_nonneg_left S9 (Rat.le_of_lt c1)
            grind) EE0
          grind
        have E306 : E ≤ 306 / 100 := by
          refine le_of_sq (by decide +kernel) ?_
          have : (93334 / 10000 : Rat) ≤ 306 / 100 * (306 / 100) := by decide +kernel
          grind
        have h3 := Rat.mul_le_mul_of_nonneg_right E306 (show 0 ≤ 20001 / 10000 * (E * E) from Rat.mul_nonneg (by decide +kernel) EE0)
        have h4 := Rat.mul_le_mul_of_nonneg_left E93 (show (0 : Rat) ≤ 306 / 100 * (20001 / 10000) by decide +kernel)
        have h5 : (306 / 100 * (20001 / 10000) * (93334 / 10000) : Rat) + 177 / 100 ≤ 887 / 1000 * 81 := by decide +kernel
        grind
      · have S10 : 10 ≤ S := by grind
        have SS100 : 100 ≤ S * S := by have := sq_mono (show (0 : Rat) ≤ 10 by decide) S10; grind
        have low := Rat.mul_le_mul_of_nonneg_left SS100 (show (0 : Rat) ≤ 887 / 1000 by decide +kernel)
        have h3 := Rat.mul_le_mul_of_nonneg_right E346 (show 0 ≤ 20001 / 10000 * (E * E) from Rat.mul_nonneg (by decide +kernel) EE0)
        have h4 := Rat.mul_le_mul_of_nonneg_left E12 (show (0 : Rat) ≤ 34643 / 10000 * (20001 / 10000) by decide +kernel)
        have h5 : (34643 / 10000 * (20001 / 10000) * (120001 / 10000) : Rat) + 177 / 100 ≤ 887 / 1000 * 100 := by decide +kernel
        grind
  have nt : nabs (3 * V - 5 * t) ≤ nabs (3 * V - 5 * (E * E)) + 5 * (E * E * eta6) := by
    refine nabs_le_of ?_
    have h1 := nabs_near (3 * V - 5 * (E * E))
    have h5 : Near (5 * (t - E * E)) (5 * (E * E * eta6)) := by unfold Near at tE ⊢; constructor <;> grind
    have := h1.sub h5
    rw [show 3 * V - 5 * (E * E) - 5 * (t - E * E) = 3 * V - 5 * t by grind] at this
    exact this
  have nt2 : E * nabs (3 * V - 5 * t) ≤ E * nabs (3 * V - 5 * (E * E)) + E * (5 * (E * E * eta6)) := by
    have := Rat.mul_le_mul_of_nonneg_left nt E0
    rw [Rat.mul_add] at this
    exact this
  have small1 : E * (5 * (E * E * eta6)) ≤ 1 / 1000 := by
    have h1 := Rat.mul_le_mul_of_nonneg_right E12 eta0
    have h2 := Rat.mul_le_mul_of_nonneg_left (show 5 * (E * E * eta6) ≤ 5 * (120001 / 10000 * eta6) by grind) E0
    have h3 := Rat.mul_le_mul_of_nonneg_right E346 (show (0 : Rat) ≤ 5 * (120001 / 10000 * eta6) by decide +kernel)
    have h4 : 34643 / 10000 * (5 * (120001 / 10000 * eta6)) ≤ (1 / 1000 : Rat) := by decide +kernel
    grind
  have small2 : E * (51 / 100) ≤ 1767 / 1000 := by
    have h3 := Rat.mul_le_mul_of_nonneg_right E346 (show (0 : Rat) ≤ 51 / 100 by decide +kernel)
    exact Rat.le_trans h3 (by decide +kernel)
  have small3 : E * (2048 * eta6 * S) ≤ 8 / 10000 * (S * S) := by
    have h1 : 0 ≤ 2048 * eta6 * S := Rat.mul_nonneg (by decide +kernel) (Rat.le_of_lt S0)
    have h2 := Rat.mul_le_mul_of_nonneg_right E346 h1
    have h3 : 34643 / 10000 * (2048 * eta6) ≤ (8 / 10000 * 9 : Rat) := by decide +kernel
    have h3 := Rat.mul_le_mul_of_nonneg_right h3 (Rat.le_of_lt S0)
    have h4 := Rat.mul_le_mul_of_nonneg_left SS9 (show (0 : Rat) ≤ 8 / 10000 by decide +kernel)
    grind
  have c : (1767 / 1000 : Rat) + 1 / 1000 ≤ 177 / 100 := by decide +kernel
  have c2 : (8888 / 10000 : Rat) = 887 / 1000 + 8 / 10000 + 1 / 1000 := by decide +kernel
  have c3 := Rat.mul_nonneg (show (0 : Rat) ≤ 1 / 1000 by decide +kernel) (Rat.le_of_lt (Rat.mul_pos S0 S0))
  rw [c2]
  have ex : E * (nabs (3 * V - 5 * t) + 51 / 100 + 2048 * eta6 * S) = E * nabs (3 * V - 5 * t) + E * (51 / 100) + E * (2048 * eta6 * S) := by grind
  rw [ex]
  clear nt tE EV lS hl he hE EEl h10 ht
  generalize E * nabs (3 * V - 5 * t) = X at *
  generalize E * nabs (3 * V - 5 * (E * E)) = Y at *
  generalize E * (2048 * eta6 * S) = Z at *
  generalize E * (51 / 100) = W at *
  generalize E * (5 * (E * E * eta6)) = U at *
  grind
end
end Go.Fw

/-
  How one through a distance changes along a way, by two steps of a sixteenth.
-/
namespace Go.Fw
section
variable {S V e l A B iA iB i : Rat} (S9 : 9 ≤ S) (V0 : 0 ≤ V) (V12 : V ≤ 12) (he : e * e ≤ S * V) (l0 : 0 < l) (A0 : 0 < A) (B0 : 0 < B) (hl : Near (l * l - S) (S * eta6))
  (hA : Near (A * A - (S + e * (1 / 8) + V * (1 / 256))) ((S + e * (1 / 8) + V * (1 / 256)) * eta6)) (hB : Near (B * B - (S - e * (1 / 8) + V * (1 / 256))) ((S - e * (1 / 8) + V * (1 / 256)) * eta6))
  (h10 : S ≤ 10 → e * e ≤ 84)
include S9 V0 V12 he l0 A0 B0 hl hA hB h10
theorem along_T : 196 / 100 * (S * l) ≤ A * B * (A + B) ∧ nabs e * nabs (A * B * (A + B) - 2 * (S * l)) ≤ 179 / 100000 * (S * l * (A * B * (A + B))) := by
  have S0 : 0 < S := by grind
  have hτ : e * e / (256 * S) * (256 * S) = e * e := Rat.div_mul_cancel (by grind)
  obtain ⟨sq, τ0, τσ, σ0, σ1⟩ := along_sq S9 V0 V12 he A0 B0 hA hB (σ := V * (1 / 256)) rfl hτ
  generalize e * e / (256 * S) = τ at *
  generalize hσ : V * (1 / 256) = σ at *
  have T0 : 0 < A * B * (A + B) := Rat.mul_pos (Rat.mul_pos A0 B0) (by grind)
  generalize A * B * (A + B) = T at *
  clear hA hB A0 B0
  have eta0 : 0 ≤ eta6 := by decide +kernel
  have SS := Rat.mul_pos S0 S0
  have SSS := Rat.mul_pos SS S0
  have Sl := Rat.mul_pos S0 l0
  have σσ : σ * σ ≤ 12 / 256 * (12 / 256) := sq_mono σ0 σ1
  have TN := sq
  unfold Near at sq hl
  have low : 196 / 100 * (S * l) ≤ T := by
    refine le_of_sq (Rat.le_of_lt T0) ?_
    have e1 : 196 / 100 * (S * l) * (196 / 100 * (S * l)) = 196 / 100 * (196 / 100) * (S * S * (l * l)) := by grind
    have e2 : S * S * (l * l) ≤ (1 + eta6) * (S * S * S) := by
      have := Rat.mul_le_mul_of_nonneg_left (show l * l ≤ S + S * eta6 by grind) (Rat.le_of_lt SS)
      grind
    have e3 := Rat.mul_le_mul_of_nonneg_left e2 (show (0 : Rat) ≤ 196 / 100 * (196 / 100) by decide +kernel)
    have k1 : 196 / 100 * (196 / 100) * (1 + eta6) ≤ 4 - 5 / 100 - 28 * eta6 := by decide +kernel
    have k1 := Rat.mul_le_mul_of_nonneg_right k1 (Rat.le_of_lt SSS)
    have k2 : 8 * (12 / 256) + 36 / 10 * (12 / 256 * (12 / 256)) ≤ (5 / 100 * 9 : Rat) := by decide +kernel
    have k3 := Rat.mul_le_mul_of_nonneg_left (show 9 / 10 * (σ * σ) ≤ 9 / 10 * (12 / 256 * (12 / 256)) from Rat.mul_le_mul_of_nonneg_left σσ (by decide +kernel)) (Rat.le_of_lt SS)
    have k4 := Rat.mul_le_mul_of_nonneg_left (show -(2 * (12 / 256)) ≤ 3 * σ - 5 * τ by grind) (Rat.le_of_lt SS)
    have k5 := Rat.mul_le_mul_of_nonneg_right k2 (Rat.le_of_lt SS)
    have k6 : 5 / 100 * 9 * (S * S) ≤ 5 / 100 * (S * S * S) := by
      have := Rat.mul_le_mul_of_nonneg_right S9 (show 0 ≤ 5 / 100 * (S * S) from Rat.mul_nonneg (by decide +kernel) (Rat.le_of_lt SS))
      grind
    rw [e1]
    have sq1 := sq.1
    generalize (196 / 100 * (196 / 100) : Rat) = c1 at *
    generalize (12 / 256 * (12 / 256) : Rat) = c2 at *
    generalize (12 / 256 : Rat) = c3 at *
    generalize (5 / 100 : Rat) = c4 at *
    have k10 : (9 / 10 : Rat) * 4 = 36 / 10 := by decide +kernel
    grind
  refine ⟨low, ?_⟩
  have id : (T - 2 * (S * l)) * (T + 2 * (S * l)) = (T * T - 4 * (S * S * S + S * S * (3 * σ - 5 * τ))) + 4 * (S * S * (3 * σ - 5 * τ)) - 4 * (S * S * (l * l - S)) := by grind
  have P0 : 0 < T + 2 * (S * l) := by grind
  have nSS : Near (S * S) (S * S) := by unfold Near; constructor <;> grind
  have b2 := nSS.mul (nabs_near (3 * σ - 5 * τ))
  have b3 := nSS.mul (show Near (l * l - S) (S * eta6) from hl)
  have four : ∀ {x X : Rat}, Near x X → Near (4 * x) (4 * X) := fun h => by unfold Near at *; constructor <;> grind
  have bound := (TN.add (four b2)).sub (four b3)
  rw [← id] at bound
  have bound := bound.mono (show 4 * (S * S * (9 / 10 * (σ * σ)) + S * S * S * (7 * eta6)) + 4 * (S * S * nabs (3 * σ - 5 * τ)) + 4 * (S * S * (S * eta6)) ≤ 4 * (S * S) * (nabs (3 * σ - 5 * τ) + 9 / 10 * (σ * σ) + 8 * eta6 * S) by grind)
  have il : 1 / l * l = 1 := Rat.div_mul_cancel (by grind)
  have il0 : 0 ≤ 1 / l := by
    refine Rat.le_of_mul_le_mul_right (c := l) ?_ l0
    rw [il, Rat.zero_mul]; decide
  have E0 := Rat.mul_nonneg (nabs_pos e) il0
  have El : nabs e * (1 / l) * l = nabs e := by rw [Rat.mul_assoc, il, Rat.mul_one]
  have tS : 256 * τ * S = e * e := by rw [← hτ]; grind
  have pw := along_pow S9 V12 he hl El E0 tS h10
  generalize nabs e * (1 / l) = E at *
  have c256 : (256 : Rat) * (1 / 256) = 1 := by decide +kernel
  have Vσ : V = 256 * σ := by rw [← hσ]; grind
  have n256 : nabs (3 * V - 5 * (256 * τ)) = 256 * nabs (3 * σ - 5 * τ) := by
    have : 3 * V - 5 * (256 * τ) = 256 * (3 * σ - 5 * τ) := by rw [Vσ]; grind
    rw [this]
    unfold nabs
    by_cases h : 0 ≤ 3 * σ - 5 * τ
    · rw [if_pos h, if_pos (by grind)]
    · rw [if_neg h, if_neg (by grind)]; grind
  rw [n256] at pw
  have k51 : 256 * (9 / 10 * (12 / 256 * (12 / 256))) ≤ (51 / 100 : Rat) := by decide +kernel
  have σ51 : 256 * (9 / 10 * (σ * σ)) ≤ 51 / 100 := by
    have := Rat.mul_le_mul_of_nonneg_left σσ (show (0 : Rat) ≤ 9 / 10 by decide +kernel)
    grind
  have X0 : 0 ≤ nabs (3 * σ - 5 * τ) + 9 / 10 * (σ * σ) + 8 * eta6 * S := by
    have h1 := nabs_pos (3 * σ - 5 * τ)
    have h2 := Rat.mul_nonneg (show (0 : Rat) ≤ 9 / 10 by decide +kernel) (sqn σ)
    have h3 := Rat.mul_nonneg (show 0 ≤ 8 * eta6 by decide +kernel) (Rat.le_of_lt S0)
    grind
  have pw2 : E * (256 * (nabs (3 * σ - 5 * τ) + 9 / 10 * (σ * σ) + 8 * eta6 * S)) ≤ 8888 / 10000 * (S * S) := by
    refine Rat.le_trans (Rat.mul_le_mul_of_nonneg_left ?_ E0) pw
    grind
  generalize nabs (3 * σ - 5 * τ) + 9 / 10 * (σ * σ) + 8 * eta6 * S = X at *
  have D := nabs_le_of bound
  have nP : nabs ((T - 2 * (S * l)) * (T + 2 * (S * l))) = nabs (T - 2 * (S * l)) * (T + 2 * (S * l)) := by
    unfold nabs
    by_cases h : 0 ≤ T - 2 * (S * l)
    · rw [if_pos h, if_pos (Rat.mul_nonneg h (Rat.le_of_lt P0))]
    · by_cases hz : 0 ≤ (T - 2 * (S * l)) * (T + 2 * (S * l))
      · rw [if_neg h, if_pos hz]
        have := Rat.mul_nonneg (show 0 ≤ -(T - 2 * (S * l)) by grind) (Rat.le_of_lt P0)
        grind
      · rw [if_neg h, if_neg hz]; grind
  rw [nP] at D
  refine Rat.le_of_mul_le_mul_right (c := T + 2 * (S * l)) ?_ P0
  have m1 := Rat.mul_le_mul_of_nonneg_left D (nabs_pos e)
  rw [← El] at m1 ⊢
  have r1 : 196 / 100 * (S * l) * (396 / 100 * (S * l)) ≤ T * (T + 2 * (S * l)) := by
    have h1 : 396 / 100 * (S * l) ≤ T + 2 * (S * l) := by
      have : (396 / 100 : Rat) = 196 / 100 + 2 := by decide +kernel
      rw [this]; grind
    have h2 := Rat.mul_le_mul_of_nonneg_right low (Rat.le_of_lt P0)
    have h3 := Rat.mul_le_mul_of_nonneg_left h1 (show 0 ≤ 196 / 100 * (S * l) from Rat.mul_nonneg (by decide +kernel) (Rat.le_of_lt Sl))
    exact Rat.le_trans h3 h2
  have r2 := Rat.mul_le_mul_of_nonneg_left r1 (show 0 ≤ 179 / 100000 * (S * l) from Rat.mul_nonneg (by decide +kernel) (Rat.le_of_lt Sl))
  have r3 : (1 - eta6) * S ≤ l * l := by grind
  have q0 : 0 ≤ S * S * S * l := Rat.mul_nonneg (Rat.le_of_lt SSS) (Rat.le_of_lt l0)
  have r4 := Rat.mul_le_mul_of_nonneg_left r3 q0
  have r5 : (8888 / 10000 : Rat) * 4 ≤ 256 * (179 / 100000 * (196 / 100) * (396 / 100) * (1 - eta6)) := by decide +kernel
  have r5 := Rat.mul_le_mul_of_nonneg_right r5 (show 0 ≤ S * S * S * l * S from Rat.mul_nonneg q0 (Rat.le_of_lt S0))
  have r6 := Rat.mul_le_mul_of_nonneg_left pw2 (show 0 ≤ 4 * (S * S * l) from Rat.mul_nonneg (by decide) (Rat.mul_nonneg (Rat.le_of_lt SS) (Rat.le_of_lt l0)))
  have r7 := Rat.mul_le_mul_of_nonneg_left r4 (show (0 : Rat) ≤ 179 / 100000 * (196 / 100) * (396 / 100) by decide +kernel)
  have g1 : E * l * nabs (T - 2 * (S * l)) * (T + 2 * (S * l)) = E * l * (nabs (T - 2 * (S * l)) * (T + 2 * (S * l))) := by grind
  have g2 : 179 / 100000 * (S * l * T) * (T + 2 * (S * l)) = 179 / 100000 * (S * l) * (T * (T + 2 * (S * l))) := by grind
  rw [g1, g2]
  refine Rat.le_trans m1 (Rat.le_trans ?_ r2)
  have g3 : 179 / 100000 * (S * l) * (196 / 100 * (S * l) * (396 / 100 * (S * l))) = 179 / 100000 * (196 / 100) * (396 / 100) * (S * S * S * l * (l * l)) := by grind
  have g4 : E * l * (4 * (S * S) * X) = 4 * (S * S * l) * (E * X) := by grind
  have g5 : 4 * (S * S * l) * (E * (256 * X)) = 256 * (4 * (S * S * l) * (E * X)) := by grind
  have g6 : 4 * (S * S * l) * (8888 / 10000 * (S * S)) = 8888 / 10000 * 4 * (S * S * S * l * S) := by grind
  have g7 : 179 / 100000 * (196 / 100) * (396 / 100) * (S * S * S * l * ((1 - eta6) * S)) = 179 / 100000 * (196 / 100) * (396 / 100) * (1 - eta6) * (S * S * S * l * S) := by grind
  rw [g3, g4]
  rw [g5, g6] at r6
  rw [g7] at r7
  generalize 4 * (S * S * l) * (E * X) = L at *
  generalize S * S * S * l * (l * l) = R at *
  generalize S * S * S * l * S = Q at *
  generalize (179 / 100000 * (196 / 100) * (396 / 100) : Rat) = c at *
  clear m1 D bound id b2 b3 TN sq low g1 g2 g3 g4 g5 g6 g7 r1 r2 r3 r4 nP pw pw2 hl
  grind
theorem along_near (hiA : iA * A = 1) (hiB : iB * B = 1) (hi : i * (S * l) = 1) (l29 : 29 / 10 ≤ l) : Near (8 * (iA - iB) + e * i) (18 / 10000) := by
  obtain ⟨low, key⟩ := along_T S9 V0 V12 he l0 A0 B0 hl hA hB h10
  have S0 : 0 < S := by grind
  have Sl := Rat.mul_pos S0 l0
  have T0 : 0 < A * B * (A + B) := Rat.mul_pos (Rat.mul_pos A0 B0) (by grind)
  have hT : 1 / (A * B * (A + B)) * (A * B * (A + B)) = 1 := Rat.div_mul_cancel (by grind)
  have e1 : iA - iB = (B * B - A * A) * (1 / (A * B * (A + B))) := by
    have h : (iA - iB) * (A * B * (A + B)) = B * B - A * A := by
      have : (iA - iB) * (A * B * (A + B)) = iA * A * (B * (A + B)) - iB * B * (A * (A + B)) := by grind
      rw [this, hiA, hiB]; grind
    rw [← h, Rat.mul_assoc, Rat.mul_comm _ (1 / _), hT, Rat.mul_one]
  have hT0 : 0 ≤ 1 / (A * B * (A + B)) := by
    refine Rat.le_of_mul_le_mul_right (c := A * B * (A + B)) ?_ T0
    rw [hT, Rat.zero_mul]; decide
  have i0 : 0 ≤ i := by
    refine Rat.le_of_mul_le_mul_right (c := S * l) ?_ Sl
    rw [hi, Rat.zero_mul]; decide
  rw [e1]
  generalize A * B * (A + B) = T at *
  generalize 1 / T = j at *
  have δ := hB.sub hA
  have eta0 : 0 ≤ eta6 := by decide +kernel
  have V256 : V * (1 / 256) ≤ 1 / 20 := by
    have := Rat.mul_le_mul_of_nonneg_right V12 (show (0 : Rat) ≤ 1 / 256 by decide +kernel)
    exact Rat.le_trans this (by decide +kernel)
  have δ := δ.mono (show (S - e * (1 / 8) + V * (1 / 256)) * eta6 + (S + e * (1 / 8) + V * (1 / 256)) * eta6 ≤ 21 / 10 * (S * eta6) by
    have h1 := Rat.mul_le_mul_of_nonneg_right (show 2 * S + 2 * (V * (1 / 256)) ≤ 2 * S + 1 / 10 by
      have : (1 / 10 : Rat) = 2 * (1 / 20) := by decide +kernel
      rw [this]; grind) eta0
    have h2 := Rat.mul_le_mul_of_nonneg_right (show (1 / 10 : Rat) ≤ 1 / 10 * S by
      have : (1 / 10 : Rat) * 1 ≤ 1 / 10 * S := Rat.mul_le_mul_of_nonneg_left (by grind) (by decide +kernel)
      grind) eta0
    have h3 : (21 / 10 : Rat) = 2 + 1 / 10 := by decide +kernel
    rw [h3]
    grind)
  have k8 : (1 / 8 : Rat) * 8 = 1 := by decide +kernel
  have id : 8 * ((B * B - A * A) * j) + e * i = e * ((T - 2 * (S * l)) * (i * j)) + 8 * ((B * B - (S - e * (1 / 8) + V * (1 / 256)) - (A * A - (S + e * (1 / 8) + V * (1 / 256)))) * j) := by
    have a : e * ((T - 2 * (S * l)) * (i * j)) = e * i * (j * T) - 2 * e * j * (i * (S * l)) := by grind
    rw [a, hT, hi]
    grind
  rw [id]
  have ij := Rat.mul_nonneg i0 hT0
  have first : Near (e * ((T - 2 * (S * l)) * (i * j))) (179 / 100000) := by
    have h1 := ((nabs_near e).mul (nabs_near (T - 2 * (S * l)))).mono key
    have h2 := h1.mul (show Near (i * j) (i * j) by unfold Near; constructor <;> grind)
    have e2 : 179 / 100000 * (S * l * T) * (i * j) = 179 / 100000 * ((i * (S * l)) * (j * T)) := by grind
    rw [e2, hi, hT] at h2
    have e3 : e * (T - 2 * (S * l)) * (i * j) = e * ((T - 2 * (S * l)) * (i * j)) := by grind
    rw [e3] at h2
    exact h2.mono (by decide +kernel)
  have Sj : S * j ≤ 18 / 100 := by
    have h1 : S * j * (196 / 100 * (29 / 10)) ≤ 1 := by
      have h2 := Rat.mul_le_mul_of_nonneg_left l29 (show 0 ≤ S * j * (196 / 100) from Rat.mul_nonneg (Rat.mul_nonneg (Rat.le_of_lt S0) hT0) (by decide +kernel))
      have h3 := Rat.mul_le_mul_of_nonneg_right low hT0
      grind
    refine Rat.le_of_mul_le_mul_right (c := 196 / 100 * (29 / 10)) ?_ (by decide +kernel)
    exact Rat.le_trans h1 (by decide +kernel)
  have second : Near (8 * ((B * B - (S - e * (1 / 8) + V * (1 / 256)) - (A * A - (S + e * (1 / 8) + V * (1 / 256)))) * j)) (1 / 100000) := by
    have h1 := δ.mul (show Near j j by unfold Near; constructor <;> grind)
    have h2 : 8 * (21 / 10 * (S * eta6) * j) ≤ 1 / 100000 := by
      have h3 := Rat.mul_le_mul_of_nonneg_left Sj (show 0 ≤ 8 * (21 / 10 * eta6) by decide +kernel)
      have h4 : 8 * (21 / 10 * eta6) * (18 / 100) ≤ 1 / 100000 := by decide +kernel
      grind
    generalize B * B - (S - e * (1 / 8) + V * (1 / 256)) - (A * A - (S + e * (1 / 8) + V * (1 / 256))) = d at *
    unfold Near at h1 ⊢
    constructor <;> grind
  exact (first.add second).mono (by decide +kernel)
end
end Go.Fw

/-
  Numbers that are whole parts of a power of two: sums, differences, products without rounding.
-/
namespace Go.Fw
def Dy (e : Nat) (w : Nat) (z : Int) : Prop := e ≤ 149 ∧ Fin .f32 w (z * ((2 ^ (149 - e) : Nat) : Int))
theorem rI_whole {z : Int} {p : Nat} (hz : z.natAbs < 16777216) : rI .f32 (z * ((2 ^ p : Nat) : Int)) 1 = z * ((2 ^ p : Nat) : Int) := by
  refine rI_exact (m := z.natAbs) (p := p) ?_ hz
  rw [Int.natAbs_mul, Int.natAbs_natCast]
theorem whole_lim {z : Int} {p : Nat} (hz : z.natAbs < 16777216) (hp : p ≤ 149) : (z * ((2 ^ p : Nat) : Int)).natAbs < limK .f32 := by
  rw [Int.natAbs_mul, Int.natAbs_natCast, limK_pow]
  have h1 : 2 ^ p ≤ 2 ^ 149 := Nat.pow_le_pow_right (by omega) hp
  have h2 : z.natAbs * 2 ^ p ≤ 16777216 * 2 ^ 149 := Nat.mul_le_mul (by omega) h1
  have h3 : 16777216 * 2 ^ 149 < 2 ^ limE .f32 := by
    have e : (16777216 : Nat) = 2 ^ 24 := rfl
    rw [e, ← Nat.pow_add]
    exact Nat.pow_lt_pow_right (by omega) (by show 173 < 277; omega)
  omega
theorem Dy.add {e x y : Nat} {a b : Int} (hx : Dy e x a) (hy : Dy e y b) (h : (a + b).natAbs < 16777216) : Dy e (fop .add .f32 x y) (a + b) := by
  obtain ⟨h0, h1⟩ := hx
  obtain ⟨_, h2⟩ := hy
  refine ⟨h0, ?_⟩
  have k := Fin.add h1 h2
  rw [← Int.add_mul, rI_whole h] at k
  exact k (whole_lim h (by omega))
theorem Dy.sub {e x y : Nat} {a b : Int} (hx : Dy e x a) (hy : Dy e y b) (h : (a - b).natAbs < 16777216) : Dy e (fop .sub .f32 x y) (a - b) := by
  obtain ⟨h0, h1⟩ := hx
  obtain ⟨_, h2⟩ := hy
  refine ⟨h0, ?_⟩
  have k := Fin.sub h1 h2
  rw [← Int.sub_mul, rI_whole h] at k
  exact k (whole_lim h (by omega))
theorem rI_scal' (z : Int) : rI .f32 (z * ((2 ^ 149 : Nat) : Int)) (2 ^ scK .f32) = rI .f32 z 1 := by
  have sc : scK .f32 = 149 := rfl
  rw [sc]
  unfold rI
  have np : (0 : Int) < ((2 ^ 149 : Nat) : Int) := by decide
  have d : decide (z * ((2 ^ 149 : Nat) : Int) < 0) = decide (z < 0) := by
    by_cases hz : z < 0
    · rw [decide_eq_true hz, decide_eq_true (Int.mul_neg_of_neg_of_pos hz np)]
    · rw [decide_eq_false hz, decide_eq_false (Int.not_lt.2 (Int.mul_nonneg (Int.not_lt.1 hz) (Int.le_of_lt np)))]
  rw [d, Int.natAbs_mul, Int.natAbs_natCast]
  congr 1
  have := rq_scale (fb := fbK .f32) (A := z.natAbs) (B := 1) (k := 2 ^ 149) (Nat.two_pow_pos _)
  rw [Nat.one_mul] at this
  exact this
theorem Dy.mul {e f x y : Nat} {a b : Int} (hx : Dy e x a) (hy : Dy f y b) (hef : e + f ≤ 149) (h : (a * b).natAbs < 16777216) : Dy (e + f) (fop .mul .f32 x y) (a * b) := by
  obtain ⟨_, h1⟩ := hx
  obtain ⟨_, h2⟩ := hy
  refine ⟨hef, ?_⟩
  have k := Fin.mul h1 h2
  have e1 : a * ((2 ^ (149 - e) : Nat) : Int) * (b * ((2 ^ (149 - f) : Nat) : Int)) = a * b * ((2 ^ (149 - (e + f)) : Nat) : Int) * ((2 ^ 149 : Nat) : Int) := by
    have e2 : (2 ^ (149 - e) : Nat) * 2 ^ (149 - f) = 2 ^ (149 - (e + f)) * 2 ^ 149 := by
      rw [← Nat.pow_add, ← Nat.pow_add]
      congr 1
      omega
    have e3 : ((2 ^ (149 - e) : Nat) : Int) * ((2 ^ (149 - f) : Nat) : Int) = ((2 ^ (149 - (e + f)) : Nat) : Int) * ((2 ^ 149 : Nat) : Int) := by
      rw [← Int.natCast_mul, ← Int.natCast_mul, e2]
    generalize ((2 ^ (149 - e) : Nat) : Int) = p at *
    generalize ((2 ^ (149 - f) : Nat) : Int) = q at *
    generalize ((2 ^ (149 - (e + f)) : Nat) : Int) = r at *
    generalize ((2 ^ 149 : Nat) : Int) = s at *
    have : a * p * (b * q) = a * b * (p * q) := by grind
    rw [this, e3]
    grind
  rw [e1, rI_scal', rI_whole h] at k
  exact k (whole_lim h (by omega))
theorem Dy.neg {e x : Nat} {a : Int} (hx : Dy e x a) : Dy e (fneg .f32 x) (-a) := by
  refine ⟨hx.1, ?_⟩
  rw [Int.neg_mul]
  exact hx.2.neg
theorem Dy.up {e x : Nat} {a : Int} (d : Nat) (hx : Dy e x a) (h : e + d ≤ 149) : Dy (e + d) x (a * ((2 ^ d : Nat) : Int)) := by
  refine ⟨h, ?_⟩
  have e1 : a * ((2 ^ d : Nat) : Int) * ((2 ^ (149 - (e + d)) : Nat) : Int) = a * ((2 ^ (149 - e) : Nat) : Int) := by
    rw [Int.mul_assoc, ← Int.natCast_mul, ← Nat.pow_add]
    congr 3
    omega
  rw [e1]
  exact hx.2
def dyu (e : Nat) : Rat := 1 / ((2 ^ e : Nat) : Rat)
theorem dyu_mul (e : Nat) : dyu e * ((2 ^ e : Nat) : Rat) = 1 := Rat.div_mul_cancel (by
  have : (0 : Rat) < ((2 ^ e : Nat) : Rat) := Rat.natCast_pos.2 (Nat.two_pow_pos _)
  grind)
theorem Dy.val {e w : Nat} {z : Int} (h : Dy e w z) : Val .f32 w ((z : Rat) * dyu e) := by
  refine ⟨_, h.2, ?_⟩
  rw [Rat.intCast_mul, Rat.intCast_natCast]
  have u : unit .f32 = ((2 ^ (149 - e) : Nat) : Rat) * ((2 ^ e : Nat) : Rat) := by
    rw [← Rat.natCast_mul, ← Nat.pow_add, show 149 - e + e = 149 by have := h.1; omega]
    rfl
  have := dyu_mul e
  rw [u]
  grind
theorem Dy.of_val {e w : Nat} {z : Int} (he : e ≤ 149) (h : Val .f32 w ((z : Rat) * dyu e)) : Dy e w z := by
  obtain ⟨n, h1, h2⟩ := h
  refine ⟨he, ?_⟩
  have u : unit .f32 = ((2 ^ (149 - e) : Nat) : Rat) * ((2 ^ e : Nat) : Rat) := by
    rw [← Rat.natCast_mul, ← Nat.pow_add, show 149 - e + e = 149 by omega]
    rfl
  have k := dyu_mul e
  have e1 : (n : Rat) = ((z * ((2 ^ (149 - e) : Nat) : Int) : Int) : Rat) := by
    rw [h2, Rat.intCast_mul, Rat.intCast_natCast, u]
    grind
  have := Rat.intCast_inj.1 e1
  rw [← this]
  exact h1
end Go.Fw

/-
  Two pieces of wires whose numbers are whole parts: their distance's root, their potential, the force.
-/
namespace Go.Fw
theorem near_add2 {a b E F : Rat} (h : Near (a - b) E) (hb : Near b F) : Near a (F + E) := by
  have := hb.add h
  rw [show b + (a - b) = a by grind] at this
  exact this
structure Pz (w1 w2 w3 m1 m2 m3 : Nat) (a b c u v w : Int) (lam : Rat) : Prop where
  v1 : Dy 7 w1 a
  v2 : Dy 7 w2 b
  v3 : Dy 7 w3 c
  v4 : Dy 8 m1 u
  v5 : Dy 8 m2 v
  v6 : Dy 8 m3 w
  na : a.natAbs ≤ 600
  nb : b.natAbs ≤ 600
  nc : c.natAbs ≤ 600
  ww : ((a * a + b * b + c * c : Int) : Rat) * dyu 14 ≤ lam * lam
  l0 : 1 / 1099511627776 ≤ lam
  l1 : lam ≤ 16
structure Apz (dx dy dz : Int) : Prop where
  x1 : 736 ≤ dx.natAbs
  x2 : dx.natAbs ≤ 2900
  y : dy.natAbs ≤ 1100
  z : dz.natAbs ≤ 1100
theorem Apz.neg {a b c : Int} (h : Apz a b c) : Apz (-a) (-b) (-c) := ⟨by rw [Int.natAbs_neg]; exact h.x1, by rw [Int.natAbs_neg]; exact h.x2, by rw [Int.natAbs_neg]; exact h.y, by rw [Int.natAbs_neg]; exact h.z⟩
def sqz (dx dy dz : Int) : Int := dx * dx + dy * dy + dz * dz
theorem sq_nat (a : Int) : a * a = ((a.natAbs * a.natAbs : Nat) : Int) := by rw [Int.natCast_mul]; exact (Int.natAbs_mul_self' a).symm
theorem sq_bound {a : Int} {n : Nat} (h : a.natAbs ≤ n) : 0 ≤ a * a ∧ a * a ≤ ((n * n : Nat) : Int) := by
  rw [sq_nat]
  have := Nat.mul_le_mul h h
  omega
theorem Apz.sq {a b c : Int} (h : Apz a b c) : 541696 ≤ sqz a b c ∧ sqz a b c ≤ 10830000 := by
  have h1 := sq_bound h.x2
  have h2 := sq_bound h.y
  have h3 := sq_bound h.z
  have h4 : 541696 ≤ a * a := by
    rw [sq_nat]
    have := Nat.mul_le_mul h.x1 h.x1
    omega
  unfold sqz
  omega
theorem Apz.sum {dx dy dz : Nat} {a b c : Int} (hx : Dy 8 dx a) (hy : Dy 8 dy b) (hz : Dy 8 dz c) (h : Apz a b c) : Dy 16 (fop .add .f32 (fop .add .f32 (fop .mul .f32 dx dx) (fop .mul .f32 dy dy)) (fop .mul .f32 dz dz)) (sqz a b c) := by
  have h1 := sq_bound h.x2
  have h2 := sq_bound h.y
  have h3 := sq_bound h.z
  have p := hx.mul hx (by omega) (by omega)
  have q := hy.mul hy (by omega) (by omega)
  have r := hz.mul hz (by omega) (by omega)
  exact (p.add q (by omega)).add r (by omega)
theorem root_z {q : Nat} {a b c : Int} (hq : Dy 16 q (sqz a b c)) (h : Apz a b c) : ∃ l, Val .f32 (fcvt .f64 .f32 (fsqrt (fcvt .f32 .f64 q))) l ∧ 287 / 100 ≤ l ∧ l ≤ 13 ∧ Near (l * l - (sqz a b c : Rat) * dyu 16) ((sqz a b c : Rat) * dyu 16 * eta6) ∧ 826 / 100 ≤ (sqz a b c : Rat) * dyu 16 ∧ (sqz a b c : Rat) * dyu 16 ≤ 166 := by
  obtain ⟨h1, h2⟩ := h.sq
  have h1 : ((541696 : Int) : Rat) ≤ (sqz a b c : Rat) := Rat.intCast_le_intCast.2 h1
  have h2 : (sqz a b c : Rat) ≤ ((10830000 : Int) : Rat) := Rat.intCast_le_intCast.2 h2
  have u0 : 0 ≤ dyu 16 := by decide +kernel
  have s1 := Rat.mul_le_mul_of_nonneg_right h1 u0
  have s2 := Rat.mul_le_mul_of_nonneg_right h2 u0
  have c1 : (826 / 100 : Rat) ≤ ((541696 : Int) : Rat) * dyu 16 := by decide +kernel
  have c2 : ((10830000 : Int) : Rat) * dyu 16 ≤ 166 := by decide +kernel
  have v := hq.val
  generalize (sqz a b c : Rat) * dyu 16 = S at *
  have S0 : 0 ≤ S := Rat.le_trans (by decide +kernel) (Rat.le_trans c1 s1)
  obtain ⟨l, l1, l2, l3, _⟩ := v.root S0 (by
    have : (166 : Rat) ≤ most := by decide +kernel
    grind)
  have e1 : e22 ≤ eta6 := by decide +kernel
  have e2 := Rat.mul_le_mul_of_nonneg_left e1 S0
  have l3 := l3.mono e2
  have e3 : eta6 ≤ 1 / 1000 := by decide +kernel
  have e4 := Rat.mul_le_mul_of_nonneg_left e3 S0
  refine ⟨l, l1, ?_, ?_, l3, by grind, by grind⟩
  · refine le_of_sq l2 ?_
    have k : (287 / 100 : Rat) * (287 / 100) ≤ 826 / 100 * (1 - 1 / 1000) := by decide +kernel
    have k2 := Rat.mul_le_mul_of_nonneg_right (show 826 / 100 ≤ S by grind) (show (0 : Rat) ≤ 1 - 1 / 1000 by decide +kernel)
    unfold Near at l3
    grind
  · refine le_of_sq (by decide) ?_
    have k : (166 : Rat) * (1 + 1 / 1000) ≤ 13 * 13 := by decide +kernel
    have k2 := Rat.mul_le_mul_of_nonneg_right (show S ≤ 166 by grind) (show (0 : Rat) ≤ 1 + 1 / 1000 by decide +kernel)
    unfold Near at l3
    grind
section
variable {w1 w2 w3 m1 m2 m3 x1 x2 x3 n1 n2 n3 : Nat} {a b c u v w a' b' c' u' v' w' : Int} {lam mu : Rat} (hp : Pz w1 w2 w3 m1 m2 m3 a b c u v w lam) (hq : Pz x1 x2 x3 n1 n2 n3 a' b' c' u' v' w' mu)
include hp hq
theorem dot_z : Dy 14 (fop .add .f32 (fop .add .f32 (fop .mul .f32 w1 x1) (fop .mul .f32 w2 x2)) (fop .mul .f32 w3 x3)) (a * a' + b * b' + c * c') ∧ Near (((a * a' + b * b' + c * c' : Int) : Rat) * dyu 14) (lam * mu) ∧ 0 ≤ lam ∧ 0 ≤ mu ∧ lam * mu ≤ 256 ∧ 40 * tiny .f32 ≤ ur .f32 * (lam * mu) := by
  have pb : ∀ {s t : Int}, s.natAbs ≤ 600 → t.natAbs ≤ 600 → (s * t).natAbs ≤ 360000 := fun {s t} h1 h2 => by
    rw [Int.natAbs_mul]; exact Nat.mul_le_mul h1 h2
  have b1 := pb hp.na hq.na
  have b2 := pb hp.nb hq.nb
  have b3 := pb hp.nc hq.nc
  have p := hp.v1.mul hq.v1 (by omega) (by omega)
  have q := hp.v2.mul hq.v2 (by omega) (by omega)
  have r := hp.v3.mul hq.v3 (by omega) (by omega)
  have la0 : 0 ≤ lam := Rat.le_trans (by decide +kernel) hp.l0
  have lb0 : 0 ≤ mu := Rat.le_trans (by decide +kernel) hq.l0
  have LL : lam * mu ≤ 256 := by
    have h1 := Rat.mul_le_mul_of_nonneg_right hp.l1 lb0
    have h2 := Rat.mul_le_mul_of_nonneg_left hq.l1 (show (0 : Rat) ≤ 16 by decide)
    grind
  have LL0 : 1 / 1099511627776 * (1 / 1099511627776) ≤ lam * mu := by
    have h1 := Rat.mul_le_mul_of_nonneg_right hp.l0 lb0
    have h2 := Rat.mul_le_mul_of_nonneg_left hq.l0 (show (0 : Rat) ≤ 1 / 1099511627776 by decide +kernel)
    grind
  refine ⟨(p.add q (by omega)).add r (by omega), ?_, la0, lb0, LL, ?_⟩
  · have e14 : dyu 14 = dyu 7 * dyu 7 := by decide +kernel
    have k1 := hp.ww
    have k2 := hq.ww
    rw [e14] at k1 k2 ⊢
    have := cs3 (a := (a : Rat) * dyu 7) (b := (b : Rat) * dyu 7) (c := (c : Rat) * dyu 7) (p := (a' : Rat) * dyu 7) (q := (b' : Rat) * dyu 7) (r := (c' : Rat) * dyu 7) (X := lam) (Y := mu) (by
      rw [Rat.intCast_add, Rat.intCast_add, Rat.intCast_mul, Rat.intCast_mul, Rat.intCast_mul] at k1
      grind) (by
      rw [Rat.intCast_add, Rat.intCast_add, Rat.intCast_mul, Rat.intCast_mul, Rat.intCast_mul] at k2
      grind) la0 lb0
    rw [Rat.intCast_add, Rat.intCast_add, Rat.intCast_mul, Rat.intCast_mul, Rat.intCast_mul]
    have e : (a : Rat) * dyu 7 * ((a' : Rat) * dyu 7) + (b : Rat) * dyu 7 * ((b' : Rat) * dyu 7) + (c : Rat) * dyu 7 * ((c' : Rat) * dyu 7) = ((a : Rat) * a' + b * b' + c * c') * (dyu 7 * dyu 7) := by grind
    rw [e] at this
    exact this
  · have h1 := Rat.mul_le_mul_of_nonneg_left LL0 (Rat.le_of_lt (ur_pos .f32))
    have h2 : 40 * tiny .f32 ≤ ur .f32 * (1 / 1099511627776 * (1 / 1099511627776)) := by decide +kernel
    grind
theorem pot_z {r : Nat} {l : Rat} (hr : Val .f32 r l) (l1 : 287 / 100 ≤ l) : ∃ f, Val .f32 (fop .quo .f32 (fop .add .f32 (fop .add .f32 (fop .mul .f32 w1 x1) (fop .mul .f32 w2 x2)) (fop .mul .f32 w3 x3)) r) f ∧ Near (f - ((a * a' + b * b' + c * c' : Int) : Rat) * dyu 14 * (1 / l)) (1 / 10000000 * (lam * mu)) ∧ Near f (35 / 100 * (lam * mu)) := by
  obtain ⟨d1, d2, la0, lb0, LL, tt⟩ := dot_z hp hq
  have v := d1.val
  have l0 : 0 < l := by
    have : (0 : Rat) < 287 / 100 := by decide +kernel
    grind
  have hI : 1 / l * l = 1 := Rat.div_mul_cancel (by grind)
  have I0 : 0 ≤ 1 / l := by
    refine Rat.le_of_mul_le_mul_right (c := l) ?_ l0
    rw [hI, Rat.zero_mul]; decide
  have I1 : 1 / l ≤ 349 / 1000 := by
    refine Rat.le_of_mul_le_mul_right (c := l) ?_ l0
    rw [hI]
    have := Rat.mul_le_mul_of_nonneg_left l1 (show (0 : Rat) ≤ 349 / 1000 by decide +kernel)
    have : (1 : Rat) ≤ 349 / 1000 * (287 / 100) := by decide +kernel
    grind
  generalize ((a * a' + b * b' + c * c' : Int) : Rat) * dyu 14 = W at *
  have e : W / l = W * (1 / l) := by
    have h : W / l * l = W := Rat.div_mul_cancel (by grind)
    have : W / l * (1 / l * l) = W * (1 / l) := by
      have : W / l * (1 / l * l) = W / l * l * (1 / l) := by grind
      rw [this, h]
    rw [hI, Rat.mul_one] at this
    exact this
  have n := d2.mul (show Near (1 / l) (349 / 1000) by unfold Near; constructor <;> grind)
  generalize lam * mu = Y at *
  have Y0 : 0 ≤ Y := d2.nonneg
  obtain ⟨f, f1, f2⟩ := v.quo hr (by grind) (X := Y * (349 / 1000)) (by rw [e]; exact n) (by
    have h1 := Rat.mul_le_mul_of_nonneg_right LL (show (0 : Rat) ≤ 349 / 1000 by decide +kernel)
    have : (256 * (349 / 1000) : Rat) ≤ most := by decide +kernel
    grind)
  rw [e] at f2
  have k : 349 / 1000 * ur .f32 + ur .f32 ≤ 1 / 10000000 := by decide +kernel
  have k := Rat.mul_le_mul_of_nonneg_right k Y0
  have t0 := tiny_pos .f32
  have f2 := f2.mono (show Y * (349 / 1000) * ur .f32 + tiny .f32 ≤ 1 / 10000000 * Y by grind)
  refine ⟨f, f1, f2, ?_⟩
  have := n.add f2
  rw [show W * (1 / l) + (f - W * (1 / l)) = f by grind] at this
  refine this.mono ?_
  have k : (349 / 1000 : Rat) + 1 / 10000000 ≤ 35 / 100 := by decide +kernel
  have k := Rat.mul_le_mul_of_nonneg_right k Y0
  grind
theorem fac_z {q r : Nat} {S l : Rat} (hQ : Val .f32 q S) (hr : Val .f32 r l) (S1 : 826 / 100 ≤ S) (S2 : S ≤ 166) (l1 : 287 / 100 ≤ l) (l2 : l ≤ 13) : ∃ f, Val .f32 (fop .quo .f32 (fneg .f32 (fop .add .f32 (fop .add .f32 (fop .mul .f32 w1 x1) (fop .mul .f32 w2 x2)) (fop .mul .f32 w3 x3))) (fop .mul .f32 q r)) f ∧ Near (f + ((a * a' + b * b' + c * c' : Int) : Rat) * dyu 14 * (1 / (S * l))) (4 * ur .f32 * (lam * mu * (1 / (S * l)))) ∧ 0 ≤ 1 / (S * l) ∧ 1 / (S * l) * l ≤ 122 / 1000 ∧ 40 * tiny .f32 ≤ ur .f32 * (lam * mu * (1 / (S * l))) := by
  obtain ⟨d1, d2, la0, lb0, LL, tt⟩ := dot_z hp hq
  have v := d1.neg.val
  have l0 : 0 < l := by
    have : (0 : Rat) < 287 / 100 := by decide +kernel
    grind
  have S0 : 0 < S := by
    have : (0 : Rat) < 826 / 100 := by decide +kernel
    grind
  have P0 := Rat.mul_pos S0 l0
  have hI : 1 / (S * l) * (S * l) = 1 := Rat.div_mul_cancel (by grind)
  have I0 : 0 ≤ 1 / (S * l) := by
    refine Rat.le_of_mul_le_mul_right (c := S * l) ?_ P0
    rw [hI, Rat.zero_mul]; decide
  have PM : S * l ≤ 2158 := by
    have h1 := Rat.mul_le_mul_of_nonneg_right S2 (Rat.le_of_lt l0)
    have h2 := Rat.mul_le_mul_of_nonneg_left l2 (show (0 : Rat) ≤ 166 by decide)
    have : (166 * 13 : Rat) ≤ 2158 := by decide +kernel
    grind
  have Il : 1 / (S * l) * l ≤ 122 / 1000 := by
    refine Rat.le_of_mul_le_mul_right (c := S) ?_ S0
    have : 1 / (S * l) * l * S = 1 := by rw [← hI]; grind
    rw [this]
    have := Rat.mul_le_mul_of_nonneg_left S1 (show (0 : Rat) ≤ 122 / 1000 by decide +kernel)
    have : (1 : Rat) ≤ 122 / 1000 * (826 / 100) := by decide +kernel
    grind
  have Ilow : 1 / 2158 ≤ 1 / (S * l) := by
    refine Rat.le_of_mul_le_mul_right (c := S * l) ?_ P0
    rw [hI]
    have h := Rat.mul_le_mul_of_nonneg_left PM (show (0 : Rat) ≤ 1 / 2158 by decide +kernel)
    have : (1 / 2158 : Rat) * 2158 = 1 := by decide +kernel
    grind
  have LL0 : 1 / 1099511627776 * (1 / 1099511627776) ≤ lam * mu := by
    have h1 := Rat.mul_le_mul_of_nonneg_right hp.l0 lb0
    have h2 := Rat.mul_le_mul_of_nonneg_left hq.l0 (show (0 : Rat) ≤ 1 / 1099511627776 by decide +kernel)
    grind
  have u0 := ur_pos .f32
  have t0 := tiny_pos .f32
  have us : ur .f32 * 1024 ≤ 1 := ur32_small
  obtain ⟨P, P1, P2⟩ := hQ.mul hr (X := S * l) (by unfold Near; constructor <;> grind) (by
    have : (2158 : Rat) ≤ most := by decide +kernel
    grind)
  have tP : tiny .f32 ≤ 1 / 1000 * ur .f32 * (S * l) := by
    have h1 : (1 : Rat) ≤ S * l := by
      have h2 := Rat.mul_le_mul_of_nonneg_right S1 (Rat.le_of_lt l0)
      have h3 := Rat.mul_le_mul_of_nonneg_left l1 (show (0 : Rat) ≤ 826 / 100 by decide +kernel)
      have : (1 : Rat) ≤ 826 / 100 * (287 / 100) := by decide +kernel
      grind
    have h2 : tiny .f32 ≤ 1 / 1000 * ur .f32 := by decide +kernel
    have h3 := Rat.mul_le_mul_of_nonneg_left h1 (show 0 ≤ 1 / 1000 * ur .f32 from Rat.mul_nonneg (by decide +kernel) (Rat.le_of_lt u0))
    grind
  have P3 : Near (P - S * l) (1001 / 1000 * ur .f32 * (S * l)) := P2.mono (by
    have : (1001 / 1000 : Rat) = 1 + 1 / 1000 := by decide +kernel
    rw [this]; grind)
  have Pu : S * l * (ur .f32 * 1024) ≤ S * l * 1 := Rat.mul_le_mul_of_nonneg_left us (Rat.le_of_lt P0)
  have Plow : 99 / 100 * (S * l) ≤ P := by
    have h1 : 1001 / 1000 * ur .f32 ≤ 1 / 100 := by decide +kernel
    have h1 := Rat.mul_le_mul_of_nonneg_right h1 (Rat.le_of_lt P0)
    have h2 : (99 / 100 : Rat) = 1 - 1 / 100 := by decide +kernel
    rw [h2]
    unfold Near at P3
    grind
  have Pp : 0 < P := by
    have : 0 < 99 / 100 * (S * l) := Rat.mul_pos (by decide +kernel) P0
    grind
  have hJ : 1 / P * P = 1 := Rat.div_mul_cancel (by grind)
  have J0 : 0 ≤ 1 / P := by
    refine Rat.le_of_mul_le_mul_right (c := P) ?_ Pp
    rw [hJ, Rat.zero_mul]; decide
  generalize hj : 1 / P = j at *
  generalize 1 / (S * l) = i at *
  have jn : Near (j - i) (102 / 100 * ur .f32 * i) := by
    have id : (j - i) * (S * l) = -(j * (P - S * l)) := by
      have : (j - i) * (S * l) = j * (S * l) - i * (S * l) := by grind
      rw [this, hI, ← hJ]; grind
    have j1 : j * (99 / 100) ≤ i := by
      refine Rat.le_of_mul_le_mul_right (c := S * l) ?_ P0
      rw [hI]
      have := Rat.mul_le_mul_of_nonneg_left Plow J0
      grind
    have n1 := (show Near j j by unfold Near; constructor <;> grind).mul P3
    have e1 : j * (1001 / 1000 * ur .f32 * (S * l)) ≤ 102 / 100 * ur .f32 * i * (S * l) := by
      have h1 : (1001 / 1000 : Rat) ≤ 102 / 100 * (99 / 100) := by decide +kernel
      have h2 := Rat.mul_le_mul_of_nonneg_right h1 (Rat.mul_nonneg J0 (Rat.mul_nonneg (Rat.le_of_lt u0) (Rat.le_of_lt P0)))
      have h3 := Rat.mul_le_mul_of_nonneg_left j1 (show 0 ≤ 102 / 100 * ur .f32 * (S * l) from Rat.mul_nonneg (Rat.mul_nonneg (by decide +kernel) (Rat.le_of_lt u0)) (Rat.le_of_lt P0))
      grind
    have n2 := n1.mono e1
    unfold Near at n2 ⊢
    constructor
    · refine Rat.le_of_mul_le_mul_right (c := S * l) ?_ P0
      rw [id]; grind
    · refine Rat.le_of_mul_le_mul_right (c := S * l) ?_ P0
      rw [id]; grind
  have ji : j ≤ 102 / 100 * i := by
    have h1 : 102 / 100 * ur .f32 ≤ 2 / 100 := by decide +kernel
    have h1 := Rat.mul_le_mul_of_nonneg_right h1 I0
    have h2 : (102 / 100 : Rat) = 1 + 2 / 100 := by decide +kernel
    unfold Near at jn
    rw [h2] at *
    grind
  have Wn : Near (((-(a * a' + b * b' + c * c') : Int) : Rat) * dyu 14) (lam * mu) := by
    rw [Rat.intCast_neg, Rat.neg_mul]; exact d2.neg
  have eW : ((-(a * a' + b * b' + c * c') : Int) : Rat) * dyu 14 = -(((a * a' + b * b' + c * c' : Int) : Rat) * dyu 14) := by rw [Rat.intCast_neg, Rat.neg_mul]
  rw [eW] at Wn v
  generalize ((a * a' + b * b' + c * c' : Int) : Rat) * dyu 14 = W at *
  have eq : -W / P = -W * j := by
    have h : -W / P * P = -W := Rat.div_mul_cancel (by grind)
    have : -W / P * (j * P) = -W * j := by
      have : -W / P * (j * P) = -W / P * P * j := by grind
      rw [this, h]
    rw [hJ, Rat.mul_one] at this
    exact this
  have nj : Near j (102 / 100 * i) := by unfold Near; constructor <;> grind
  have nW := Wn.mul nj
  have Y0 : 0 ≤ lam * mu := d2.nonneg
  have Yi := Rat.mul_nonneg Y0 I0
  have i1 : i ≤ 1 := by
    have h1 := Rat.mul_le_mul_of_nonneg_left (Rat.le_trans (show (1 : Rat) ≤ 287 / 100 by decide +kernel) l1) I0
    have : (122 / 1000 : Rat) ≤ 1 := by decide +kernel
    grind
  obtain ⟨f, f1, f2⟩ := v.quo P1 (by grind) (X := lam * mu * (102 / 100 * i)) (by rw [eq]; exact nW) (by
    have h1 := Rat.mul_le_mul_of_nonneg_left i1 Y0
    have h2 : (102 / 100 : Rat) * 256 ≤ most := by decide +kernel
    have h3 := Rat.mul_le_mul_of_nonneg_left (show lam * mu * i ≤ 256 by grind) (show (0 : Rat) ≤ 102 / 100 by decide +kernel)
    grind)
  rw [eq] at f2
  have tY : 40 * tiny .f32 ≤ ur .f32 * (lam * mu * i) := by
    have h1 : 40 * tiny .f32 ≤ ur .f32 * (1 / 1099511627776 * (1 / 1099511627776) * (1 / 2158)) := by decide +kernel
    have h2 := Rat.mul_le_mul_of_nonneg_right LL0 (show (0 : Rat) ≤ 1 / 2158 by decide +kernel)
    have h3 := Rat.mul_le_mul_of_nonneg_left Ilow Y0
    have h4 := Rat.mul_le_mul_of_nonneg_left (Rat.le_trans h2 h3) (Rat.le_of_lt u0)
    exact Rat.le_trans h1 h4
  refine ⟨f, f1, ?_, I0, Il, tY⟩
  have m := Wn.mul jn
  have id : f + W * i = (f - -W * j) + -W * (j - i) := by grind
  rw [id]
  refine (f2.add m).mono ?_
  have k : (102 / 100 : Rat) + 102 / 100 + 1 ≤ 4 := by decide +kernel
  have k := Rat.mul_le_mul_of_nonneg_right k (Rat.mul_nonneg (Rat.le_of_lt u0) Yi)
  grind
omit hp hq in
theorem force_z {d f : Nat} {D l i : Rat} {W : Rat} (hd : Val .f32 d D) (hf : ∃ g, Val .f32 f g ∧ Near (g + W * i) (4 * ur .f32 * (lam * mu * i))) (hW : Near W (lam * mu)) (hD : Near D (101 / 100 * l)) (l2 : l ≤ 13) (l0 : 0 ≤ l) (i0 : 0 ≤ i) (il : i * l ≤ 122 / 1000) (tt : 40 * tiny .f32 ≤ ur .f32 * (lam * mu)) (Y256 : lam * mu ≤ 256) : ∃ t, Val .f32 (fop .mul .f32 d f) t ∧ Near (t + W * D * i) (1 / 10000000 * (lam * mu)) ∧ Near t (1 / 8 * (lam * mu)) := by
  obtain ⟨g, g1, g2⟩ := hf
  have Y0 : 0 ≤ lam * mu := hW.nonneg
  generalize lam * mu = Y at *
  have u0 := ur_pos .f32
  have t0 := tiny_pos .f32
  have ni : Near i i := by unfold Near; constructor <;> grind
  have gN : Near g (Y * i + 4 * ur .f32 * (Y * i)) := by
    have := (hW.mul ni).neg.add g2
    rw [show -(W * i) + (g + W * i) = g by grind] at this
    exact this
  have yi := Rat.mul_nonneg Y0 i0
  have Yil : Y * (i * l) ≤ Y * (122 / 1000) := Rat.mul_le_mul_of_nonneg_left il Y0
  have n := hD.mul gN
  have k4 : 4 * ur .f32 ≤ 1 / 1000 := by decide +kernel
  have nb : 101 / 100 * l * (Y * i + 4 * ur .f32 * (Y * i)) ≤ 1235 / 10000 * Y := by
    have h1 : 101 / 100 * (1 + 4 * ur .f32) * (122 / 1000) ≤ 1235 / 10000 := by decide +kernel
    have h2 := Rat.mul_le_mul_of_nonneg_right h1 Y0
    have h3 := Rat.mul_le_mul_of_nonneg_left Yil (show 0 ≤ 101 / 100 * (1 + 4 * ur .f32) by decide +kernel)
    grind
  have n2 := n.mono nb
  obtain ⟨t, t1, t2⟩ := hd.mul g1 n2 (by
    have h1 := Rat.mul_le_mul_of_nonneg_left Y256 (show (0 : Rat) ≤ 1235 / 10000 by decide +kernel)
    have : (1235 / 10000 * 256 : Rat) ≤ most := by decide +kernel
    grind)
  have m := hD.mul g2
  have m2 := m.mono (show 101 / 100 * l * (4 * ur .f32 * (Y * i)) ≤ 1 / 2 * ur .f32 * Y by
    have h1 : (101 / 100 : Rat) * 4 * (122 / 1000) ≤ 1 / 2 := by decide +kernel
    have h2 := Rat.mul_le_mul_of_nonneg_right h1 (Rat.mul_nonneg (Rat.le_of_lt u0) Y0)
    have h3 := Rat.mul_le_mul_of_nonneg_left Yil (show 0 ≤ 101 / 100 * 4 * ur .f32 by decide +kernel)
    grind)
  have key : Near (t + W * D * i) (1 / 10000000 * Y) := by
    have id : t + W * D * i = (t - D * g) + D * (g + W * i) := by grind
    rw [id]
    refine (t2.add m2).mono ?_
    have h1 : 1235 / 10000 * ur .f32 + ur .f32 + 1 / 2 * ur .f32 ≤ 1 / 10000000 := by decide +kernel
    have h1 := Rat.mul_le_mul_of_nonneg_right h1 Y0
    grind
  refine ⟨t, t1, key, ?_⟩
  have tn := near_add2 t2 n2
  refine tn.mono ?_
  have h1 : 1235 / 10000 * (1 + ur .f32) + ur .f32 ≤ 1 / 8 := by decide +kernel
  have h1 := Rat.mul_le_mul_of_nonneg_right h1 Y0
  grind
end
end Go.Fw

/-
  Sums of potentials and forces over all pairs of pieces.
-/
namespace Go.Fw
def Pzs (p : Nat → Nat → Nat) (n : Nat) (A : Nat → Nat → Int) (lam : Nat → Rat) : Prop := ∀ j, j < n → Pz (p j 0) (p j 1) (p j 2) (p j 3) (p j 4) (p j 5) (A j 0) (A j 1) (A j 2) (A j 3) (A j 4) (A j 5) (lam j)
def Apzs (A B : Nat → Nat → Int) (n m : Nat) : Prop := ∀ i j, i < n → j < m → Apz (A i 3 - B j 3) (A i 4 - B j 4) (A i 5 - B j 5)
def Wz (A B : Nat → Nat → Int) (i j : Nat) : Rat := ((A i 0 * B j 0 + A i 1 * B j 1 + A i 2 * B j 2 : Int) : Rat) * dyu 14
def Sz (A B : Nat → Nat → Int) (i j : Nat) : Rat := (sqz (A i 3 - B j 3) (A i 4 - B j 4) (A i 5 - B j 5) : Rat) * dyu 16
def Dz (A B : Nat → Nat → Int) (c i j : Nat) : Rat := ((A i c - B j c : Int) : Rat) * dyu 8
def Lz (A B : Nat → Nat → Int) (n m : Nat) (l : Nat → Nat → Rat) : Prop := ∀ i j, i < n → j < m → 287 / 100 ≤ l i j ∧ l i j ≤ 13 ∧ Near (l i j * l i j - Sz A B i j) (Sz A B i j * eta6) ∧ 826 / 100 ≤ Sz A B i j ∧ Sz A B i j ≤ 166
noncomputable def dqW (p q : Nat → Nat → Nat) (k i : Nat) : Nat := fop .add .f32 (fop .add .f32 (fop .mul .f32 (fop .sub .f32 (p k 3) (q i 3)) (fop .sub .f32 (p k 3) (q i 3))) (fop .mul .f32 (fop .sub .f32 (p k 4) (q i 4)) (fop .sub .f32 (p k 4) (q i 4)))) (fop .mul .f32 (fop .sub .f32 (p k 5) (q i 5)) (fop .sub .f32 (p k 5) (q i 5)))
noncomputable def rtW (w : Nat) : Nat := fcvt .f64 .f32 (fsqrt (fcvt .f32 .f64 w))
noncomputable def dtW (p q : Nat → Nat → Nat) (k i : Nat) : Nat := fop .add .f32 (fop .add .f32 (fop .mul .f32 (p k 0) (q i 0)) (fop .mul .f32 (p k 1) (q i 1))) (fop .mul .f32 (p k 2) (q i 2))
theorem Pzs.pos {p : Nat → Nat → Nat} {n : Nat} {A : Nat → Nat → Int} {lam : Nat → Rat} (h : Pzs p n A lam) {j : Nat} (hj : j < n) : 1 / 1099511627776 ≤ lam j ∧ 0 ≤ lam j := by
  have := (h j hj).l0
  exact ⟨this, Rat.le_trans (by decide +kernel) this⟩
section
variable {p q : Nat → Nat → Nat} {n m : Nat} {A B : Nat → Nat → Int} {la lb : Nat → Rat} (hn : 0 < n) (hm : 0 < m) (hnm : n * m ≤ 144) (hp : Pzs p n A la) (hq : Pzs q m B lb) (hd : Apzs A B n m) (hL : rsum la n * rsum lb m ≤ 1000000)
include hp hq hd in
theorem dq_z {k i : Nat} (hk : k < n) (hi : i < m) : Dy 16 (dqW p q k i) (sqz (A k 3 - B i 3) (A k 4 - B i 4) (A k 5 - B i 5)) := by
  have d := hd k i hk hi
  have P := hp k hk
  have Q := hq i hi
  have x := P.v4.sub Q.v4 (by have := d.x2; omega)
  have y := P.v5.sub Q.v5 (by have := d.y; omega)
  have z := P.v6.sub Q.v6 (by have := d.z; omega)
  exact d.sum x y z
include hn hm hp hq in
theorem LL_pos : 1 / 1099511627776 * (1 / 1099511627776) ≤ rsum la n * rsum lb m := by
  have l1 := rsum_ge hn (by decide +kernel) fun j hj => (hp.pos hj).1
  have l2 := rsum_ge hm (by decide +kernel) fun j hj => (hq.pos hj).1
  have h1 := Rat.mul_le_mul_of_nonneg_right l1 (show 0 ≤ rsum lb m from Rat.le_trans (by decide +kernel) l2)
  have h2 := Rat.mul_le_mul_of_nonneg_left l2 (show (0 : Rat) ≤ 1 / 1099511627776 by decide +kernel)
  grind
include hn hm hnm hp hq hL in
theorem zsum {I : Nat → Nat → Nat → Nat} {O : Nat → Nat} {t : Nat → Nat → Nat} {g : Nat → Nat → Rat} {T κ : Rat} (h0 : ∀ k s, I k s 0 = s) (hI : ∀ k s i, k < n → i < m → I k s (i + 1) = fop .add .f32 (I k s i) (t k i)) (hO : ∀ k, O (k + 1) = I k (O k) m) (hz : Val .f32 (O 0) 0)
    (ht : ∀ k i, k < n → i < m → ∃ f, Val .f32 (t k i) f ∧ Near (f - g k i) (1 / 10000000 * (la k * lb i)) ∧ Near f (T * (la k * lb i))) (T0 : 0 ≤ T) (T1 : T ≤ 1) (hκ : 1 / 10000000 + 288 * ur .f32 * T + 1 / 10000000000 ≤ κ) : ∃ v, Val .f32 (O n) v ∧ Near (v - dsum g n m) (κ * (rsum la n * rsum lb m)) := by
  have H : ∀ k i, ∃ f : Rat, k < n → i < m → Val .f32 (t k i) f ∧ Near (f - g k i) (1 / 10000000 * (la k * lb i)) ∧ Near f (T * (la k * lb i)) := fun k i => by
    by_cases h : k < n ∧ i < m
    · obtain ⟨f, f1⟩ := ht k i h.1 h.2
      exact ⟨f, fun _ _ => f1⟩
    · exact ⟨0, fun h1 h2 => absurd ⟨h1, h2⟩ h⟩
  obtain ⟨f, hf⟩ : ∃ f : Nat → Nat → Rat, ∀ k i, k < n → i < m → Val .f32 (t k i) (f k i) ∧ Near (f k i - g k i) (1 / 10000000 * (la k * lb i)) ∧ Near (f k i) (T * (la k * lb i)) := ⟨fun k i => (H k i).choose, fun k i => (H k i).choose_spec⟩
  have eT : dsum (fun k i => T * (la k * lb i)) n m = T * (rsum la n * rsum lb m) := by rw [dsum_mul, dsum_prod]
  have LL0 := LL_pos hn hm hp hq
  have Y0 : 0 ≤ rsum la n * rsum lb m := Rat.le_trans (by decide +kernel) LL0
  have TM : T * (rsum la n * rsum lb m) ≤ 1152921504606846976 := by
    have h1 := Rat.mul_le_mul_of_nonneg_right T1 Y0
    have : (1000000 : Rat) ≤ 1152921504606846976 := by decide
    grind
  obtain ⟨v, v1, v2⟩ := dsum_rel (T := T * (rsum la n * rsum lb m)) hm h0 hI hO hz (fun k i hk hi => (hf k i hk hi).1) (fun k i hk hi => (hf k i hk hi).2.2) (by rw [eT]; exact Rat.le_refl) (Nat.le_trans hnm (by omega)) TM
  refine ⟨v, v1, ?_⟩
  have d : Near (dsum (fun k i => f k i - g k i) n m) (dsum (fun k i => 1 / 10000000 * (la k * lb i)) n m) := dsum_nearF fun i j hi hj => (hf i j hi hj).2.1
  have e1 : dsum (fun k i => f k i - g k i) n m = dsum f n m - dsum g n m := by
    have : dsum f n m = dsum (fun k i => (f k i - g k i) + g k i) n m := dsum_congr fun i j _ _ => by grind
    rw [this, dsum_add]
    grind
  have e2 : dsum (fun k i => 1 / 10000000 * (la k * lb i)) n m = 1 / 10000000 * (rsum la n * rsum lb m) := by rw [dsum_mul, dsum_prod]
  rw [e1, e2] at d
  have n144 : ((n * m : Nat) : Rat) ≤ 144 := Rat.natCast_le_natCast.2 hnm
  generalize rsum la n * rsum lb m = Y at *
  have e0 := eps_pos (Rat.mul_nonneg T0 Y0)
  have k1 := Rat.mul_le_mul_of_nonneg_right n144 e0
  have k2 : 144 * eps (T * Y) ≤ (288 * ur .f32 * T + 1 / 10000000000) * Y := by
    unfold eps
    have h2 : 144 * (2 * tiny .f32) ≤ 1 / 10000000000 * (1 / 1099511627776 * (1 / 1099511627776)) := by decide +kernel
    have h3 := Rat.mul_le_mul_of_nonneg_left LL0 (show (0 : Rat) ≤ 1 / 10000000000 by decide +kernel)
    grind
  have := v2.add d
  rw [show v - dsum f n m + (dsum f n m - dsum g n m) = v - dsum g n m by grind] at this
  refine this.mono ?_
  have h4 := Rat.mul_le_mul_of_nonneg_right hκ Y0
  grind
include hp hq hd in
theorem roots_z : ∃ l, Lz A B n m l ∧ ∀ k i, k < n → i < m → Val .f32 (rtW (dqW p q k i)) (l k i) ∧ Val .f32 (dqW p q k i) (Sz A B k i) := by
  have H : ∀ k i, ∃ l : Rat, k < n → i < m → (287 / 100 ≤ l ∧ l ≤ 13 ∧ Near (l * l - Sz A B k i) (Sz A B k i * eta6) ∧ 826 / 100 ≤ Sz A B k i ∧ Sz A B k i ≤ 166) ∧ Val .f32 (rtW (dqW p q k i)) l ∧ Val .f32 (dqW p q k i) (Sz A B k i) := fun k i => by
    by_cases h : k < n ∧ i < m
    · have dq := dq_z hp hq hd h.1 h.2
      obtain ⟨l, l1, l2, l3, l4, l5, l6⟩ := root_z dq (hd k i h.1 h.2)
      exact ⟨l, fun _ _ => ⟨⟨l2, l3, l4, l5, l6⟩, l1, dq.val⟩⟩
    · exact ⟨0, fun h1 h2 => absurd ⟨h1, h2⟩ h⟩
  exact ⟨fun k i => (H k i).choose, fun k i hk hi => ((H k i).choose_spec hk hi).1, fun k i hk hi => ((H k i).choose_spec hk hi).2⟩
end
end Go.Fw

/-
  Potentials and forces of two wires' pieces: both sums; how they hang together.
-/
namespace Go.Fw
def Iz (A B : Nat → Nat → Int) (l : Nat → Nat → Rat) (i j : Nat) : Rat := 1 / (Sz A B i j * l i j)
section
variable {p q : Nat → Nat → Nat} {n m : Nat} {A B : Nat → Nat → Int} {la lb : Nat → Rat} (hn : 0 < n) (hm : 0 < m) (hnm : n * m ≤ 144) (hp : Pzs p n A la) (hq : Pzs q m B lb) (hd : Apzs A B n m) (hL : rsum la n * rsum lb m ≤ 1000000)
include hd in
theorem roots_Q {Q : Nat → Nat → Nat} (hQ : ∀ k i, k < n → i < m → Dy 16 (Q k i) (sqz (A k 3 - B i 3) (A k 4 - B i 4) (A k 5 - B i 5))) : ∃ l, Lz A B n m l ∧ ∀ k i, k < n → i < m → Val .f32 (rtW (Q k i)) (l k i) ∧ Val .f32 (Q k i) (Sz A B k i) := by
  have H : ∀ k i, ∃ l : Rat, k < n → i < m → (287 / 100 ≤ l ∧ l ≤ 13 ∧ Near (l * l - Sz A B k i) (Sz A B k i * eta6) ∧ 826 / 100 ≤ Sz A B k i ∧ Sz A B k i ≤ 166) ∧ Val .f32 (rtW (Q k i)) l ∧ Val .f32 (Q k i) (Sz A B k i) := fun k i => by
    by_cases h : k < n ∧ i < m
    · have dq := hQ k i h.1 h.2
      obtain ⟨l, l1, l2, l3, l4, l5, l6⟩ := root_z dq (hd k i h.1 h.2)
      exact ⟨l, fun _ _ => ⟨⟨l2, l3, l4, l5, l6⟩, l1, dq.val⟩⟩
    · exact ⟨0, fun h1 h2 => absurd ⟨h1, h2⟩ h⟩
  exact ⟨fun k i => (H k i).choose, fun k i hk hi => ((H k i).choose_spec hk hi).1, fun k i hk hi => ((H k i).choose_spec hk hi).2⟩
include hn hm hnm hp hq hd hL
theorem pot_sum {I : Nat → Nat → Nat → Nat} {O : Nat → Nat} {Q : Nat → Nat → Nat} (hQ : ∀ k i, k < n → i < m → Dy 16 (Q k i) (sqz (A k 3 - B i 3) (A k 4 - B i 4) (A k 5 - B i 5))) (h0 : ∀ k s, I k s 0 = s)
    (hI : ∀ k s i, k < n → i < m → (∃ l : Rat, Val .f32 (rtW (Q k i)) l ∧ 0 < l) → I k s (i + 1) = fop .add .f32 (I k s i) (fop .quo .f32 (dtW p q k i) (rtW (Q k i)))) (hO : ∀ k, O (k + 1) = I k (O k) m) (hz : Val .f32 (O 0) 0) :
    ∃ l, Lz A B n m l ∧ ∃ v, Val .f32 (O n) v ∧ Near (v - dsum (fun i j => Wz A B i j * (1 / l i j)) n m) (1 / 160000 * (rsum la n * rsum lb m)) := by
  obtain ⟨l, l1, l2⟩ := roots_Q hd hQ
  refine ⟨l, l1, ?_⟩
  refine zsum (T := 35 / 100) hn hm hnm hp hq hL h0 (fun k s i hk hi => hI k s i hk hi ⟨l k i, (l2 k i hk hi).1, ?_⟩) hO hz (fun k i hk hi => ?_) (by decide +kernel) (by decide +kernel) (by decide +kernel)
  · have := (l1 k i hk hi).1
    have : (0 : Rat) < 287 / 100 := by decide +kernel
    grind
  · exact pot_z (hp k hk) (hq i hi) (l2 k i hk hi).1 (l1 k i hk hi).1
theorem force_sum {IX IY IZ : Nat → Nat → Nat → Nat} {OX OY OZ : Nat → Nat} (h0 : ∀ k s, IX k s 0 = s ∧ IY k s 0 = s ∧ IZ k s 0 = s)
    (hI : ∀ k s i, k < n → i < m → (∃ S : Rat, Val .f32 (dqW p q k i) S ∧ 0 < S) → IX k s (i + 1) = fop .add .f32 (IX k s i) (fop .mul .f32 (fop .sub .f32 (p k 3) (q i 3)) (fop .quo .f32 (fneg .f32 (dtW p q k i)) (fop .mul .f32 (dqW p q k i) (rtW (dqW p q k i))))) ∧ IY k s (i + 1) = fop .add .f32 (IY k s i) (fop .mul .f32 (fop .sub .f32 (p k 4) (q i 4)) (fop .quo .f32 (fneg .f32 (dtW p q k i)) (fop .mul .f32 (dqW p q k i) (rtW (dqW p q k i))))) ∧ IZ k s (i + 1) = fop .add .f32 (IZ k s i) (fop .mul .f32 (fop .sub .f32 (p k 5) (q i 5)) (fop .quo .f32 (fneg .f32 (dtW p q k i)) (fop .mul .f32 (dqW p q k i) (rtW (dqW p q k i))))))
    (hO : ∀ k, OX (k + 1) = IX k (OX k) m ∧ OY (k + 1) = IY k (OY k) m ∧ OZ (k + 1) = IZ k (OZ k) m) (hz : Val .f32 (OX 0) 0 ∧ Val .f32 (OY 0) 0 ∧ Val .f32 (OZ 0) 0) :
    ∃ l, Lz A B n m l ∧ ∃ x y z, Val .f32 (OX n) x ∧ Val .f32 (OY n) y ∧ Val .f32 (OZ n) z ∧ Near (x - dsum (fun i j => -(Wz A B i j * Dz A B 3 i j * Iz A B l i j)) n m) (1 / 400000 * (rsum la n * rsum lb m)) ∧
      Near (y - dsum (fun i j => -(Wz A B i j * Dz A B 4 i j * Iz A B l i j)) n m) (1 / 400000 * (rsum la n * rsum lb m)) ∧ Near (z - dsum (fun i j => -(Wz A B i j * Dz A B 5 i j * Iz A B l i j)) n m) (1 / 400000 * (rsum la n * rsum lb m)) := by
  obtain ⟨l, l1, l2⟩ := roots_z hp hq hd
  have pos : ∀ k i, k < n → i < m → ∃ S : Rat, Val .f32 (dqW p q k i) S ∧ 0 < S := fun k i hk hi => ⟨_, (l2 k i hk hi).2, by
    have := (l1 k i hk hi).2.2.2.1
    have : (0 : Rat) < 826 / 100 := by decide +kernel
    grind⟩
  have term : ∀ (c : Nat), (∀ k i, k < n → i < m → Val .f32 (fop .sub .f32 (p k c) (q i c)) (Dz A B c k i) ∧ (A k c - B i c) * (A k c - B i c) ≤ sqz (A k 3 - B i 3) (A k 4 - B i 4) (A k 5 - B i 5)) →
      ∀ k i, k < n → i < m → ∃ f, Val .f32 (fop .mul .f32 (fop .sub .f32 (p k c) (q i c)) (fop .quo .f32 (fneg .f32 (dtW p q k i)) (fop .mul .f32 (dqW p q k i) (rtW (dqW p q k i))))) f ∧ Near (f - -(Wz A B k i * Dz A B c k i * Iz A B l k i)) (1 / 10000000 * (la k * lb i)) ∧ Near f (1 / 8 * (la k * lb i)) := fun c hc k i hk hi => by
    obtain ⟨a1, a2, a3, a4, a5⟩ := l1 k i hk hi
    obtain ⟨b1, b2⟩ := l2 k i hk hi
    obtain ⟨_, d2, _, _, LL, tt⟩ := dot_z (hp k hk) (hq i hi)
    obtain ⟨f, f1, f2, f3, f4, _⟩ := fac_z (hp k hk) (hq i hi) b2 b1 a4 a5 a1 a2
    obtain ⟨c1, c2⟩ := hc k i hk hi
    have l0 : 0 ≤ l k i := Rat.le_trans (by decide +kernel) a1
    have hD : Near (Dz A B c k i) (101 / 100 * l k i) := by
      refine (nabs_near _).mono (le_of_sq (Rat.mul_nonneg (by decide +kernel) l0) ?_)
      rw [nabs_sq]
      have c3 := Rat.mul_le_mul_of_nonneg_right (Rat.intCast_le_intCast.2 c2) (show 0 ≤ dyu 16 by decide +kernel)
      have e16 : dyu 16 = dyu 8 * dyu 8 := by decide +kernel
      have e1 : Dz A B c k i * Dz A B c k i = (((A k c - B i c) * (A k c - B i c) : Int) : Rat) * dyu 16 := by
        unfold Dz
        rw [Rat.intCast_mul, e16]; grind
      rw [e1]
      refine Rat.le_trans c3 ?_
      have k1 : (1 : Rat) ≤ 101 / 100 * (101 / 100) * (1 - eta6) := by decide +kernel
      have S0 : 0 ≤ Sz A B k i := Rat.le_trans (by decide +kernel) a4
      have k1 := Rat.mul_le_mul_of_nonneg_right k1 S0
      have k2 : (1 - eta6) * Sz A B k i ≤ l k i * l k i := by unfold Near at a3; grind
      have k3 := Rat.mul_le_mul_of_nonneg_left k2 (show (0 : Rat) ≤ 101 / 100 * (101 / 100) by decide +kernel)
      have e2 : 101 / 100 * l k i * (101 / 100 * l k i) = 101 / 100 * (101 / 100) * (l k i * l k i) := by grind
      rw [e2]
      have : (sqz (A k 3 - B i 3) (A k 4 - B i 4) (A k 5 - B i 5) : Rat) * dyu 16 = Sz A B k i := rfl
      rw [this]
      grind
    obtain ⟨t, t1, t2, t3⟩ := force_z (lam := la k) (mu := lb i) (W := Wz A B k i) (i := Iz A B l k i) c1 ⟨f, f1, f2⟩ d2 hD a2 l0 f3 f4 tt LL
    refine ⟨t, t1, ?_, t3⟩
    rw [show t - -(Wz A B k i * Dz A B c k i * Iz A B l k i) = t + Wz A B k i * Dz A B c k i * Iz A B l k i by grind]
    exact t2
  have sq0 : ∀ a : Int, 0 ≤ a * a := fun a => by rw [sq_nat]; omega
  have dX : ∀ k i, k < n → i < m → Val .f32 (fop .sub .f32 (p k 3) (q i 3)) (Dz A B 3 k i) ∧ (A k 3 - B i 3) * (A k 3 - B i 3) ≤ sqz (A k 3 - B i 3) (A k 4 - B i 4) (A k 5 - B i 5) := fun k i hk hi => by
    have d := hd k i hk hi
    refine ⟨((hp k hk).v4.sub (hq i hi).v4 (by have := d.x2; omega)).val, ?_⟩
    have := sq0 (A k 4 - B i 4)
    have := sq0 (A k 5 - B i 5)
    unfold sqz; omega
  have dY : ∀ k i, k < n → i < m → Val .f32 (fop .sub .f32 (p k 4) (q i 4)) (Dz A B 4 k i) ∧ (A k 4 - B i 4) * (A k 4 - B i 4) ≤ sqz (A k 3 - B i 3) (A k 4 - B i 4) (A k 5 - B i 5) := fun k i hk hi => by
    have d := hd k i hk hi
    refine ⟨((hp k hk).v5.sub (hq i hi).v5 (by have := d.y; omega)).val, ?_⟩
    have := sq0 (A k 3 - B i 3)
    have := sq0 (A k 5 - B i 5)
    unfold sqz; omega
  have dZ : ∀ k i, k < n → i < m → Val .f32 (fop .sub .f32 (p k 5) (q i 5)) (Dz A B 5 k i) ∧ (A k 5 - B i 5) * (A k 5 - B i 5) ≤ sqz (A k 3 - B i 3) (A k 4 - B i 4) (A k 5 - B i 5) := fun k i hk hi => by
    have d := hd k i hk hi
    refine ⟨((hp k hk).v6.sub (hq i hi).v6 (by have := d.z; omega)).val, ?_⟩
    have := sq0 (A k 3 - B i 3)
    have := sq0 (A k 4 - B i 4)
    unfold sqz; omega
  obtain ⟨x, x1, x2⟩ := zsum (T := 1 / 8) (κ := 1 / 400000) hn hm hnm hp hq hL (fun k s => (h0 k s).1) (fun k s i hk hi => (hI k s i hk hi (pos k i hk hi)).1) (fun k => (hO k).1) hz.1 (term 3 dX) (by decide +kernel) (by decide +kernel) (by decide +kernel)
  obtain ⟨y, y1, y2⟩ := zsum (T := 1 / 8) (κ := 1 / 400000) hn hm hnm hp hq hL (fun k s => (h0 k s).2.1) (fun k s i hk hi => (hI k s i hk hi (pos k i hk hi)).2.1) (fun k => (hO k).2.1) hz.2.1 (term 4 dY) (by decide +kernel) (by decide +kernel) (by decide +kernel)
  obtain ⟨z, z1, z2⟩ := zsum (T := 1 / 8) (κ := 1 / 400000) hn hm hnm hp hq hL (fun k s => (h0 k s).2.2) (fun k s i hk hi => (hI k s i hk hi (pos k i hk hi)).2.2) (fun k => (hO k).2.2) hz.2.2 (term 5 dZ) (by decide +kernel) (by decide +kernel) (by decide +kernel)
  exact ⟨l, l1, x, y, z, x1, y1, z1, x2, y2, z2⟩
end
end Go.Fw

/-
  Forces of two wires on one another are opposite; a force along a way is how the potential changes.
-/
namespace Go.Fw
theorem Wz_comm (A B : Nat → Nat → Int) (i j : Nat) : Wz A B i j = Wz B A j i := by
  unfold Wz
  rw [Int.mul_comm (A i 0), Int.mul_comm (A i 1), Int.mul_comm (A i 2)]
theorem Dz_neg (A B : Nat → Nat → Int) (c i j : Nat) : Dz B A c j i = -Dz A B c i j := by
  unfold Dz
  rw [← Rat.neg_mul, ← Rat.intCast_neg, Int.neg_sub]
theorem Sz_comm (A B : Nat → Nat → Int) (i j : Nat) : Sz B A j i = Sz A B i j := by
  unfold Sz sqz
  have e : ∀ a b : Int, (b - a) * (b - a) = (a - b) * (a - b) := fun a b => by grind
  rw [e (A i 3), e (A i 4), e (A i 5)]
theorem Sz_eq (A B : Nat → Nat → Int) (i j : Nat) : Sz A B i j = Dz A B 3 i j * Dz A B 3 i j + Dz A B 4 i j * Dz A B 4 i j + Dz A B 5 i j * Dz A B 5 i j := by
  have e16 : dyu 16 = dyu 8 * dyu 8 := by decide +kernel
  unfold Sz Dz sqz
  rw [Rat.intCast_add, Rat.intCast_add, Rat.intCast_mul, Rat.intCast_mul, Rat.intCast_mul, e16]
  grind
section
variable {n m : Nat} {A B : Nat → Nat → Int} {l : Nat → Nat → Rat} (hl : Lz A B n m l)
include hl
theorem Dz_near {i j : Nat} (hi : i < n) (hj : j < m) : Near (Dz A B 3 i j) (101 / 100 * l i j) ∧ Near (Dz A B 4 i j) (101 / 100 * l i j) ∧ Near (Dz A B 5 i j) (101 / 100 * l i j) := by
  obtain ⟨a1, a2, a3, a4, a5⟩ := hl i j hi hj
  have l0 : 0 ≤ l i j := Rat.le_trans (by decide +kernel) a1
  have key : Dz A B 3 i j * Dz A B 3 i j + Dz A B 4 i j * Dz A B 4 i j + Dz A B 5 i j * Dz A B 5 i j ≤ 101 / 100 * l i j * (101 / 100 * l i j) := by
    rw [← Sz_eq]
    have k1 : (1 : Rat) ≤ 101 / 100 * (101 / 100) * (1 - eta6) := by decide +kernel
    have S0 : 0 ≤ Sz A B i j := Rat.le_trans (by decide +kernel) a4
    have k1 := Rat.mul_le_mul_of_nonneg_right k1 S0
    have k2 : (1 - eta6) * Sz A B i j ≤ l i j * l i j := by unfold Near at a3; grind
    have k3 := Rat.mul_le_mul_of_nonneg_left k2 (show (0 : Rat) ≤ 101 / 100 * (101 / 100) by decide +kernel)
    have e2 : 101 / 100 * l i j * (101 / 100 * l i j) = 101 / 100 * (101 / 100) * (l i j * l i j) := by grind
    rw [e2]
    grind
  exact coord key (Rat.mul_nonneg (by decide +kernel) l0)
theorem Iz_mul {i j : Nat} (hi : i < n) (hj : j < m) : Iz A B l i j * (Sz A B i j * l i j) = 1 := by
  obtain ⟨a1, a2, a3, a4, a5⟩ := hl i j hi hj
  have l0 : 0 < l i j := by
    have : (0 : Rat) < 287 / 100 := by decide +kernel
    grind
  have S0 : 0 < Sz A B i j := by
    have : (0 : Rat) < 826 / 100 := by decide +kernel
    grind
  have := Rat.mul_pos S0 l0
  exact Rat.div_mul_cancel (by grind)
theorem Iz_near {l' : Nat → Nat → Rat} (hl' : Lz B A m n l') {i j : Nat} (hi : i < n) (hj : j < m) {D : Rat} (hD : Near D (101 / 100 * l i j)) : Near (D * (Iz A B l i j - Iz B A l' j i)) (1 / 1000000) := by
  obtain ⟨a1, a2, a3, a4, a5⟩ := hl i j hi hj
  obtain ⟨b1, b2, b3, _, _⟩ := hl' j i hj hi
  have h1 := Iz_mul hl hi hj
  have h2 := Iz_mul hl' hj hi
  rw [Sz_comm] at b3 h2
  generalize Iz A B l i j = x at *
  generalize Iz B A l' j i = y at *
  generalize Sz A B i j = S at *
  generalize l i j = p at *
  generalize l' j i = q at *
  have c0 : (0 : Rat) < 287 / 100 := by decide +kernel
  have p0 : 0 < p := by grind
  have q0 : 0 < q := by grind
  have S0 : 0 < S := by
    have : (0 : Rat) < 826 / 100 := by decide +kernel
    grind
  have qp : Near ((q - p) * (q + p)) (2 * (S * eta6)) := by
    have := b3.sub a3
    rw [show q * q - S - (p * p - S) = (q - p) * (q + p) by grind] at this
    exact this.mono (by grind)
  have T0 : 0 < S * p * q * (q + p) := Rat.mul_pos (Rat.mul_pos (Rat.mul_pos S0 p0) q0) (by grind)
  have id : D * (x - y) * (S * p * q * (q + p)) = D * ((q - p) * (q + p)) := by
    have : D * (x - y) * (S * p * q * (q + p)) = D * (q + p) * (x * (S * p) * q - y * (S * q) * p) := by grind
    rw [this, h1, h2]; grind
  have m := hD.mul qp
  rw [← id] at m
  have k : 101 / 100 * p * (2 * (S * eta6)) ≤ 1 / 1000000 * (S * p * q * (q + p)) := by
    have h3 : 287 / 100 * (287 / 100 + 287 / 100) ≤ q * (q + p) := by
      have h4 := Rat.mul_le_mul_of_nonneg_right b1 (show 0 ≤ q + p by grind)
      have h5 := Rat.mul_le_mul_of_nonneg_left (show 287 / 100 + 287 / 100 ≤ q + p by grind) (Rat.le_of_lt c0)
      exact Rat.le_trans h5 h4
    have h6 : 101 / 100 * (2 * eta6) ≤ 1 / 1000000 * (287 / 100 * (287 / 100 + 287 / 100)) := by decide +kernel
    have h7 := Rat.mul_le_mul_of_nonneg_left h3 (show (0 : Rat) ≤ 1 / 1000000 by decide +kernel)
    have Sp := Rat.mul_pos S0 p0
    have h8 := Rat.mul_le_mul_of_nonneg_right (Rat.le_trans h6 h7) (Rat.le_of_lt Sp)
    grind
  have m := m.mono k
  unfold Near at m ⊢
  constructor
  · refine Rat.le_of_mul_le_mul_right (c := S * p * q * (q + p)) ?_ T0; grind
  · refine Rat.le_of_mul_le_mul_right (c := S * p * q * (q + p)) ?_ T0; grind
end
section
variable {n m : Nat} {A B : Nat → Nat → Int} {la lb : Nat → Rat} (hW : ∀ i j, i < n → j < m → Near (Wz A B i j) (la i * lb j))
include hW
theorem force_back {l l' : Nat → Nat → Rat} (hl : Lz A B n m l) (hl' : Lz B A m n l') (c : Nat) (hc : c = 3 ∨ c = 4 ∨ c = 5) :
    Near (dsum (fun i j => -(Wz A B i j * Dz A B c i j * Iz A B l i j)) n m + dsum (fun i j => -(Wz B A i j * Dz B A c i j * Iz B A l' i j)) m n) (1 / 1000000 * (rsum la n * rsum lb m)) := by
  rw [dsum_swap (fun i j => -(Wz B A i j * Dz B A c i j * Iz B A l' i j)), ← dsum_add, ← dsum_prod, ← dsum_mul]
  refine dsum_nearF fun i j hi hj => ?_
  have D : Near (Dz A B c i j) (101 / 100 * l i j) := by
    obtain ⟨h3, h4, h5⟩ := Dz_near hl hi hj
    rcases hc with rfl | rfl | rfl
    · exact h3
    · exact h4
    · exact h5
  have k := (hW i j hi hj).mul (Iz_near hl hl' hi hj D)
  have e : -(Wz A B i j * Dz A B c i j * Iz A B l i j) + -(Wz B A j i * Dz B A c j i * Iz B A l' j i) = -(Wz A B i j * (Dz A B c i j * (Iz A B l i j - Iz B A l' j i))) := by
    rw [← Wz_comm A B, Dz_neg A B]; grind
  rw [e]
  have := k.neg
  rw [Rat.mul_comm (la i * lb j)] at this
  exact this
end
theorem way_ten {x y z a b c : Rat} (ha : Near a 2) (hb : Near b 2) (hc : Near c 2) (hx : 9 ≤ x * x) (hS : x * x + y * y + z * z ≤ 10) : (x * a + y * b + z * c) * (x * a + y * b + z * c) ≤ 84 := by
  have n1 := (nabs_near x).mul ha
  have n2 := (nabs_near y).mul hb
  have n3 := (nabs_near z).mul hc
  have n := nabs_le_of ((n1.add n2).add n3)
  have s := sq_mono (nabs_pos _) n
  rw [nabs_sq] at s
  have sx := nabs_sq x
  have sy := nabs_sq y
  have sz := nabs_sq z
  generalize nabs x = p at *
  generalize nabs y = q at *
  generalize nabs z = r at *
  have h1 := sqn (p - 2 * q - 2 * r)
  have h2 := sqn (q - r)
  grind
section
variable {n m : Nat} {A A1 A2 B : Nat → Nat → Int} {la lb : Nat → Rat} {vx vy vz : Int} (hW : ∀ i j, i < n → j < m → Near (Wz A B i j) (la i * lb j))
  (hx : ∀ i j, i < n → j < m → 768 ≤ (A i 3 - B j 3).natAbs) (nx : vx.natAbs ≤ 8) (ny : vy.natAbs ≤ 8) (nz : vz.natAbs ≤ 8)
  (w1 : ∀ i, A1 i 0 = A i 0 ∧ A1 i 1 = A i 1 ∧ A1 i 2 = A i 2 ∧ A1 i 3 = A i 3 + 4 * vx ∧ A1 i 4 = A i 4 + 4 * vy ∧ A1 i 5 = A i 5 + 4 * vz)
  (w2 : ∀ i, A2 i 0 = A i 0 ∧ A2 i 1 = A i 1 ∧ A2 i 2 = A i 2 ∧ A2 i 3 = A i 3 - 4 * vx ∧ A2 i 4 = A i 4 - 4 * vy ∧ A2 i 5 = A i 5 - 4 * vz)
include hW hx nx ny nz w1 w2
theorem along_sum {l l1 l2 : Nat → Nat → Rat} (hl : Lz A B n m l) (hl1 : Lz A1 B n m l1) (hl2 : Lz A2 B n m l2) :
    Near (8 * (dsum (fun i j => Wz A1 B i j * (1 / l1 i j)) n m - dsum (fun i j => Wz A2 B i j * (1 / l2 i j)) n m) + dsum (fun i j => Wz A B i j * (Dz A B 3 i j * ((vx : Rat) * (1 / 4)) + Dz A B 4 i j * ((vy : Rat) * (1 / 4)) + Dz A B 5 i j * ((vz : Rat) * (1 / 4))) * Iz A B l i j) n m) (18 / 10000 * (rsum la n * rsum lb m)) := by
  have e0 : 8 * (dsum (fun i j => Wz A1 B i j * (1 / l1 i j)) n m - dsum (fun i j => Wz A2 B i j * (1 / l2 i j)) n m) + dsum (fun i j => Wz A B i j * (Dz A B 3 i j * ((vx : Rat) * (1 / 4)) + Dz A B 4 i j * ((vy : Rat) * (1 / 4)) + Dz A B 5 i j * ((vz : Rat) * (1 / 4))) * Iz A B l i j) n m = dsum (fun i j => Wz A B i j * (8 * (1 / l1 i j - 1 / l2 i j) + (Dz A B 3 i j * ((vx : Rat) * (1 / 4)) + Dz A B 4 i j * ((vy : Rat) * (1 / 4)) + Dz A B 5 i j * ((vz : Rat) * (1 / 4))) * Iz A B l i j)) n m := by
    have e1 : dsum (fun i j => Wz A1 B i j * (1 / l1 i j)) n m = dsum (fun i j => Wz A B i j * (1 / l1 i j)) n m := dsum_congr fun i j _ _ => by
      obtain ⟨h0, h1, h2, _⟩ := w1 i
      have : Wz A1 B i j = Wz A B i j := by unfold Wz; rw [h0, h1, h2]
      rw [this]
    have e2 : dsum (fun i j => Wz A2 B i j * (1 / l2 i j)) n m = dsum (fun i j => Wz A B i j * (1 / l2 i j)) n m := dsum_congr fun i j _ _ => by
      obtain ⟨h0, h1, h2, _⟩ := w2 i
      have : Wz A2 B i j = Wz A B i j := by unfold Wz; rw [h0, h1, h2]
      rw [this]
    rw [e1, e2]
    have e3 : dsum (fun i j => Wz A B i j * (8 * (1 / l1 i j - 1 / l2 i j) + (Dz A B 3 i j * ((vx : Rat) * (1 / 4)) + Dz A B 4 i j * ((vy : Rat) * (1 / 4)) + Dz A B 5 i j * ((vz : Rat) * (1 / 4))) * Iz A B l i j)) n m = dsum (fun i j => 8 * (Wz A B i j * (1 / l1 i j)) + (-8) * (Wz A B i j * (1 / l2 i j)) + Wz A B i j * (Dz A B 3 i j * ((vx : Rat) * (1 / 4)) + Dz A B 4 i j * ((vy : Rat) * (1 / 4)) + Dz A B 5 i j * ((vz : Rat) * (1 / 4))) * Iz A B l i j) n m := dsum_congr fun i j _ _ => by grind
    rw [e3, dsum_add, dsum_add, dsum_mul, dsum_mul]
    grind
  rw [e0, ← dsum_prod, ← dsum_mul]
  refine dsum_nearF fun i j hi hj => ?_
  obtain ⟨a1, a2, a3, a4, a5⟩ := hl i j hi hj
  obtain ⟨b1, _, b3, _, _⟩ := hl1 i j hi hj
  obtain ⟨c1, _, c3, _, _⟩ := hl2 i j hi hj
  have hI := Iz_mul hl hi hj
  have c0 : (0 : Rat) < 287 / 100 := by decide +kernel
  have l0 : 0 < l i j := by grind
  have l10 : 0 < l1 i j := by grind
  have l20 : 0 < l2 i j := by grind
  have e8 : dyu 8 * 256 = 1 := by decide +kernel
  have q4 : (1 / 4 : Rat) * 4 = 1 := by decide +kernel
  have q16 : (1 / 16 : Rat) = 4 * dyu 8 * 4 := by decide +kernel
  obtain ⟨_, _, _, u3, u4, u5⟩ := w1 i
  obtain ⟨_, _, _, t3, t4, t5⟩ := w2 i
  have d1 : ∀ (c : Nat) (v : Int), A1 i c = A i c + 4 * v → Dz A1 B c i j = Dz A B c i j + 4 * dyu 8 * (v : Rat) := fun c v h => by
    unfold Dz
    rw [h, show A i c + 4 * v - B j c = A i c - B j c + 4 * v by omega, Rat.intCast_add, Rat.intCast_mul]
    show ((A i c - B j c : Int) + (4 : Rat) * v) * dyu 8 = _
    grind
  have d2 : ∀ (c : Nat) (v : Int), A2 i c = A i c - 4 * v → Dz A2 B c i j = Dz A B c i j - 4 * dyu 8 * (v : Rat) := fun c v h => by
    unfold Dz
    rw [h, show A i c - 4 * v - B j c = A i c - B j c - 4 * v by omega, Rat.intCast_sub (A i c - B j c), Rat.intCast_mul]
    show ((A i c - B j c : Int) - (4 : Rat) * v) * dyu 8 = _
    grind
  have S1 := Sz_eq A1 B i j
  have S2 := Sz_eq A2 B i j
  have S := Sz_eq A B i j
  rw [d1 3 vx u3, d1 4 vy u4, d1 5 vz u5] at S1
  rw [d2 3 vx t3, d2 4 vy t4, d2 5 vz t5] at S2
  have vb : ∀ v : Int, v.natAbs ≤ 8 → Near ((v : Rat) * (1 / 4)) 2 := fun v hv => by
    have h1 : (v : Rat) ≤ ((8 : Int) : Rat) := Rat.intCast_le_intCast.2 (by omega)
    have h2 : ((-8 : Int) : Rat) ≤ (v : Rat) := Rat.intCast_le_intCast.2 (by omega)
    have h1 : (v : Rat) ≤ 8 := h1
    have h2 : (-8 : Rat) ≤ (v : Rat) := h2
    unfold Near
    constructor <;> grind
  have bx := vb vx nx
  have by' := vb vy ny
  have bz := vb vz nz
  have x9 : 9 ≤ Dz A B 3 i j * Dz A B 3 i j := by
    have h1 := hx i j hi hj
    have h2 : 589824 ≤ (A i 3 - B j 3) * (A i 3 - B j 3) := by
      rw [sq_nat]
      have := Nat.mul_le_mul h1 h1
      omega
    have h3 := Rat.mul_le_mul_of_nonneg_right (Rat.intCast_le_intCast.2 h2) (show 0 ≤ dyu 8 * dyu 8 by decide +kernel)
    have h4 : ((589824 : Int) : Rat) * (dyu 8 * dyu 8) = 9 := by decide +kernel
    rw [h4, Rat.intCast_mul] at h3
    unfold Dz
    grind
  have ex : 4 * dyu 8 * (vx : Rat) = 1 / 16 * ((vx : Rat) * (1 / 4)) := by rw [q16]; grind
  have ey : 4 * dyu 8 * (vy : Rat) = 1 / 16 * ((vy : Rat) * (1 / 4)) := by rw [q16]; grind
  have ez : 4 * dyu 8 * (vz : Rat) = 1 / 16 * ((vz : Rat) * (1 / 4)) := by rw [q16]; grind
  rw [ex, ey, ez] at S1 S2
  generalize (vx : Rat) * (1 / 4) = p at *
  generalize (vy : Rat) * (1 / 4) = q at *
  generalize (vz : Rat) * (1 / 4) = r at *
  generalize Dz A B 3 i j = X at *
  generalize Dz A B 4 i j = Y at *
  generalize Dz A B 5 i j = Z at *
  have mm : ∀ {t : Rat}, Near t 2 → t * t ≤ 4 := fun h => by have := h.mul h; unfold Near at this; grind
  have p4 := mm bx
  have q4' := mm by'
  have r4 := mm bz
  have V0 : 0 ≤ p * p + q * q + r * r := by have := sqn p; have := sqn q; have := sqn r; grind
  have c16 : (1 / 16 : Rat) * (1 / 16) = 1 / 256 := by decide +kernel
  have c8 : (1 / 16 : Rat) * 2 = 1 / 8 := by decide +kernel
  have S1' : Sz A1 B i j = Sz A B i j + (X * p + Y * q + Z * r) * (1 / 8) + (p * p + q * q + r * r) * (1 / 256) := by
    rw [S1, S, ← c16, ← c8]; grind
  have S2' : Sz A2 B i j = Sz A B i j - (X * p + Y * q + Z * r) * (1 / 8) + (p * p + q * q + r * r) * (1 / 256) := by
    rw [S2, S, ← c16, ← c8]; grind
  rw [S1'] at b3
  rw [S2'] at c3
  have S9 : 9 ≤ Sz A B i j := by
    rw [S]
    have := sqn Y
    have := sqn Z
    grind
  have he : (X * p + Y * q + Z * r) * (X * p + Y * q + Z * r) ≤ Sz A B i j * (p * p + q * q + r * r) := by
    rw [S]
    have s1 := sqn (X * q - Y * p)
    have s2 := sqn (X * r - Z * p)
    have s3 := sqn (Y * r - Z * q)
    grind
  have key := along_near (iA := 1 / l1 i j) (iB := 1 / l2 i j) S9 V0 (by grind) he l0 l10 l20 a3 b3 c3 (fun h => way_ten bx by' bz x9 (by rw [← S]; exact h)) (Rat.div_mul_cancel (by grind)) (Rat.div_mul_cancel (by grind)) hI (by
    refine le_of_sq (Rat.le_of_lt l0) ?_
    have h1 : (29 / 10 : Rat) * (29 / 10) ≤ 9 * (1 - eta6) := by decide +kernel
    have h2 := Rat.mul_le_mul_of_nonneg_right S9 (show 0 ≤ 1 - eta6 by decide +kernel)
    unfold Near at a3
    grind)
  have k := (hW i j hi hj).mul key
  rw [Rat.mul_comm (la i * lb j)] at k
  exact k
end
end Go.Fw

/-
  Forces in numbers: inner products, lengths, products with currents.
-/
namespace Go.Fw
theorem inn_big {a b c p q r : Nat} {A B C P Q R X Y : Rat} (ha : Val .f32 a A) (hb : Val .f32 b B) (hc : Val .f32 c C) (hp : Val .f32 p P) (hq : Val .f32 q Q) (hr : Val .f32 r R)
    (nA : Near A X) (nB : Near B X) (nC : Near C X) (nP : Near P Y) (nQ : Near Q Y) (nR : Near R Y) (XYM : X * Y ≤ 1000000000000) :
    ∃ v, Val .f32 (fop .add .f32 (fop .add .f32 (fop .mul .f32 a p) (fop .mul .f32 b q)) (fop .mul .f32 c r)) v ∧ Near (v - (A * P + B * Q + C * R)) (12 * ur .f32 * (X * Y) + 8 * tiny .f32) := by
  have X0 := nA.nonneg
  have Y0 := nP.nonneg
  have m1 := nA.mul nP
  have m2 := nB.mul nQ
  have m3 := nC.mul nR
  have XY0 := Rat.mul_nonneg X0 Y0
  have big : (10000000000000 : Rat) ≤ most := by decide +kernel
  have u0 := ur_pos .f32
  have z0 := tiny_pos .f32
  have us : ur .f32 * 1024 ≤ 1 := ur32_small
  have ts : tiny .f32 * 1024 ≤ 1 := by decide +kernel
  have s := Rat.mul_le_mul_of_nonneg_left us XY0
  have su := Rat.mul_le_mul_of_nonneg_left us (Rat.mul_nonneg XY0 (Rat.le_of_lt u0))
  have tu : tiny .f32 * (ur .f32 * 1024) ≤ tiny .f32 * 1 := Rat.mul_le_mul_of_nonneg_left us (Rat.le_of_lt z0)
  obtain ⟨x, x1, x2⟩ := ha.mul hp m1 (by grind)
  obtain ⟨y, y1, y2⟩ := hb.mul hq m2 (by grind)
  obtain ⟨z, z1, z2⟩ := hc.mul hr m3 (by grind)
  obtain ⟨i, i1, i2⟩ := x1.add y1 (X := 3 * (X * Y) + 2 * tiny .f32) (by unfold Near at *; constructor <;> grind) (by grind)
  obtain ⟨v, v1, v2⟩ := i1.add z1 (X := 4 * (X * Y) + 5 * tiny .f32) (by unfold Near at *; constructor <;> grind) (by grind)
  refine ⟨v, v1, ?_⟩
  unfold Near at *
  constructor <;> grind
theorem long_near9 {x y z : Nat} {a b c E : Rat} (ha : Val .f32 x a) (hb : Val .f32 y b) (hc : Val .f32 z c) (na : Near a E) (nb : Near b E) (nc : Near c E) (hE : E ≤ 1000000) :
    ∃ s, Val .f32 (fcvt .f64 .f32 (fsqrt (fcvt .f32 .f64 (fop .add .f32 (fop .add .f32 (fop .mul .f32 x x) (fop .mul .f32 y y)) (fop .mul .f32 z z))))) s ∧ 0 ≤ s ∧ s ≤ 9 / 5 * E + 1 / 1000000000000 := by
  have E0 := na.nonneg
  have E2 : E * E ≤ 1000000000000 := by
    have := sq_mono E0 hE
    have k : (1000000 * 1000000 : Rat) = 1000000000000 := by decide +kernel
    rw [k] at this
    exact this
  have e0 := Rat.mul_nonneg E0 E0
  have sq : ∀ {t : Rat}, Near t E → t * t ≤ E * E := fun {t} h => by have := h.mul h; unfold Near at this; grind
  have qa := sq na
  have qb := sq nb
  have qc := sq nc
  have big : (10000000000000 : Rat) ≤ most := by decide +kernel
  have u1 : ur .f32 ≤ 1 / 1000 := by decide +kernel
  have u0 := ur_pos .f32
  have t0 := tiny_pos .f32
  have t1 : tiny .f32 ≤ 1 / 100000000000000000000000000 := by decide +kernel
  obtain ⟨p, p1, p2, p3⟩ := ha.sq (by grind)
  obtain ⟨q, q1, q2, q3⟩ := hb.sq (by grind)
  obtain ⟨r, r1, r2, r3⟩ := hc.sq (by grind)
  have up : ∀ {t : Rat}, t ≤ E * E → t * ur .f32 ≤ 1 / 1000 * (E * E) := fun {t} h => by
    have h1 := Rat.mul_le_mul_of_nonneg_right h (Rat.le_of_lt u0)
    have h2 := Rat.mul_le_mul_of_nonneg_left u1 e0
    grind
  have upa := up qa
  have upb := up qb
  have upc := up qc
  have kt : (1 / 100000000000000000000000000 : Rat) ≤ 1 := by decide +kernel
  have bd : ∀ {t v : Rat}, t ≤ E * E → t * ur .f32 ≤ 1 / 1000 * (E * E) → Near (v - t) (t * ur .f32 + tiny .f32) → v ≤ 1001 / 1000 * (E * E) + 1 / 100000000000000000000000000 := fun {t v} h1 h2 h3 => by unfold Near at h3; grind
  have bp := bd qa upa p3
  have bq := bd qb upb q3
  have br := bd qc upc r3
  obtain ⟨i, i1, i2, i3⟩ := p1.addp q1 p2 q2 (by grind)
  have i4 : i ≤ 2005 / 1000 * (E * E) + 4 / 100000000000000000000000000 := by
    have h1 := Rat.mul_le_mul_of_nonneg_right (show p + q ≤ 2002 / 1000 * (E * E) + 2 / 100000000000000000000000000 by grind) (Rat.le_of_lt u0)
    have h2 := Rat.mul_le_mul_of_nonneg_left u1 e0
    have h3 : (2 / 100000000000000000000000000 : Rat) * ur .f32 ≤ 1 / 100000000000000000000000000 := by decide +kernel
    unfold Near at i3
    grind
  obtain ⟨j, j1, j2, j3⟩ := i1.addp r1 i2 r2 (by grind)
  have j4 : j ≤ 3010 / 1000 * (E * E) + 7 / 100000000000000000000000000 := by
    have h1 := Rat.mul_le_mul_of_nonneg_right (show i + r ≤ 3006 / 1000 * (E * E) + 5 / 100000000000000000000000000 by grind) (Rat.le_of_lt u0)
    have h2 := Rat.mul_le_mul_of_nonneg_left u1 e0
    have h3 : (5 / 100000000000000000000000000 : Rat) * ur .f32 ≤ 1 / 100000000000000000000000000 := by decide +kernel
    unfold Near at j3
    grind
  obtain ⟨s, s1, s2, s3, _⟩ := j1.root j2 (by grind)
  refine ⟨s, s1, s2, ?_⟩
  refine le_of_sq (by have : (0 : Rat) ≤ 1 / 1000000000000 := by decide +kernel
                      grind) ?_
  have e1 : e22 ≤ 1 / 1000 := by decide +kernel
  have h1 := Rat.mul_le_mul_of_nonneg_left e1 j2
  have k1 : (7 / 100000000000000000000000000 + 7 / 100000000000000000000000000 * (1 / 1000) : Rat) ≤ 1 / 1000000000000 * (1 / 1000000000000) := by decide +kernel
  have c0 := Rat.mul_nonneg E0 (show (0 : Rat) ≤ 1 / 1000000000000 by decide +kernel)
  have ex : (9 / 5 * E + 1 / 1000000000000) * (9 / 5 * E + 1 / 1000000000000) = 81 / 25 * (E * E) + 18 / 5 * (E * (1 / 1000000000000)) + 1 / 1000000000000 * (1 / 1000000000000) := by grind
  rw [ex]
  have k2 : (3010 / 1000 + 3010 / 1000 * (1 / 1000) : Rat) ≤ 81 / 25 := by decide +kernel
  have k2 := Rat.mul_le_mul_of_nonneg_right k2 e0
  generalize (1 / 1000000000000 * (1 / 1000000000000) : Rat) = D at *
  unfold Near at s3
  grind
theorem mulC {f C : Nat} {v E c P α : Rat} (hf : Val .f32 f v) (hC : Val .f32 C c) (c4 : Near c 4) (nv : Near (v - E) (α * P)) (nE : Near E (1 / 8 * P)) (hα : α ≤ 1 / 280000) (P0 : 0 ≤ P) (P9 : P ≤ 10000) :
    ∃ a, Val .f32 (fop .mul .f32 f C) a ∧ Near (a - E * c) (4 * α * P + 1 / 30000000 * P + 1 / 1000000000000) ∧ Near a (51 / 100 * P + 1 / 1000000000000) := by
  have h1 := Rat.mul_le_mul_of_nonneg_right hα P0
  have k1 : (1 / 8 + 1 / 280000 : Rat) ≤ 126 / 1000 := by decide +kernel
  have k1 := Rat.mul_le_mul_of_nonneg_right k1 P0
  have nf : Near v (126 / 1000 * P) := by unfold Near at *; constructor <;> grind
  have big : (10000000 : Rat) ≤ most := by decide +kernel
  have nc := nf.mul c4
  obtain ⟨a, a1, a2⟩ := hf.mul hC nc (by grind)
  have ku : (126 / 1000 * 4 * ur .f32 : Rat) ≤ 1 / 30000000 := by decide +kernel
  have ku := Rat.mul_le_mul_of_nonneg_right ku P0
  have kt : tiny .f32 ≤ 1 / 1000000000000 := by decide +kernel
  have a3 : Near (a - v * c) (1 / 30000000 * P + 1 / 1000000000000) := a2.mono (by grind)
  refine ⟨a, a1, ?_, ?_⟩
  · have := a3.add (nv.mul c4)
    rw [show a - v * c + (v - E) * c = a - E * c by grind] at this
    exact this.mono (by grind)
  · have := a3.add nc
    rw [show a - v * c + v * c = a by grind] at this
    have k2 : (1 / 30000000 + 126 / 1000 * 4 : Rat) ≤ 51 / 100 := by decide +kernel
    have k2 := Rat.mul_le_mul_of_nonneg_right k2 P0
    exact this.mono (by grind)
end Go.Fw

/-
  Gaps between forces, and between a force's work and a loss of energy.
-/
namespace Go.Fw
theorem negOne : Val .f32 (can .f32 3212836864) (-1) := Val.of_vof (by decide +kernel)
theorem back1 {f g C D : Nat} {v w E c P : Rat} (hf : Val .f32 f v) (hg : Val .f32 g w) (hC : Val .f32 C c) (hD : Val .f32 D c) (c4 : Near c 4) (nv : Near (v - E) (1 / 400000 * P)) (nw : Near (w + E) (1 / 280000 * P)) (nE : Near E (1 / 8 * P)) (P0 : 0 ≤ P) (P9 : P ≤ 10000) :
    ∃ d, Val .f32 (fop .sub .f32 (fop .mul .f32 f C) (fop .mul .f32 (fop .mul .f32 g D) (can .f32 3212836864))) d ∧ Near d (1 / 39000 * P + 1 / 100000000000) := by
  obtain ⟨a, a1, a2, _⟩ := mulC hf hC c4 nv nE (by decide +kernel) P0 P9
  obtain ⟨b, b1, b2, b3⟩ := mulC (E := -E) hg hD c4 (by rw [show w - -E = w + E by grind]; exact nw) nE.neg (by decide +kernel) P0 P9
  have big : (10000000 : Rat) ≤ most := by decide +kernel
  have n1 : Near (-1 : Rat) 1 := by unfold Near; constructor <;> grind
  have kt : tiny .f32 ≤ 1 / 1000000000000 := by decide +kernel
  have kc : (1 / 1000000000000 : Rat) ≤ 1 := by decide +kernel
  obtain ⟨e, e1, e2⟩ := b1.mul negOne (b3.mul n1) (by grind)
  have ku : (51 / 100 * ur .f32 : Rat) ≤ 1 / 30000000 := by decide +kernel
  have ku := Rat.mul_le_mul_of_nonneg_right ku P0
  have kv : (1 / 1000000000000 * ur .f32 : Rat) ≤ 1 / 1000000000000 := by decide +kernel
  have e3 : Near (e + b) (1 / 30000000 * P + 2 / 1000000000000) := by
    rw [show e - b * -1 = e + b by grind] at e2
    exact e2.mono (by grind)
  have k1 : (4 * (1 / 400000) + 1 / 30000000 + (4 * (1 / 280000) + 1 / 30000000) + 1 / 30000000 : Rat) ≤ 1 / 40000 := by decide +kernel
  have k1 := Rat.mul_le_mul_of_nonneg_right k1 P0
  have d0 : Near (a - e) (1 / 40000 * P + 4 / 1000000000000) := by
    have := (a2.add b2).sub e3
    rw [show a - E * c + (b - -E * c) - (e + b) = a - e by grind] at this
    exact this.mono (by grind)
  have kq : (4 / 1000000000000 : Rat) ≤ 1 := by decide +kernel
  have kr : (1 / 40000 : Rat) ≤ 1 := by decide +kernel
  have kr := Rat.mul_le_mul_of_nonneg_right kr P0
  obtain ⟨d, d1, d2⟩ := a1.sub e1 d0 (by grind)
  refine ⟨d, d1, ?_⟩
  have k2 : (1 / 40000 + 1 / 40000 * ur .f32 : Rat) ≤ 1 / 39000 := by decide +kernel
  have k2 := Rat.mul_le_mul_of_nonneg_right k2 P0
  have k3 : (4 / 1000000000000 + 4 / 1000000000000 * ur .f32 + tiny .f32 : Rat) ≤ 1 / 100000000000 := by decide +kernel
  have := d2.add d0
  rw [show d - (a - e) + (a - e) = d by grind] at this
  exact this.mono (by grind)
theorem loss {p l q C : Nat} {vp vl' M c P : Rat} (hp : Val .f32 p vp) (hl : Val .f32 l vl') (hC : Val .f32 C c) (hq : Val .f32 q (1 / 8)) (c4 : Near c 4) (nm : Near (vp - vl' - M) (1 / 80000 * P)) (em : Near M (7 / 10 * P)) (P0 : 0 ≤ P) (P9 : P ≤ 10000) :
    ∃ a, Val .f32 (fop .mul .f32 C (fop .quo .f32 (fop .sub .f32 p l) q)) a ∧ Near (a - 8 * M * c) (41 / 100000 * P + 1 / 10000000000) := by
  have big : (10000000 : Rat) ≤ most := by decide +kernel
  have k1 : (7 / 10 + 1 / 80000 : Rat) ≤ 71 / 100 := by decide +kernel
  have k1 := Rat.mul_le_mul_of_nonneg_right k1 P0
  have nd : Near (vp - vl') (71 / 100 * P) := by
    have := nm.add em
    rw [show vp - vl' - M + M = vp - vl' by grind] at this
    exact this.mono (by grind)
  obtain ⟨d, d1, d2⟩ := hp.sub hl nd (by grind)
  have kd : (71 / 100 * ur .f32 : Rat) ≤ 1 / 20000000 := by decide +kernel
  have kd := Rat.mul_le_mul_of_nonneg_right kd P0
  have kt : tiny .f32 ≤ 1 / 1000000000000 := by decide +kernel
  have kt' : (1 / 1000000000000 : Rat) ≤ 1 := by decide +kernel
  have dn : Near d (711 / 1000 * P + 1 / 1000000000000) := by
    have := d2.add nd
    rw [show d - (vp - vl') + (vp - vl') = d by grind] at this
    have k2 : (1 / 20000000 + 71 / 100 : Rat) ≤ 711 / 1000 := by decide +kernel
    have k2 := Rat.mul_le_mul_of_nonneg_right k2 P0
    exact this.mono (by grind)
  have dm : Near (d - M) (126 / 10000000 * P + 1 / 1000000000000) := by
    have := d2.add nm
    rw [show d - (vp - vl') + (vp - vl' - M) = d - M by grind] at this
    have k2 : (1 / 20000000 + 1 / 80000 : Rat) ≤ 126 / 10000000 := by decide +kernel
    have k2 := Rat.mul_le_mul_of_nonneg_right k2 P0
    exact this.mono (by grind)
  have e8 : d / (1 / 8) = 8 * d := by
    have : (1 / 8 : Rat) ≠ 0 := by decide +kernel
    have h1 : d / (1 / 8) * (1 / 8) = d := Rat.div_mul_cancel this
    have h2 : (1 / 8 : Rat) * 8 = 1 := by decide +kernel
    have : d / (1 / 8) * ((1 / 8) * 8) = d * 8 := by rw [← Rat.mul_assoc, h1]
    rw [h2, Rat.mul_one] at this
    grind
  have n8 : Near (8 : Rat) 8 := by unfold Near; constructor <;> grind
  obtain ⟨e, e1, e2⟩ := d1.quo hq (by decide +kernel) (by rw [e8]; exact n8.mul dn) (by grind)
  rw [e8] at e2
  have ke : (8 * (711 / 1000) * ur .f32 : Rat) ≤ 1 / 2000000 := by decide +kernel
  have ke := Rat.mul_le_mul_of_nonneg_right ke P0
  have ke' : (8 * (1 / 1000000000000) * ur .f32 + tiny .f32 : Rat) ≤ 1 / 1000000000000 := by decide +kernel
  have e3 : Near (e - 8 * d) (1 / 2000000 * P + 1 / 1000000000000) := e2.mono (by grind)
  have en : Near e (569 / 100 * P + 9 / 1000000000000) := by
    have := e3.add (n8.mul dn)
    rw [show e - 8 * d + 8 * d = e by grind] at this
    have k2 : (1 / 2000000 + 8 * (711 / 1000) : Rat) ≤ 569 / 100 := by decide +kernel
    have k2 := Rat.mul_le_mul_of_nonneg_right k2 P0
    exact this.mono (by grind)
  have e4 : Near (e - 8 * M) (102 / 1000000 * P + 9 / 1000000000000) := by
    have := e3.add (n8.mul dm)
    rw [show e - 8 * d + 8 * (d - M) = e - 8 * M by grind] at this
    have k2 : (1 / 2000000 + 8 * (126 / 10000000) : Rat) ≤ 102 / 1000000 := by decide +kernel
    have k2 := Rat.mul_le_mul_of_nonneg_right k2 P0
    exact this.mono (by grind)
  have k9 : (9 / 1000000000000 : Rat) ≤ 1 := by decide +kernel
  obtain ⟨a, a1, a2⟩ := hC.mul e1 (c4.mul en) (by grind)
  refine ⟨a, a1, ?_⟩
  have ka : (4 * (569 / 100) * ur .f32 + 4 * (102 / 1000000) : Rat) ≤ 41 / 100000 := by decide +kernel
  have ka := Rat.mul_le_mul_of_nonneg_right ka P0
  have ka' : (4 * (9 / 1000000000000) * ur .f32 + tiny .f32 + 4 * (9 / 1000000000000) : Rat) ≤ 1 / 10000000000 := by decide +kernel
  have := a2.add (c4.mul e4)
  rw [show a - c * e + c * (e - 8 * M) = a - 8 * M * c by grind] at this
  exact this.mono (by grind)
theorem work {f1 f2 f3 C v1 v2 v3 : Nat} {x1 x2 x3 E1 E2 E3 c y1 y2 y3 P : Rat} (h1 : Val .f32 f1 x1) (h2 : Val .f32 f2 x2) (h3 : Val .f32 f3 x3) (hC : Val .f32 C c) (g1 : Val .f32 v1 y1) (g2 : Val .f32 v2 y2) (g3 : Val .f32 v3 y3) (c4 : Near c 4)
    (n1 : Near (x1 - E1) (1 / 400000 * P)) (n2 : Near (x2 - E2) (1 / 400000 * P)) (n3 : Near (x3 - E3) (1 / 400000 * P)) (e1 : Near E1 (1 / 8 * P)) (e2 : Near E2 (1 / 8 * P)) (e3 : Near E3 (1 / 8 * P)) (m1 : Near y1 2) (m2 : Near y2 2) (m3 : Near y3 2) (P0 : 0 ≤ P) (P9 : P ≤ 10000) :
    ∃ a, Val .f32 (fop .add .f32 (fop .add .f32 (fop .mul .f32 (fop .mul .f32 f1 C) v1) (fop .mul .f32 (fop .mul .f32 f2 C) v2)) (fop .mul .f32 (fop .mul .f32 f3 C) v3)) a ∧ Near (a - (E1 * y1 + E2 * y2 + E3 * y3) * c) (7 / 100000 * P + 1 / 10000000000) := by
  have k4 : (1 / 400000 : Rat) ≤ 1 / 280000 := by decide +kernel
  obtain ⟨a, a1, a2, a3⟩ := mulC h1 hC c4 n1 e1 k4 P0 P9
  obtain ⟨b, b1, b2, b3⟩ := mulC h2 hC c4 n2 e2 k4 P0 P9
  obtain ⟨d, d1, d2, d3⟩ := mulC h3 hC c4 n3 e3 k4 P0 P9
  have kc : (1 / 1000000000000 : Rat) ≤ 1 := by decide +kernel
  obtain ⟨s, s1, s2⟩ := inn_big a1 b1 d1 g1 g2 g3 a3 b3 d3 m1 m2 m3 (by grind)
  refine ⟨s, s1, ?_⟩
  have := s2.add (((a2.mul m1).add (b2.mul m2)).add (d2.mul m3))
  rw [show s - (a * y1 + b * y2 + d * y3) + ((a - E1 * c) * y1 + (b - E2 * c) * y2 + (d - E3 * c) * y3) = s - (E1 * y1 + E2 * y2 + E3 * y3) * c by grind] at this
  refine this.mono ?_
  have kk : (12 * ur .f32 * (51 / 100 * 2) + 3 * ((4 * (1 / 400000) + 1 / 30000000) * 2) : Rat) ≤ 7 / 100000 := by decide +kernel
  have kk := Rat.mul_le_mul_of_nonneg_right kk P0
  have kl : (12 * ur .f32 * (1 / 1000000000000 * 2) + 8 * tiny .f32 + 3 * (1 / 1000000000000 * 2) : Rat) ≤ 1 / 10000000000 := by decide +kernel
  grind
end Go.Fw

/-
  A segment's field far from it: its size.
-/
namespace Go.Fw
section
variable {a b c x y z : Nat} {A B C X Y Z : Int} (ha : Dy 7 a A) (hb : Dy 7 b B) (hc : Dy 7 c C) (hx : Dy 7 x X) (hy : Dy 7 y Y) (hz : Dy 7 z Z)
  (a1 : A ≤ -384) (a2 : -1472 ≤ A) (b1 : B.natAbs ≤ 1472) (c1 : C.natAbs ≤ 1472) (x1 : X ≤ -384) (x2 : -1472 ≤ X) (y1 : Y.natAbs ≤ 1472) (z1 : Z.natAbs ≤ 1472)
theorem mul_bd {p q : Int} (hp : p.natAbs ≤ 1472) (hq : q.natAbs ≤ 1472) : (p * q).natAbs ≤ 2166784 := by
  rw [Int.natAbs_mul]; exact Nat.mul_le_mul hp hq
include ha hb hc hx hy hz b1 c1 y1 z1 a1 a2 x1 x2 in
theorem inn_dy : Dy 14 (fop .add .f32 (fop .add .f32 (fop .mul .f32 a x) (fop .mul .f32 b y)) (fop .mul .f32 c z)) (A * X + B * Y + C * Z) := by
  have p := mul_bd (show A.natAbs ≤ 1472 by omega) (show X.natAbs ≤ 1472 by omega)
  have q := mul_bd b1 y1
  have r := mul_bd c1 z1
  exact ((ha.mul hx (by decide) (by omega)).add (hb.mul hy (by decide) (by omega)) (by omega)).add (hc.mul hz (by decide) (by omega)) (by omega)
end
theorem len9 {w : Nat} {N : Int} (h : Dy 14 w N) (h1 : 147456 ≤ N) (h2 : N ≤ 6500352) : ∃ r, Val .f32 (fcvt .f64 .f32 (fsqrt (fcvt .f32 .f64 w))) r ∧ 299 / 100 ≤ r ∧ r ≤ 201 / 10 ∧ Near (r * r - (N : Rat) * dyu 14) ((N : Rat) * dyu 14 * e22) ∧ 9 ≤ (N : Rat) * dyu 14 ∧ (N : Rat) * dyu 14 ≤ 400 := by
  have u0 : 0 ≤ dyu 14 := by decide +kernel
  have m1 := Rat.mul_le_mul_of_nonneg_right (Rat.intCast_le_intCast.2 h1) u0
  have m2 := Rat.mul_le_mul_of_nonneg_right (Rat.intCast_le_intCast.2 h2) u0
  have e1 : ((147456 : Int) : Rat) * dyu 14 = 9 := by decide +kernel
  have e2 : ((6500352 : Int) : Rat) * dyu 14 ≤ 400 := by decide +kernel
  rw [e1] at m1
  have V := h.val
  generalize (N : Rat) * dyu 14 = m at *
  have m2 : m ≤ 400 := Rat.le_trans m2 e2
  obtain ⟨r, r1, r2, r3, _⟩ := V.root (by have : (0 : Rat) ≤ 9 := by decide
                                          grind) (Rat.le_trans m2 (by decide +kernel))
  have ee : e22 ≤ 1 / 1000000 := by decide +kernel
  have m0 : 0 ≤ m := by have : (0 : Rat) ≤ 9 := by decide
                        grind
  have me := Rat.mul_le_mul_of_nonneg_left ee m0
  refine ⟨r, r1, le_of_sq r2 ?_, le_of_sq (by decide +kernel) ?_, r3, m1, m2⟩
  · have k : (299 / 100 * (299 / 100) : Rat) ≤ 9 - 400 * (1 / 1000000) := by decide +kernel
    have := Rat.mul_le_mul_of_nonneg_right m2 (show (0 : Rat) ≤ 1 / 1000000 by decide +kernel)
    unfold Near at r3
    grind
  · have k : (400 + 400 * (1 / 1000000) : Rat) ≤ 201 / 10 * (201 / 10) := by decide +kernel
    have := Rat.mul_le_mul_of_nonneg_right m2 (show (0 : Rat) ≤ 1 / 1000000 by decide +kernel)
    unfold Near at r3
    grind
theorem cau9 (a b c x y z : Rat) : (a * x - (b * y + c * z)) * (a * x - (b * y + c * z)) ≤ (a * a + b * b + c * c) * (x * x + y * y + z * z) := by
  have h1 := sqn (a * y + b * x)
  have h2 := sqn (a * z + c * x)
  have h3 := sqn (b * z - c * y)
  grind
section
variable {a b c x y z : Nat} {A B C X Y Z : Int} (ha : Dy 7 a A) (hb : Dy 7 b B) (hc : Dy 7 c C) (hx : Dy 7 x X) (hy : Dy 7 y Y) (hz : Dy 7 z Z)
  (a1 : A ≤ -384) (a2 : -1472 ≤ A) (b1 : B.natAbs ≤ 1472) (c1 : C.natAbs ≤ 1472) (x1 : X ≤ -384) (x2 : -1472 ≤ X) (y1 : Y.natAbs ≤ 1472) (z1 : Z.natAbs ≤ 1472)
include ha hb hc hx hy hz b1 c1 y1 z1 a1 a2 x1 x2
theorem q9 : ∃ q, Val .f32 (qW a b c x y z) q ∧ Near q (28 / 100) := by
  have sqi : ∀ {p : Int}, p.natAbs ≤ 1472 → 0 ≤ p * p ∧ p * p ≤ 2166784 := fun {p} h => by
    have h1 := mul_bd h h
    have h3 : 0 ≤ p * p := by rw [← Int.natAbs_mul_self]; exact Int.natCast_nonneg _
    exact ⟨h3, by omega⟩
  have sq3 : ∀ {p : Int}, p ≤ -384 → 147456 ≤ p * p := fun {p} h => by
    have := Int.mul_le_mul (show (384 : Int) ≤ -p by omega) (show (384 : Int) ≤ -p by omega) (by decide) (by omega)
    rw [Int.neg_mul_neg] at this
    exact this
  have I1 := inn_dy ha hb hc ha hb hc a1 a2 b1 c1 a1 a2 b1 c1
  have I2 := inn_dy hx hy hz hx hy hz x1 x2 y1 z1 x1 x2 y1 z1
  have I3 := (inn_dy ha hb hc hx hy hz a1 a2 b1 c1 x1 x2 y1 z1).val
  have sa := sqi (show A.natAbs ≤ 1472 by omega)
  have sb := sqi b1
  have sc := sqi c1
  have sx := sqi (show X.natAbs ≤ 1472 by omega)
  have sy := sqi y1
  have sz := sqi z1
  have ta := sq3 a1
  have tx := sq3 x1
  obtain ⟨r, r1, r2, r3, r4, r5, r6⟩ := len9 I1 (by omega) (by omega)
  obtain ⟨s, s1, s2, s3, s4, s5, s6⟩ := len9 I2 (by omega) (by omega)
  have ax : 9 ≤ (A : Rat) * dyu 7 * ((X : Rat) * dyu 7) := by
    have h : (147456 : Int) ≤ A * X := by
      have := Int.mul_le_mul (show (384 : Int) ≤ -A by omega) (show (384 : Int) ≤ -X by omega) (by decide) (by omega)
      rw [Int.neg_mul_neg] at this
      exact this
    have h2 := Rat.mul_le_mul_of_nonneg_right (Rat.intCast_le_intCast.2 h) (show 0 ≤ dyu 14 by decide +kernel)
    have e1 : ((147456 : Int) : Rat) * dyu 14 = 9 := by decide +kernel
    have e2 : dyu 14 = dyu 7 * dyu 7 := by decide +kernel
    rw [e1, Rat.intCast_mul, e2] at h2
    grind
  have ibd : (A * X + B * Y + C * Z).natAbs ≤ 6500352 := by
    have p := mul_bd (show A.natAbs ≤ 1472 by omega) (show X.natAbs ≤ 1472 by omega)
    have q := mul_bd b1 y1
    have r := mul_bd c1 z1
    omega
  have inr : Near (((A * X + B * Y + C * Z : Int) : Rat) * dyu 14) 400 := by
    have u0 : 0 ≤ dyu 14 := by decide +kernel
    have e2 : ((6500352 : Int) : Rat) * dyu 14 ≤ 400 := by decide +kernel
    have e3 : (-400 : Rat) ≤ ((-6500352 : Int) : Rat) * dyu 14 := by decide +kernel
    have m1 := Rat.mul_le_mul_of_nonneg_right (Rat.intCast_le_intCast.2 (show -6500352 ≤ A * X + B * Y + C * Z by omega)) u0
    have m2 := Rat.mul_le_mul_of_nonneg_right (Rat.intCast_le_intCast.2 (show A * X + B * Y + C * Z ≤ 6500352 by omega)) u0
    unfold Near
    grind
  have cs := cau9 ((A : Rat) * dyu 7) ((B : Rat) * dyu 7) ((C : Rat) * dyu 7) ((X : Rat) * dyu 7) ((Y : Rat) * dyu 7) ((Z : Rat) * dyu 7)
  have e2 : dyu 14 = dyu 7 * dyu 7 := by decide +kernel
  have eI : ((A * X + B * Y + C * Z : Int) : Rat) * dyu 14 = (A : Rat) * dyu 7 * ((X : Rat) * dyu 7) + ((B : Rat) * dyu 7 * ((Y : Rat) * dyu 7) + (C : Rat) * dyu 7 * ((Z : Rat) * dyu 7)) := by
    simp only [Rat.intCast_mul, Rat.intCast_add]; rw [e2]; grind
  have eR : (A : Rat) * dyu 7 * ((A : Rat) * dyu 7) + (B : Rat) * dyu 7 * ((B : Rat) * dyu 7) + (C : Rat) * dyu 7 * ((C : Rat) * dyu 7) = ((A * A + B * B + C * C : Int) : Rat) * dyu 14 := by
    simp only [Rat.intCast_mul, Rat.intCast_add]; rw [e2]; grind
  have eS : (X : Rat) * dyu 7 * ((X : Rat) * dyu 7) + (Y : Rat) * dyu 7 * ((Y : Rat) * dyu 7) + (Z : Rat) * dyu 7 * ((Z : Rat) * dyu 7) = ((X * X + Y * Y + Z * Z : Int) : Rat) * dyu 14 := by
    simp only [Rat.intCast_mul, Rat.intCast_add]; rw [e2]; grind
  rw [eR, eS] at cs
  rw [eI] at I3 inr
  generalize ((A * A + B * B + C * C : Int) : Rat) * dyu 14 = RR at *
  generalize ((X * X + Y * Y + Z * Z : Int) : Rat) * dyu 14 = SS at *
  generalize (A : Rat) * dyu 7 * ((X : Rat) * dyu 7) = α at *
  generalize (B : Rat) * dyu 7 * ((Y : Rat) * dyu 7) + (C : Rat) * dyu 7 * ((Z : Rat) * dyu 7) = δ at *
  have c3 : (0 : Rat) ≤ 299 / 100 := by decide +kernel
  have r0 : 0 ≤ r := Rat.le_trans c3 r2
  have s0 : 0 ≤ s := Rat.le_trans c3 s2
  have rs0 := Rat.mul_nonneg r0 s0
  have big : (1000000 : Rat) ≤ most := by decide +kernel
  have rsu : r * s ≤ 405 := by
    have h1 := Rat.mul_le_mul_of_nonneg_right r3 s0
    have h2 := Rat.mul_le_mul_of_nonneg_left s3 (show (0 : Rat) ≤ 201 / 10 by decide +kernel)
    have h3 : (201 / 10 * (201 / 10) : Rat) ≤ 405 := by decide +kernel
    grind
  have rsl : 89 / 10 ≤ r * s := by
    have h1 := Rat.mul_le_mul_of_nonneg_right r2 s0
    have h2 := Rat.mul_le_mul_of_nonneg_left s2 c3
    have h3 : (89 / 10 : Rat) ≤ 299 / 100 * (299 / 100) := by decide +kernel
    grind
  have ee : (0 : Rat) ≤ 1 - e22 := by decide +kernel
  have key : (α - δ) * (1 - e22) ≤ r * s := by
    refine le_of_sq rs0 ?_
    have h1 : RR * (1 - e22) ≤ r * r := by unfold Near at r4; grind
    have h2 : SS * (1 - e22) ≤ s * s := by unfold Near at s4; grind
    have n9 : (0 : Rat) ≤ 9 := by decide
    have h3 := Rat.mul_le_mul_of_nonneg_right h1 (Rat.mul_nonneg (show 0 ≤ SS by grind) ee)
    have h4 := Rat.mul_le_mul_of_nonneg_left h2 (Rat.mul_nonneg r0 r0)
    have h5 := Rat.mul_le_mul_of_nonneg_right cs (Rat.mul_nonneg ee ee)
    have e1 : (α - δ) * (1 - e22) * ((α - δ) * (1 - e22)) = (α - δ) * (α - δ) * ((1 - e22) * (1 - e22)) := by grind
    have e2 : RR * (1 - e22) * (SS * (1 - e22)) = RR * SS * ((1 - e22) * (1 - e22)) := by grind
    have e3 : r * s * (r * s) = r * r * (s * s) := by grind
    rw [e1, e3]
    rw [e2] at h3
    grind
  have sum : 179 / 10 ≤ r * s + (α + δ) := by
    have h1 : (α - δ) * e22 ≤ 1 / 100 := by
      by_cases g : 0 ≤ α - δ
      · have h0 : α - δ ≤ 1000 := by
          have : (α - δ) * (1 - e22) ≤ 405 := Rat.le_trans key rsu
          have h2 := Rat.mul_le_mul_of_nonneg_left (show (1 / 2 : Rat) ≤ 1 - e22 by decide +kernel) g
          have : (1 / 2 : Rat) * 2 = 1 := by decide +kernel
          grind
        have h2 := Rat.mul_le_mul_of_nonneg_right h0 (Rat.le_of_lt e22_pos)
        have h3 : 1000 * e22 ≤ 1 / 100 := by decide +kernel
        grind
      · have h2 := Rat.mul_le_mul_of_nonneg_right (show α - δ ≤ 0 by grind) (Rat.le_of_lt e22_pos)
        have : (0 : Rat) ≤ 1 / 100 := by decide +kernel
        grind
    have h3 : (179 / 10 : Rat) ≤ 18 - 1 / 100 := by decide +kernel
    grind
  have nrs : Near (r * s) 405 := by unfold Near; constructor <;> grind
  obtain ⟨p, p1, p2⟩ := r1.mul s1 nrs (by grind)
  have kp : 405 * ur .f32 + tiny .f32 ≤ 1 / 1000 := by decide +kernel
  have p2 := p2.mono kp
  have k9 : (1 / 1000 : Rat) ≤ 1 := by decide +kernel
  have npi : Near (p + (α + δ)) 806 := by unfold Near at *; constructor <;> grind
  obtain ⟨e, e1, e2'⟩ := p1.add I3 npi (by grind)
  have ke : 806 * ur .f32 + tiny .f32 ≤ 1 / 1000 := by decide +kernel
  have e2' := e2'.mono ke
  have el : 17 ≤ e := by
    have : (17 : Rat) ≤ 179 / 10 - 1 / 1000 - 1 / 1000 := by decide +kernel
    unfold Near at p2 e2'
    grind
  have eu : e ≤ 807 := by unfold Near at npi e2'; grind
  have pl : 88 / 10 ≤ p := by
    have : (88 / 10 : Rat) ≤ 89 / 10 - 1 / 1000 := by decide +kernel
    unfold Near at p2
    grind
  have pu : p ≤ 406 := by unfold Near at p2; grind
  have p0 : 0 ≤ p := Rat.le_trans (by decide +kernel) pl
  have e0 : (0 : Rat) ≤ e := Rat.le_trans (by decide +kernel) el
  have pe1 : 149 ≤ p * e := by
    have h1 := Rat.mul_le_mul_of_nonneg_right pl e0
    have h2 := Rat.mul_le_mul_of_nonneg_left el (show (0 : Rat) ≤ 88 / 10 by decide +kernel)
    have h3 : (149 : Rat) ≤ 88 / 10 * 17 := by decide +kernel
    grind
  have pe2 : p * e ≤ 400000 := by
    have h1 := Rat.mul_le_mul_of_nonneg_right pu e0
    have h2 := Rat.mul_le_mul_of_nonneg_left eu (show (0 : Rat) ≤ 406 by decide +kernel)
    have h3 : (406 * 807 : Rat) ≤ 400000 := by decide +kernel
    grind
  obtain ⟨m, m1, m2⟩ := p1.mul e1 (X := 400000) (by unfold Near; constructor <;> grind) (by grind)
  have km : 400000 * ur .f32 + tiny .f32 ≤ 1 := by decide +kernel
  have ml : 148 ≤ m := by have := m2.mono km; unfold Near at this; grind
  have nu : Near (r + s) (402 / 10) := by
    have : (201 / 10 + 201 / 10 : Rat) = 402 / 10 := by decide +kernel
    have : (0 : Rat) ≤ 402 / 10 := by decide +kernel
    unfold Near; constructor <;> grind
  have k40 : (402 / 10 : Rat) ≤ 1000000 := by decide +kernel
  obtain ⟨n, n1, n2⟩ := r1.add s1 nu (by grind)
  have kn : 402 / 10 * ur .f32 + tiny .f32 ≤ 1 / 10 := by decide +kernel
  have nn : Near n (403 / 10) := by
    have := (n2.mono kn).add nu
    rw [show n - (r + s) + (r + s) = n by grind] at this
    exact this.mono (by decide +kernel)
  have m0 : 0 < m := by have : (0 : Rat) < 148 := by decide
                        grind
  have nd : Near (n / m) (273 / 1000) := by
    have h1 : n / m * m = n := Rat.div_mul_cancel (by grind)
    have h2 : (403 / 10 : Rat) ≤ 273 / 1000 * 148 := by decide +kernel
    have h3 := Rat.mul_le_mul_of_nonneg_left ml (show (0 : Rat) ≤ 273 / 1000 by decide +kernel)
    unfold Near at nn ⊢
    constructor
    · refine Rat.le_of_mul_le_mul_right (c := m) ?_ m0
      rw [h1]; grind
    · refine Rat.le_of_mul_le_mul_right (c := m) ?_ m0
      rw [h1]; grind
  have k27 : (273 / 1000 : Rat) ≤ 1000000 := by decide +kernel
  obtain ⟨q, q1, q2⟩ := n1.quo m1 (by grind) nd (by grind)
  refine ⟨q, q1, ?_⟩
  have kq : 273 / 1000 * ur .f32 + tiny .f32 + 273 / 1000 ≤ 28 / 100 := by decide +kernel
  have := q2.add nd
  rw [show q - n / m + n / m = q by grind] at this
  exact this.mono kq
end
end Go.Fw

/-
  Sums of bounded words, and of their products with a number.
-/
namespace Go.Fw
theorem tiny_le {W : Rat} (h : 1 / 1000000000000000000000000000000 ≤ W) : 1000 * tiny .f32 ≤ ur .f32 * W := by
  have h1 := Rat.mul_le_mul_of_nonneg_left h (Rat.le_of_lt (ur_pos .f32))
  have h2 : 1000 * tiny .f32 ≤ ur .f32 * (1 / 1000000000000000000000000000000) := by decide +kernel
  exact Rat.le_trans h2 h1
theorem bd_mul {x y : Nat} {a b X Y : Rat} (hx : Val .f32 x a) (hy : Val .f32 y b) (nx : Near a X) (ny : Near b Y) (lo : 1 / 1000000000000000000000000000000 ≤ X * Y) (hi : X * Y ≤ 1000000000000) :
    ∃ c, Val .f32 (fop .mul .f32 x y) c ∧ Near (c - a * b) (2 * ur .f32 * (X * Y)) ∧ Near c (1001 / 1000 * (X * Y)) := by
  have big : (1000000000000 : Rat) ≤ most := by decide +kernel
  have n := nx.mul ny
  obtain ⟨c, c1, c2⟩ := hx.mul hy n (by grind)
  have t := tiny_le lo
  have t0 := tiny_pos .f32
  have c3 : Near (c - a * b) (2 * ur .f32 * (X * Y)) := c2.mono (by grind)
  refine ⟨c, c1, c3, ?_⟩
  have := c3.add n
  rw [show c - a * b + a * b = c by grind] at this
  have k : (2 * ur .f32 + 1 : Rat) ≤ 1001 / 1000 := by decide +kernel
  have k := Rat.mul_le_mul_of_nonneg_right k n.nonneg
  exact this.mono (by grind)
theorem bd_crs {b c y z : Nat} {B C Y Z P Q : Rat} (hb : Val .f32 b B) (hc : Val .f32 c C) (hy : Val .f32 y Y) (hz : Val .f32 z Z) (nB : Near B P) (nC : Near C P) (nY : Near Y Q) (nZ : Near Z Q) (lo : 1 / 1000000000000000000000000000000 ≤ P * Q) (hi : P * Q ≤ 100000000000) :
    ∃ v, Val .f32 (fop .sub .f32 (fop .mul .f32 b z) (fop .mul .f32 c y)) v ∧ Near v (201 / 100 * (P * Q)) := by
  have big : (1000000000000 : Rat) ≤ most := by decide +kernel
  have h10 : (100000000000 : Rat) ≤ 1000000000000 := by decide +kernel
  obtain ⟨p, p1, _, p2⟩ := bd_mul hb hz nB nZ lo (by grind)
  obtain ⟨q, q1, _, q2⟩ := bd_mul hc hy nC nY lo (by grind)
  have n := p2.sub q2
  have n0 := nB.mul nZ
  have n0 := n0.nonneg
  have k10 : (1001 / 1000 + 1001 / 1000 : Rat) ≤ 3 := by decide +kernel
  have k10 := Rat.mul_le_mul_of_nonneg_right k10 n0
  obtain ⟨v, v1, v2⟩ := p1.sub q1 n (by grind)
  refine ⟨v, v1, ?_⟩
  have := v2.add n
  rw [show v - (p - q) + (p - q) = v by grind] at this
  have t := tiny_le lo
  have t0 := tiny_pos .f32
  have k : ((1001 / 1000 + 1001 / 1000) * ur .f32 + ur .f32 + (1001 / 1000 + 1001 / 1000) : Rat) ≤ 201 / 100 := by decide +kernel
  have k := Rat.mul_le_mul_of_nonneg_right k n0
  exact this.mono (by grind)
theorem bd_sum {s t : Nat → Nat} {f F : Nat → Rat} {T : Rat} {n : Nat} (h0 : Val .f32 (s 0) 0) (hs : ∀ k, k < n → s (k + 1) = fop .add .f32 (s k) (t k)) (ht : ∀ k, k < n → Val .f32 (t k) (f k)) (hF : ∀ k, k < n → Near (f k) (F k))
    (hT : rsum F n ≤ T) (hn : n ≤ 6) (hm : T ≤ 1152921504606846976) (lo : 1 / 1000000000000000000000000000000 ≤ T) : ∃ v, Val .f32 (s n) v ∧ Near (v - rsum f n) (13 * ur .f32 * T) ∧ Near v (1001 / 1000 * T) := by
  obtain ⟨v, v1, v2⟩ := sum_rel h0 hs ht hF hT (by omega) hm n (by omega)
  have t := tiny_le lo
  have t0 := tiny_pos .f32
  have T0 : 0 ≤ T := Rat.le_trans (by decide +kernel) lo
  have e0 := eps_pos T0
  have n6 : (n : Rat) ≤ 6 := Rat.natCast_le_natCast.2 hn
  have h := Rat.mul_le_mul_of_nonneg_right n6 e0
  have v3 : Near (v - rsum f n) (13 * ur .f32 * T) := v2.mono (by
    refine Rat.le_trans h ?_
    unfold eps
    grind)
  refine ⟨v, v1, v3, ?_⟩
  have := v3.add ((rsum_nearF n hF).mono hT)
  rw [show v - rsum f n + rsum f n = v by grind] at this
  have k : (13 * ur .f32 + 1 : Rat) ≤ 1001 / 1000 := by decide +kernel
  have k := Rat.mul_le_mul_of_nonneg_right k T0
  exact this.mono (by grind)
theorem sum_prod {s t o p : Nat → Nat} {U : Nat} {f F : Nat → Rat} {c T : Rat} {n : Nat} (s0 : Val .f32 (s 0) 0) (p0 : Val .f32 (p 0) 0) (hs : ∀ k, k < n → s (k + 1) = fop .add .f32 (s k) (t k)) (hp : ∀ k, k < n → p (k + 1) = fop .add .f32 (p k) (o k))
    (ho : ∀ k, k < n → Val .f32 (o k) (f k)) (ht : ∀ k, k < n → t k = fop .mul .f32 (fop .add .f32 0 (o k)) U) (hU : Val .f32 U c) (c2 : Near c 2) (hF : ∀ k, k < n → Near (f k) (F k)) (lF : ∀ k, k < n → 1 / 1000000000000000000000000000000 ≤ F k) (hF9 : ∀ k, k < n → F k ≤ 100000000000)
    (hT : rsum F n ≤ T) (hn : n ≤ 6) (hm : T ≤ 100000000000) (lo : 1 / 1000000000000000000000000000000 ≤ T) :
    ∃ a b, Val .f32 (s n) a ∧ Val .f32 (fop .mul .f32 (p n) U) b ∧ Near (a - b) (100 * ur .f32 * T) ∧ ∀ k, k < n → ∃ v, Val .f32 (t k) v := by
  have T0 : 0 ≤ T := Rat.le_trans (by decide +kernel) lo
  have z0 : Val .f32 0 0 := Val.of_vof (by decide +kernel)
  have H : ∀ k, k < n → ∃ v, Val .f32 (t k) v ∧ Near (v - f k * c) (2 * ur .f32 * (F k * 2)) ∧ Near v (1001 / 1000 * (F k * 2)) := fun k hk => by
    have h1 := lF k hk
    have h2 := hF9 k hk
    have h3 : (100000000000 * 2 : Rat) ≤ 1000000000000 := by decide +kernel
    have h4 : (0 : Rat) ≤ 1 / 1000000000000000000000000000000 := by decide +kernel
    obtain ⟨v, v1, v2, v3⟩ := bd_mul (val_add0 z0 (ho k hk)) hU (hF k hk) c2 (by grind) (by grind)
    exact ⟨v, by rw [ht k hk]; exact v1, v2, v3⟩
  obtain ⟨g, hg⟩ : ∃ g : Nat → Rat, ∀ k, k < n → Val .f32 (t k) (g k) ∧ Near (g k - f k * c) (2 * ur .f32 * (F k * 2)) ∧ Near (g k) (1001 / 1000 * (F k * 2)) :=
    ⟨fun k => if h : k < n then (H k h).choose else 0, fun k hk => by
      have := (H k hk).choose_spec
      simp only [hk, dite_true]
      exact this⟩
  have k1 : (1001 / 1000 * 2 : Rat) ≤ 21 / 10 := by decide +kernel
  have rF : rsum (fun k => 1001 / 1000 * 2 * F k) n = 1001 / 1000 * 2 * rsum F n := rsum_mul _ _ _
  have big : (21 / 10 * 100000000000 : Rat) ≤ 1152921504606846976 := by decide +kernel
  have hTT := Rat.mul_le_mul_of_nonneg_left hT (show (0 : Rat) ≤ 1001 / 1000 * 2 by decide +kernel)
  have hTu := Rat.mul_le_mul_of_nonneg_right k1 T0
  have hTm := Rat.mul_le_mul_of_nonneg_left hm (show (0 : Rat) ≤ 21 / 10 by decide +kernel)
  have hTl : 1 * T ≤ 21 / 10 * T := Rat.mul_le_mul_of_nonneg_right (by decide +kernel) T0
  obtain ⟨a, a1, a2, _⟩ := bd_sum (T := 21 / 10 * T) (F := fun k => 1001 / 1000 * 2 * F k) s0 hs (fun k hk => (hg k hk).1) (fun k hk => (hg k hk).2.2.mono (by grind)) (by rw [rF]; grind) hn (by grind) (by grind)
  obtain ⟨d, d1, d2, d3⟩ := bd_sum p0 hp ho hF hT hn (by grind) lo
  have k2 : (1001 / 1000 * 2 : Rat) ≤ 3 := by decide +kernel
  have l1 : 1 * T ≤ 1001 / 1000 * T := Rat.mul_le_mul_of_nonneg_right (by decide +kernel) T0
  have l2 : 1001 / 1000 * T ≤ 2 * T := Rat.mul_le_mul_of_nonneg_right (by decide +kernel) T0
  have h4' : (4 * 100000000000 : Rat) ≤ 1000000000000 := by decide +kernel
  obtain ⟨b, b1, b2, _⟩ := bd_mul d1 hU d3 c2 (by grind) (by grind)
  refine ⟨a, b, a1, b1, ?_, fun k hk => ⟨_, (hg k hk).1⟩⟩
  have e1 : Near (rsum g n - rsum f n * c) (4 * ur .f32 * T) := by
    have h1 : rsum g n - rsum f n * c = rsum (fun k => g k + -c * f k) n := by
      rw [rsum_add2, rsum_mul]; grind
    rw [h1]
    have h2 := rsum_nearF (f := fun k => g k + -c * f k) (F := fun k => 4 * ur .f32 * F k) n fun k hk => by
      have := (hg k hk).2.1
      rw [show g k - f k * c = g k + -c * f k by grind] at this
      exact this.mono (by grind)
    rw [rsum_mul] at h2
    refine h2.mono (Rat.mul_le_mul_of_nonneg_left hT ?_)
    have := ur_pos .f32
    grind
  have u0 := ur_pos .f32
  have uT := Rat.mul_nonneg (Rat.le_of_lt u0) T0
  have d4 := d2.mul c2
  have := ((a2.add e1).sub d4).sub b2
  rw [show a - rsum g n + (rsum g n - rsum f n * c) - (d - rsum f n) * c - (b - d * c) = a - b by grind] at this
  refine this.mono ?_
  have k5 : (13 * (21 / 10) + 4 + 26 + 2 * (1001 / 1000 * 2) : Rat) ≤ 100 := by decide +kernel
  have k5 := Rat.mul_le_mul_of_nonneg_right k5 uT
  grind
end Go.Fw
