/-
  Floats that are finite numbers, told as whole numbers of the format's least units; what the operations make of them.
-/
import Derived.Test.YtlehhjphmenfbaaFwC

namespace Go.Fw
open Ieee (Datum Format Toward signed)
/-- The word w is a finite number, n least units. -/
def Fin (k : FloatKind) (w : Nat) (n : Int) : Prop := ∃ s m i, k.format.read w = .number s m i ∧ k.format.leastPlace ≤ i ∧ n = signed s m (i - k.format.leastPlace).toNat
def sg (s : Bool) (n : Nat) : Int := if s then -(n : Int) else n
theorem signed_sg (s : Bool) (m a : Nat) : signed s m a = sg s (m * 2 ^ a) := by
  unfold signed sg; rw [shl_eq]
theorem sg_zero (s : Bool) : sg s 0 = 0 := by cases s <;> rfl
theorem sg_abs (s : Bool) (n : Nat) : (sg s n).natAbs = n := by
  unfold sg; cases s <;> simp
/-- Digits behind the first one; the number of least units to one, as a power of two; from here on too great. -/
def fbK : FloatKind → Nat
  | .f32 => 23
  | .f64 => 52
def scK : FloatKind → Nat
  | .f32 => 149
  | .f64 => 1074
def limE : FloatKind → Nat
  | .f32 => 277
  | .f64 => 2098
def limK (k : FloatKind) : Nat := 2 ^ limE k
theorem limK_pow (k : FloatKind) : limK k = 2 ^ limE k := rfl
theorem limK_pos (k : FloatKind) : 0 < limK k := by rw [limK_pow]; exact Nat.two_pow_pos _
theorem fbK_eq (k : FloatKind) : k.format.fractionBits = fbK k := by cases k <;> rfl
theorem scK_eq (k : FloatKind) : k.format.leastPlace = -((scK k : Nat) : Int) := by cases k <;> rfl
theorem limK_eq (k : FloatKind) : lim k.format = limK k := by cases k <;> decide +kernel
theorem eb_le (k : FloatKind) : 2 ≤ k.format.exponentBits := by cases k <;> decide
theorem fin_write {k : FloatKind} {s : Bool} {m : Nat} {i : Int} {A B : Nat} (hB : 0 < B) (hv : m * 2 ^ (i + scK k).toNat * B = A * 2 ^ (-(scK k : Int) - i).toNat) (hlt : rq (fbK k) A B < limK k) :
    Fin k (k.format.write (.number s m i)) (sg s (rq (fbK k) A B)) := by
  rw [← fbK_eq, ← limK_eq] at hlt
  obtain ⟨m', i', h1, h2, h3⟩ := near_val (f := k.format) (m := m) (i := i) s hB (eb_le k) (by
    rw [scK_eq, show i - -((scK k : Nat) : Int) = i + scK k by omega]; exact hv) hlt
  refine ⟨s, m', i', h1, h2, ?_⟩
  rw [signed_sg, h3, fbK_eq]
/-- z / D rounded, with its sign. -/
def rI (k : FloatKind) (z : Int) (D : Nat) : Int := sg (decide (z < 0)) (rq (fbK k) z.natAbs D)
theorem rq_zero (fb B : Nat) : rq fb 0 B = 0 := by
  unfold rq rqN
  rw [Nat.zero_mod, Nat.zero_div]
  have h1 : Nat.beq (0 % 2) 1 = false := rfl
  have h2 : ∀ D, Nat.blt D (2 * 0) = false := fun D => by rw [Bool.eq_false_iff]; intro h; rw [Nat.blt_eq] at h; omega
  rw [h1, Bool.and_false, h2]
  simp
theorem rI_sg (k : FloatKind) (s : Bool) (n D : Nat) : rI k (sg s n) D = sg s (rq (fbK k) n D) := by
  unfold rI
  rw [sg_abs]
  rcases Nat.eq_zero_or_pos n with h | h
  · subst h; rw [rq_zero, sg_zero, sg_zero]
  · have : decide (sg s n < 0) = s := by unfold sg; cases s <;> simp <;> omega
    rw [this]
theorem rI_abs (k : FloatKind) (z : Int) (D : Nat) : (rI k z D).natAbs = rq (fbK k) z.natAbs D := sg_abs _ _
theorem Fin.unique {k : FloatKind} {w : Nat} {a b : Int} (h : Fin k w a) (h' : Fin k w b) : a = b := by
  obtain ⟨s, m, i, h1, _, rfl⟩ := h
  obtain ⟨t, n, j, h2, _, rfl⟩ := h'
  rw [h1] at h2
  injection h2 with e1 e2 e3
  subst e1 e2 e3
  rfl
theorem Fin.notNaN {k : FloatKind} {w : Nat} {a : Int} (h : Fin k w a) : isNaN k w = false := by
  obtain ⟨s, m, i, h1, _, _⟩ := h
  show (k.format.read w).isNaN = false
  rw [h1]; rfl
theorem Fin.num {k : FloatKind} {w : Nat} {a : Int} (h : Fin k w a) : num k w = true := by
  obtain ⟨s, m, i, h1, _, _⟩ := h
  unfold Fw.num; rw [h1]
theorem fop_some {op : BinOp} {k : FloatKind} {x y r : Nat} (h : floatBits op k x y = some r) : fop op k x y = r := by unfold fop; rw [h]
/-- A datum's exact sum in least units. -/
theorem sum_units {k : FloatKind} {s t : Bool} {m n : Nat} {i j : Int} (hi : k.format.leastPlace ≤ i) (hj : k.format.leastPlace ≤ j) :
    (signed s m (i - min i j).toNat + signed t n (j - min i j).toNat) * (2 ^ (min i j - k.format.leastPlace).toNat : Nat) = signed s m (i - k.format.leastPlace).toNat + signed t n (j - k.format.leastPlace).toNat := by
  rw [Int.add_mul]
  have key : ∀ (s : Bool) (m : Nat) (i b : Int), k.format.leastPlace ≤ b → b ≤ i → signed s m (i - b).toNat * (2 ^ (b - k.format.leastPlace).toNat : Nat) = signed s m (i - k.format.leastPlace).toNat := fun s m i b h1 h2 => by
    rw [signed_sg, signed_sg, show (i - k.format.leastPlace).toNat = (i - b).toNat + (b - k.format.leastPlace).toNat by omega, Nat.pow_add, ← Nat.mul_assoc]
    unfold sg
    cases s
    · simp
    · simp [Int.neg_mul]
  rw [key s m i (min i j) (by omega) (by omega), key t n j (min i j) (by omega) (by omega)]
theorem rI_units (k : FloatKind) (z : Int) (p : Nat) {b : Bool} (hb : z = 0 ∨ b = decide (z < 0)) : rI k (z * (2 ^ p : Nat)) 1 = sg b (rq (fbK k) (z.natAbs * 2 ^ p) 1) := by
  rcases hb with hb | hb
  · subst hb
    rw [Int.zero_mul, Int.natAbs_zero, Nat.zero_mul]
    unfold rI
    rw [Int.natAbs_zero, rq_zero, sg_zero, sg_zero]
  · have hz : z * (2 ^ p : Nat) = sg b (z.natAbs * 2 ^ p) := by
      rw [hb]
      unfold sg
      by_cases h : z < 0
      · rw [decide_eq_true h, if_pos rfl, Int.natCast_mul, Int.ofNat_natAbs_of_nonpos (by omega), Int.neg_mul, Int.neg_neg]
      · rw [decide_eq_false h, if_neg (by simp), Int.natCast_mul, Int.natAbs_of_nonneg (by omega)]
    rw [hz, rI_sg]
theorem fin_sum {k : FloatKind} {s t : Bool} {m n : Nat} {i j : Int} {b : Bool} (hi : k.format.leastPlace ≤ i) (hj : k.format.leastPlace ≤ j)
    (hb : signed s m (i - min i j).toNat + signed t n (j - min i j).toNat = 0 ∨ b = decide (signed s m (i - min i j).toNat + signed t n (j - min i j).toNat < 0))
    (hlt : (rI k (signed s m (i - k.format.leastPlace).toNat + signed t n (j - k.format.leastPlace).toNat) 1).natAbs < limK k) :
    Fin k (k.format.write (.number b (signed s m (i - min i j).toNat + signed t n (j - min i j).toNat).natAbs (min i j))) (rI k (signed s m (i - k.format.leastPlace).toNat + signed t n (j - k.format.leastPlace).toNat) 1) := by
  have hu := sum_units (s := s) (t := t) (m := m) (n := n) hi hj
  generalize signed s m (i - min i j).toNat + signed t n (j - min i j).toNat = z at *
  rw [← hu] at hlt ⊢
  have hsc := scK_eq k
  have hle : k.format.leastPlace ≤ min i j := by omega
  generalize min i j = c at *
  rw [rI_abs, Int.natAbs_mul, Int.natAbs_natCast] at hlt
  have e1 : (c - k.format.leastPlace).toNat = (c + scK k).toNat := by rw [hsc, Int.sub_neg]
  have e2 : (-(scK k : Int) - c).toNat = 0 := by omega
  have hfw := fin_write (k := k) (s := b) (m := z.natAbs) (i := c) (A := z.natAbs * 2 ^ (c - k.format.leastPlace).toNat) (B := 1) (by omega) (by rw [e1, e2, Nat.pow_zero]) hlt
  have e3 := rI_units k z (c - k.format.leastPlace).toNat hb
  rw [e3]
  exact hfw
theorem Fin.add {k : FloatKind} {x y : Nat} {a b : Int} (hx : Fin k x a) (hy : Fin k y b) (hlt : (rI k (a + b) 1).natAbs < limK k) : Fin k (fop .add k x y) (rI k (a + b) 1) := by
  obtain ⟨s, m, i, h1, h2, rfl⟩ := hx
  obtain ⟨t, n, j, h3, h4, rfl⟩ := hy
  have e : floatBits .add k x y = some (k.format.write (.number (if signed s m (i - min i j).toNat + signed t n (j - min i j).toNat = 0 then s && t else decide (signed s m (i - min i j).toNat + signed t n (j - min i j).toNat < 0)) (signed s m (i - min i j).toNat + signed t n (j - min i j).toNat).natAbs (min i j))) := by
    show ((k.format.read x).sum (k.format.read y)).map k.format.write = _
    rw [h1, h3]; rfl
  rw [fop_some e]
  refine fin_sum h2 h4 ?_ hlt
  by_cases h : signed s m (i - min i j).toNat + signed t n (j - min i j).toNat = 0
  · exact .inl h
  · right; rw [if_neg h]
theorem signed_not (s : Bool) (m a : Nat) : signed (!s) m a = -signed s m a := by
  unfold signed; cases s <;> simp
theorem Fin.sub {k : FloatKind} {x y : Nat} {a b : Int} (hx : Fin k x a) (hy : Fin k y b) (hlt : (rI k (a - b) 1).natAbs < limK k) : Fin k (fop .sub k x y) (rI k (a - b) 1) := by
  obtain ⟨s, m, i, h1, h2, rfl⟩ := hx
  obtain ⟨t, n, j, h3, h4, rfl⟩ := hy
  have e : floatBits .sub k x y = some (k.format.write (.number (if signed s m (i - min i j).toNat + signed (!t) n (j - min i j).toNat = 0 then s && !t else decide (signed s m (i - min i j).toNat + signed (!t) n (j - min i j).toNat < 0)) (signed s m (i - min i j).toNat + signed (!t) n (j - min i j).toNat).natAbs (min i j))) := by
    show ((k.format.read x).sum (k.format.read y).opposite).map k.format.write = _
    rw [h1, h3]; rfl
  rw [fop_some e]
  have e3 : signed s m (i - k.format.leastPlace).toNat - signed t n (j - k.format.leastPlace).toNat = signed s m (i - k.format.leastPlace).toNat + signed (!t) n (j - k.format.leastPlace).toNat := by rw [signed_not]; omega
  rw [e3] at hlt ⊢
  refine fin_sum h2 h4 ?_ hlt
  by_cases h : signed s m (i - min i j).toNat + signed (!t) n (j - min i j).toNat = 0
  · exact .inl h
  · right; rw [if_neg h]
theorem sg_mul (s t : Bool) (a b : Nat) : sg s a * sg t b = sg (s ^^ t) (a * b) := by
  unfold sg; cases s <;> cases t <;> simp [Int.neg_mul, Int.mul_neg]
theorem Fin.mul {k : FloatKind} {x y : Nat} {a b : Int} (hx : Fin k x a) (hy : Fin k y b) (hlt : (rI k (a * b) (2 ^ scK k)).natAbs < limK k) : Fin k (fop .mul k x y) (rI k (a * b) (2 ^ scK k)) := by
  obtain ⟨s, m, i, h1, h2, rfl⟩ := hx
  obtain ⟨t, n, j, h3, h4, rfl⟩ := hy
  have e : floatBits .mul k x y = some (k.format.write (.number (s ^^ t) (m * n) (i + j))) := by
    show ((k.format.read x).product (k.format.read y)).map k.format.write = _
    rw [h1, h3]; rfl
  rw [fop_some e]
  rw [signed_sg, signed_sg, sg_mul, rI_sg] at hlt ⊢
  rw [sg_abs] at hlt
  refine fin_write (Nat.two_pow_pos _) ?_ hlt
  rw [scK_eq] at h2 h4 ⊢
  have : ∀ p q : Nat, p + scK k = q + ((i - -((scK k : Nat) : Int)).toNat + (j - -((scK k : Nat) : Int)).toNat) → False ∨ True := fun _ _ _ => .inr trivial
  have e1 : (i + j + (scK k : Int)).toNat + scK k = (i - -((scK k : Nat) : Int)).toNat + (j - -((scK k : Nat) : Int)).toNat + (-(scK k : Int) - (i + j)).toNat := by omega
  have e2 : m * 2 ^ (i - -((scK k : Nat) : Int)).toNat * (n * 2 ^ (j - -((scK k : Nat) : Int)).toNat) = m * n * 2 ^ ((i - -((scK k : Nat) : Int)).toNat + (j - -((scK k : Nat) : Int)).toNat) := by
    rw [Nat.pow_add]; generalize 2 ^ (i - -((scK k : Nat) : Int)).toNat = u; generalize 2 ^ (j - -((scK k : Nat) : Int)).toNat = v
    rw [Nat.mul_assoc, Nat.mul_left_comm u, ← Nat.mul_assoc m n]
  rw [e2, Nat.mul_assoc (m * n), ← Nat.pow_add, e1, Nat.mul_assoc (m * n), ← Nat.pow_add]
/-- What the model's quotient stands for. -/
theorem quo_stick {m n more : Nat} (hn : 0 < n) : Stick (2 * (m * 2 ^ more / n) + ((m * 2 ^ more) % n != 0).toNat) (2 * (m * 2 ^ more)) n := by
  generalize m * 2 ^ more = d
  have h1 := Nat.div_add_mod d n
  have h2 := Nat.mod_lt d hn
  generalize d / n = q at *
  generalize hr : d % n = r at *
  unfold Stick
  by_cases h : r = 0
  · left
    subst h
    simp
    rw [← h1, Nat.mul_comm n q, Nat.mul_assoc]
    omega
  · right
    have : (r != 0).toNat = 1 := by simp [h]
    rw [this]
    refine ⟨by omega, ?_, ?_⟩
    · rw [Nat.add_sub_cancel, Nat.mul_assoc, Nat.mul_comm q n]; omega
    · have : (2 * q + 1 + 1) * n = 2 * (n * q) + 2 * n := by rw [show 2 * q + 1 + 1 = 2 * q + 2 by omega, Nat.add_mul, Nat.mul_assoc, Nat.mul_comm q n]
      rw [this]; omega
theorem sg_sign (s : Bool) (n : Nat) (h : n ≠ 0) : (sg s n).sign = if s then -1 else 1 := by
  unfold sg
  cases s
  · simp; omega
  · simp [Int.sign_neg]; omega
theorem Fin.quo {k : FloatKind} {x y : Nat} {a b : Int} (hx : Fin k x a) (hy : Fin k y b) (hb : b ≠ 0) (hlt : (rI k (a * b.sign * (2 ^ scK k : Nat)) b.natAbs).natAbs < limK k) : Fin k (fop .quo k x y) (rI k (a * b.sign * (2 ^ scK k : Nat)) b.natAbs) := by
  obtain ⟨s, m, i, h1, h2, rfl⟩ := hx
  obtain ⟨t, n, j, h3, h4, rfl⟩ := hy
  have hn : n ≠ 0 := fun e => hb (by subst e; rw [signed_sg, Nat.zero_mul, sg_zero])
  have hn' : 0 < n := by omega
  generalize hmo : (k.format.fractionBits + 2) + n.log2 - m.log2 = more
  have e : floatBits .quo k x y = some (k.format.write (.number (s ^^ t) (2 * (m <<< more / n) + ((m <<< more) % n != 0).toNat) (i - j - more - 1))) := by
    show ((k.format.read x).quotient (k.format.fractionBits + 2) (k.format.read y)).map k.format.write = _
    rw [h1, h3]
    unfold Datum.quotient
    simp only
    rw [if_neg hn, hmo]
    rfl
  rw [fop_some e]
  rw [signed_sg, signed_sg] at hlt ⊢
  have hnp : n * 2 ^ (j - k.format.leastPlace).toNat ≠ 0 := by have := Nat.mul_pos hn' (Nat.two_pow_pos (j - k.format.leastPlace).toNat); omega
  rw [sg_sign _ _ hnp] at hlt ⊢
  have es : ∀ z : Nat, sg s z * (if t then -1 else 1) * (2 ^ scK k : Nat) = sg (s ^^ t) (z * 2 ^ scK k) := fun z => by
    unfold sg; cases s <;> cases t <;> simp [Int.neg_mul, Int.mul_neg]
  rw [es, rI_sg, sg_abs] at hlt ⊢
  rw [sg_abs] at hlt
  rw [shl_eq]
  rcases Nat.eq_zero_or_pos m with hm | hm
  · subst hm
    rw [Nat.zero_mul, Nat.zero_mul, Nat.zero_mul, Nat.zero_div, Nat.zero_mod, rq_zero]
    rw [Nat.zero_mul, Nat.zero_mul] at hlt
    have := fin_write (k := k) (s := s ^^ t) (m := 0) (i := i - j - more - 1) (A := 0) (B := 1) (by omega) (by simp) (by rw [rq_zero]; rw [rq_zero] at hlt; exact hlt)
    rw [rq_zero] at this
    exact this
  have hst := quo_stick (m := m) (more := more) hn'
  generalize hN : 2 * (m * 2 ^ more / n) + ((m * 2 ^ more) % n != 0).toNat = N at *
  have hNb : 2 ^ (fbK k + 2) ≤ N := by
    have hq : 2 ^ (fbK k + 1) ≤ m * 2 ^ more / n := by
      refine (Nat.le_div_iff_mul_le hn').2 ?_
      have l1 := le_log22 (m := m) (by omega)
      have l2 := @log2_lt2 n
      rw [fbK_eq] at hmo
      calc 2 ^ (fbK k + 1) * n ≤ 2 ^ (fbK k + 1) * 2 ^ (n.log2 + 1) := Nat.mul_le_mul_left _ (Nat.le_of_lt l2)
        _ = 2 ^ (fbK k + 2 + n.log2) := by rw [← Nat.pow_add]; congr 1; omega
        _ ≤ 2 ^ (m.log2 + more) := Nat.pow_le_pow_right (by omega) (by omega)
        _ = 2 ^ m.log2 * 2 ^ more := Nat.pow_add ..
        _ ≤ m * 2 ^ more := Nat.mul_le_mul_right _ l1
    rw [Nat.pow_succ]
    rw [← hN]
    omega
  generalize hu : (i - j - more - 1 + scK k).toNat = u
  generalize hv : (-(scK k : Int) - (i - j - more - 1)).toNat = v
  have huv : u = 0 ∨ v = 0 := by omega
  have key := stick_rq (u := u) (v := v) hn' hst hNb huv
  have rat : rq (fbK k) (2 * (m * 2 ^ more) * 2 ^ u) (n * 2 ^ v) = rq (fbK k) (m * 2 ^ (i - k.format.leastPlace).toNat * 2 ^ scK k) (n * 2 ^ (j - k.format.leastPlace).toNat) := by
    refine rq_congr (Nat.mul_pos hn' (Nat.two_pow_pos _)) (Nat.mul_pos hn' (Nat.two_pow_pos _)) ?_
    rw [scK_eq] at h2 h4 ⊢
    have e5 : 1 + more + u + (j - -((scK k : Nat) : Int)).toNat = (i - -((scK k : Nat) : Int)).toNat + scK k + v := by omega
    have e6 : 2 * (m * 2 ^ more) * 2 ^ u * (n * 2 ^ (j - -((scK k : Nat) : Int)).toNat) = m * n * 2 ^ (1 + more + u + (j - -((scK k : Nat) : Int)).toNat) := by
      rw [Nat.pow_add, Nat.pow_add, Nat.pow_add, Nat.pow_one]
      generalize 2 ^ more = p1; generalize 2 ^ u = p2; generalize 2 ^ (j - -((scK k : Nat) : Int)).toNat = p3
      simp only [Nat.mul_assoc, Nat.mul_left_comm, Nat.mul_comm]
    have e7 : m * 2 ^ (i - -((scK k : Nat) : Int)).toNat * 2 ^ scK k * (n * 2 ^ v) = m * n * 2 ^ ((i - -((scK k : Nat) : Int)).toNat + scK k + v) := by
      rw [Nat.pow_add, Nat.pow_add]
      generalize 2 ^ (i - -((scK k : Nat) : Int)).toNat = p1; generalize 2 ^ scK k = p2; generalize 2 ^ v = p3
      simp only [Nat.mul_assoc, Nat.mul_left_comm, Nat.mul_comm]
    rw [e6, e7, e5]
  rw [rat] at key
  rw [key] at hlt ⊢
  refine fin_write (Nat.two_pow_pos _) ?_ hlt
  rw [hu, hv]
theorem read_neg {k : FloatKind} {x m : Nat} {s : Bool} {i : Int} (h : k.format.read x = .number s m i) : k.format.read (Op.negFloat k x) = .number (!s) m i := by
  have e1 := negFloat_mod k x
  have e2 : (Op.negFloat k x / k.format.signWeight % 2 == 1) = !(x / k.format.signWeight % 2 == 1) := by
    have t1 : ∀ y : Nat, (y / k.format.signWeight % 2 == 1) = y.testBit (k.format.exponentBits + k.format.fractionBits) := fun y => by
      rw [Nat.testBit_eq_decide_div_mod_eq]
      rfl
    rw [t1, t1]
    unfold Op.negFloat
    rw [Nat.testBit_xor, Nat.testBit_two_pow_self, Bool.xor_true]
  unfold Format.read at h ⊢
  simp only [e1, e2] at h ⊢
  split at h
  · rename_i hr
    rw [if_pos hr]; injection h with a b c; subst a b c; rfl
  · rename_i hr
    rw [if_neg hr]
    split at h
    · rename_i hr2
      rw [if_pos hr2]; injection h with a b c; subst a b c; rfl
    · split at h <;> cases h
theorem Fin.neg {k : FloatKind} {x : Nat} {a : Int} (hx : Fin k x a) : Fin k (fneg k x) (-a) := by
  have hn := hx.notNaN
  obtain ⟨s, m, i, h1, h2, rfl⟩ := hx
  unfold fneg
  rw [hn]
  refine ⟨!s, m, i, ?_, h2, (signed_not _ _ _).symm⟩
  show k.format.read (Op.negFloat k x) = _
  exact read_neg h1
end Go.Fw

/-
  Conversions, roots, comparisons of floats that are finite numbers.
-/
namespace Go.Fw
open Ieee (Datum Format Toward signed)
theorem rqN_exact {q D : Nat} (hD : 0 < D) : rqN (q * D) D = q := by
  unfold rqN
  rw [Nat.mul_mod_left, Nat.mul_div_cancel _ hD]
  have h2 : Nat.blt D (2 * 0) = false := by rw [Bool.eq_false_iff]; intro h; rw [Nat.blt_eq] at h; omega
  have h3 : Nat.beq D (2 * 0) = false := by rw [Bool.eq_false_iff]; intro h; have := Nat.eq_of_beq_eq_true h; omega
  rw [h2, h3]; rfl
/-- What has few digits is not changed. -/
theorem rq_exact {fb m p : Nat} (hm : m < 2 ^ (fb + 1)) : rq fb (m * 2 ^ p) 1 = m * 2 ^ p := by
  rcases Nat.eq_zero_or_pos m with h | h
  · subst h; rw [Nat.zero_mul, rq_zero]
  · have hl : m.log2 < fb + 1 := (Nat.log2_lt (by omega)).2 hm
    unfold rq rqS
    rw [Nat.div_one, log2_mul_pow (by omega), Nat.one_mul]
    generalize hs : m.log2 + p - fb = s
    have : m * 2 ^ p = m * 2 ^ (p - s) * 2 ^ s := by rw [Nat.mul_assoc, ← Nat.pow_add]; congr 2; omega
    rw [this, rqN_exact (Nat.two_pow_pos _)]
theorem Fin.small {k : FloatKind} {w : Nat} {n : Int} (h : Fin k w n) : ∃ m p, n.natAbs = m * 2 ^ p ∧ m < 2 ^ (fbK k + 1) := by
  obtain ⟨s, m, i, h1, h2, rfl⟩ := h
  have := (read_number h1).1
  rw [fbK_eq] at this
  exact ⟨m, _, by rw [signed_sg, sg_abs], this⟩
theorem rI_exact {k : FloatKind} {z : Int} {m p : Nat} (h : z.natAbs = m * 2 ^ p) (hm : m < 2 ^ (fbK k + 1)) : rI k z 1 = z := by
  unfold rI
  rw [h, rq_exact hm, ← h]
  unfold sg
  by_cases hz : z < 0
  · rw [decide_eq_true hz, if_pos rfl]; omega
  · rw [decide_eq_false hz, if_neg (by simp)]; omega
theorem Fin.lt_lim {k : FloatKind} {w : Nat} {n : Int} (h : Fin k w n) : n.natAbs < limK k := by
  obtain ⟨s, m, i, h1, h2, rfl⟩ := h
  rw [signed_sg, sg_abs]
  have hr : k.format.read w = .number s m i := h1
  unfold Format.read at hr
  simp only at hr
  have hbp : 0 < k.format.binade := Nat.two_pow_pos _
  have lim1 : k.format.binade ≤ limK k := by cases k <;> decide +kernel
  split at hr
  · rename_i h5
    injection hr with e1 e2 e3
    subst e2 e3
    rw [Int.sub_self]
    simp only [Int.toNat_zero, Nat.pow_zero, Nat.mul_one]
    omega
  · split at hr
    · rename_i h5 h6
      injection hr with e1 e2 e3
      subst e2 e3
      have hmod : w % k.format.signWeight % k.format.binade < k.format.binade := Nat.mod_lt _ hbp
      have hq : w % k.format.signWeight / k.format.binade < 2 ^ k.format.exponentBits - 1 := (Nat.div_lt_iff_lt_mul hbp).2 h6
      rw [show (k.format.leastPlace + ((w % k.format.signWeight / k.format.binade - 1 : Nat) : Int) - k.format.leastPlace).toNat = w % k.format.signWeight / k.format.binade - 1 by omega]
      generalize w % k.format.signWeight / k.format.binade = q at *
      generalize w % k.format.signWeight % k.format.binade = r at *
      rw [← limK_eq]
      unfold lim
      have hT : 4 ≤ 2 ^ k.format.exponentBits := Nat.pow_le_pow_right (n := 2) (by omega) (eb_le k)
      calc (k.format.binade + r) * 2 ^ (q - 1) < (k.format.binade * 2) * 2 ^ (q - 1) := Nat.mul_lt_mul_of_pos_right (by omega) (Nat.two_pow_pos _)
        _ ≤ k.format.binade * 2 * 2 ^ (2 ^ k.format.exponentBits - 3) := Nat.mul_le_mul_left _ (Nat.pow_le_pow_right (by omega) (by omega))
        _ = k.format.binade * 2 ^ (2 ^ k.format.exponentBits - 2) := by rw [Nat.mul_assoc, ← Nat.pow_succ']; congr 2; omega
    · split at hr <;> cases hr
theorem Fin.widen {x q : Nat} {n : Int} (hq : q = 925) (h : Fin .f32 x n) : Fin .f64 (fcvt .f32 .f64 x) (n * (2 ^ q : Nat)) := by
  have hs := h.small
  have hl := h.lt_lim
  obtain ⟨s, m, i, h1, h2, rfl⟩ := h
  have h1' : FloatKind.f32.decode x = .number s m i := h1
  have e : fcvt .f32 .f64 x = FloatKind.f64.format.write (.number s m i) := by
    unfold fcvt; rw [h1']; rfl
  rw [e]
  have hm := (read_number h1).1
  rw [fbK_eq] at hm
  have h2' : -149 ≤ i := h2
  rw [signed_sg] at hl ⊢
  rw [sg_abs] at hl
  have lp : FloatKind.f32.format.leastPlace = -149 := rfl
  rw [lp] at hl ⊢
  have ev : (m * 2 ^ (i - -149).toNat) * 2 ^ q = m * 2 ^ (i + 1074).toNat := by rw [Nat.mul_assoc, pow_split (show (i - -149).toNat + q = (i + 1074).toNat by omega)]
  have ex : rq (fbK .f64) (m * 2 ^ (i + 1074).toNat) 1 = m * 2 ^ (i + 1074).toNat := rq_exact (Nat.lt_of_lt_of_le hm (by decide))
  have := fin_write (k := .f64) (s := s) (m := m) (i := i) (A := m * 2 ^ (i + 1074).toNat) (B := 1) (by omega) (by
    show m * 2 ^ (i + 1074).toNat * 1 = m * 2 ^ (i + 1074).toNat * 2 ^ (-1074 - i).toNat
    rw [show (-1074 - i).toNat = 0 by omega]) (by
    rw [ex, ← ev]
    rw [limK_pow] at hl ⊢
    calc m * 2 ^ (i - -149).toNat * 2 ^ q < 2 ^ limE .f32 * 2 ^ q := Nat.mul_lt_mul_of_pos_right hl (Nat.two_pow_pos _)
      _ = 2 ^ (limE .f32 + q) := (Nat.pow_add ..).symm
      _ ≤ 2 ^ limE .f64 := Nat.pow_le_pow_right (by omega) (by rw [hq]; decide))
  rw [ex, ← ev] at this
  have e2 : sg s (m * 2 ^ (i - -149).toNat) * (2 ^ q : Nat) = sg s (m * 2 ^ (i - -149).toNat * 2 ^ q) := by
    generalize m * 2 ^ (i - -149).toNat = z
    generalize (2 ^ q : Nat) = p at *
    unfold sg
    cases s
    · simp
    · simp [Int.neg_mul]
  rw [e2]
  exact this
theorem Fin.narrow {x q : Nat} {n : Int} (hq : q = 925) (h : Fin .f64 x n) (hlt : (rI .f32 n (2 ^ q)).natAbs < limK .f32) : Fin .f32 (fcvt .f64 .f32 x) (rI .f32 n (2 ^ q)) ∧ fcvtOk .f64 .f32 x = true := by
  obtain ⟨s, m, i, h1, h2, rfl⟩ := h
  have h1' : FloatKind.f64.decode x = .number s m i := h1
  have e : fcvt .f64 .f32 x = FloatKind.f32.format.write (.number s m i) := by
    unfold fcvt; rw [h1']; rfl
  have h2' : -1074 ≤ i := h2
  have lp : FloatKind.f64.format.leastPlace = -1074 := rfl
  rw [signed_sg, rI_sg] at hlt ⊢
  rw [sg_abs] at hlt
  rw [lp] at hlt ⊢
  have fw := fin_write (k := .f32) (s := s) (m := m) (i := i) (A := m * 2 ^ (i - -1074).toNat) (B := 2 ^ q) (Nat.two_pow_pos _) (by
    show m * 2 ^ (i + 149).toNat * 2 ^ q = m * 2 ^ (i - -1074).toNat * 2 ^ (-149 - i).toNat
    rw [Nat.mul_assoc, Nat.mul_assoc, pow_split (show (i + 149).toNat + q = (i - -1074).toNat + (-149 - i).toNat by omega), pow_split rfl]) hlt
  refine ⟨by rw [e]; exact fw, ?_⟩
  unfold fcvtOk
  rw [h1']
  show (!(FloatKind.f32.format.read (FloatKind.f32.format.write (.number s m i))).isInfinity) = true
  obtain ⟨s', m', i', h5, _⟩ := fw
  rw [h5]; rfl
/-- 32-bit least units to 64-bit ones. -/
def scD : Nat := 925
theorem scD_eq : scD = 925 := rfl
theorem Fin.ofInt {k : FloatKind} (z : Int) (hlt : (rI k (z * (2 ^ scK k : Nat)) 1).natAbs < limK k) : Fin k (fofInt k z) (rI k (z * (2 ^ scK k : Nat)) 1) := by
  have e := rI_units k z (scK k) (b := decide (z < 0)) (.inr rfl)
  rw [e] at hlt ⊢
  rw [sg_abs] at hlt
  show Fin k (k.format.write (.number (decide (z < 0)) z.natAbs 0)) _
  refine fin_write (by omega) ?_ hlt
  rw [Int.zero_add, Int.toNat_natCast, Nat.mul_one, show (-(scK k : Int) - 0).toNat = 0 by omega, Nat.pow_zero, Nat.mul_one]
theorem compare_scale {a b p : Int} (hp : 0 < p) : compare (a * p) (b * p) = compare a b := by
  show compareOfLessAndEq _ _ = compareOfLessAndEq _ _
  unfold compareOfLessAndEq
  have h1 : a * p < b * p ↔ a < b := Int.mul_lt_mul_right hp
  have h2 : a * p = b * p ↔ a = b := ⟨fun h => Int.eq_of_mul_eq_mul_right (by omega) h, fun h => by rw [h]⟩
  simp only [h1, h2]
theorem Fin.order {k : FloatKind} {x y : Nat} {a b : Int} (hx : Fin k x a) (hy : Fin k y b) : forder k x y = some (compare a b) := by
  obtain ⟨s, m, i, h1, h2, rfl⟩ := hx
  obtain ⟨t, n, j, h3, h4, rfl⟩ := hy
  have hu : ∀ (s : Bool) (m : Nat) (i b : Int), k.format.leastPlace ≤ b → b ≤ i → signed s m (i - b).toNat * (2 ^ (b - k.format.leastPlace).toNat : Nat) = signed s m (i - k.format.leastPlace).toNat := fun s m i b h1 h2 => by
    rw [signed_sg, signed_sg, show (i - k.format.leastPlace).toNat = (i - b).toNat + (b - k.format.leastPlace).toNat by omega, Nat.pow_add, ← Nat.mul_assoc]
    unfold sg
    cases s
    · simp
    · simp [Int.neg_mul]
  show (k.format.read x).order (k.format.read y) = _
  rw [h1, h3]
  show some (compare (signed s m (i - min i j).toNat) (signed t n (j - min i j).toNat)) = _
  rw [← hu s m i (min i j) (by omega) (by omega), ← hu t n j (min i j) (by omega) (by omega), compare_scale (by exact_mod_cast Nat.two_pow_pos _)]
theorem rootFrom_sq (n : Nat) : ∀ (todo root : Nat), root * root ≤ n → n < (root + 2 ^ todo) * (root + 2 ^ todo) →
    Datum.rootFrom n todo root * Datum.rootFrom n todo root ≤ n ∧ n < (Datum.rootFrom n todo root + 1) * (Datum.rootFrom n todo root + 1)
  | 0, root, h1, h2 => ⟨h1, h2⟩
  | todo + 1, root, h1, h2 => by
    simp only [Datum.rootFrom]
    rw [shl_eq, Nat.one_mul]
    split
    · rename_i h
      refine rootFrom_sq n todo _ h ?_
      rw [Nat.add_assoc, ← Nat.two_mul, ← Nat.pow_succ']
      exact h2
    · rename_i h
      exact rootFrom_sq n todo _ h1 (by omega)
theorem rootFrom_ok (n : Nat) : Datum.rootFrom n (n.log2 / 2 + 1) 0 * Datum.rootFrom n (n.log2 / 2 + 1) 0 ≤ n ∧ n < (Datum.rootFrom n (n.log2 / 2 + 1) 0 + 1) * (Datum.rootFrom n (n.log2 / 2 + 1) 0 + 1) := by
  refine rootFrom_sq n _ 0 (by omega) ?_
  rw [Nat.zero_add, ← Nat.pow_add]
  exact Nat.lt_of_lt_of_le (log2_lt2 (m := n)) (Nat.pow_le_pow_right (by omega) (by omega))
/-- A root of X to so many digits and one for what is left over stands for a finer one. -/
theorem root_stick {X S W e : Nat} (hS : S * S ≤ X) (hS' : X < (S + 1) * (S + 1)) (hW : W * W * (2 ^ e * 2 ^ e) ≤ X) (hW' : X < (W + 1) * (W + 1) * (2 ^ e * 2 ^ e)) :
    Stick (2 * W + (W * W * (2 ^ e * 2 ^ e) != X).toNat) (2 * S + (S * S != X).toNat) (2 ^ e) := by
  have hp : 0 < 2 ^ e := Nat.two_pow_pos _
  generalize 2 ^ e = p at *
  have sq : ∀ a b : Nat, a * a < b * b → a < b := fun a b h => by
    rcases Nat.lt_or_ge a b with h1 | h1
    · exact h1
    · exact absurd (Nat.mul_le_mul h1 h1) (by omega)
  have sqe : ∀ a b : Nat, a * a = b * b → a = b := fun a b h => by
    rcases Nat.lt_trichotomy a b with h1 | h1 | h1
    · have := Nat.mul_lt_mul'' h1 h1; omega
    · exact h1
    · have := Nat.mul_lt_mul'' h1 h1; omega
  have re : W * W * (p * p) = (W * p) * (W * p) := by rw [Nat.mul_mul_mul_comm]
  have re' : (W + 1) * (W + 1) * (p * p) = ((W + 1) * p) * ((W + 1) * p) := by rw [Nat.mul_mul_mul_comm]
  rw [re] at hW ⊢
  rw [re'] at hW'
  have h1 : W * p < S + 1 := sq _ _ (by omega)
  have h2 : S < (W + 1) * p := sq _ _ (by omega)
  by_cases hx : W * p * (W * p) = X
  · left
    have : S = W * p := by
      have a : S < W * p + 1 := sq _ _ (by have : (W * p + 1) * (W * p + 1) = W * p * (W * p) + 2 * (W * p) + 1 := by rw [Nat.add_mul, Nat.mul_add]; omega
                                           omega)
      omega
    rw [this, hx]
    simp [Nat.mul_assoc]
  · right
    have e1 : (W * p * (W * p) != X).toNat = 1 := by simp [hx]
    rw [e1]
    refine ⟨by omega, ?_, ?_⟩
    · rw [Nat.add_sub_cancel, Nat.mul_assoc]
      by_cases hs : S * S = X
      · have hne : W * p ≠ S := fun h => hx (by rw [h, hs])
        omega
      · have : (S * S != X).toNat = 1 := by simp [hs]
        omega
    · have e2 : (2 * W + 1 + 1) * p = 2 * ((W + 1) * p) := by rw [← Nat.mul_assoc]; congr 1
      rw [e2]
      have : (S * S != X).toNat ≤ 1 := by cases (S * S != X) <;> decide
      omega
/-- The root of a number of least units: S is the whole root of X = X. -/
theorem Fin.sqrt {x n S X : Nat} (h : Fin .f64 x (n : Int)) (hX0 : X = n * 2 ^ scK .f64) (hS : S * S ≤ X) (hS' : X < (S + 1) * (S + 1)) :
    Fin .f64 (fsqrt x) ((rq 52 (2 * S + (S * S != X).toNat) 2 : Nat) : Int) := by
  have hl := h.lt_lim
  rw [Int.natAbs_natCast] at hl
  obtain ⟨s, m, i, h1, h2, h3⟩ := h
  have h2' : -1074 ≤ i := h2
  have lp : FloatKind.f64.format.leastPlace = -1074 := rfl
  rw [lp, signed_sg] at h3
  have hm := (read_number h1).1
  rcases Nat.eq_zero_or_pos m with h0 | h0
  · subst h0
    rw [Nat.zero_mul, sg_zero] at h3
    have hn : n = 0 := by omega
    subst hn
    rw [Nat.zero_mul] at hX0
    subst hX0
    have : S = 0 := by
      rcases Nat.eq_zero_or_pos S with h | h
      · exact h
      · have := Nat.mul_pos h h; omega
    subst this
    have e : fsqrt x = FloatKind.f64.format.write (.number s 0 i) := by
      have : FloatKind.f64.format.sqrt x = some (FloatKind.f64.format.write (.number s 0 i)) := by
        show ((FloatKind.f64.format.read x).root 54).map FloatKind.f64.format.write = _
        rw [h1]; rfl
      unfold fsqrt; rw [this]
    rw [e]
    have := fin_write (k := .f64) (s := s) (m := 0) (i := i) (A := 0) (B := 1) (by omega) (by rw [Nat.zero_mul, Nat.zero_mul, Nat.zero_mul]) (by rw [rq_zero]; exact limK_pos _)
    rw [rq_zero, sg_zero] at this
    have key : rq 52 (2 * 0 + (0 * 0 != 0).toNat) 2 = 0 := rq_zero _ _
    rw [key]
    exact this
  · have hs : s = false := by
      cases s
      · rfl
      · exfalso
        have : (0 : Int) < (m * 2 ^ (i - -1074).toNat : Nat) := by exact Int.natCast_pos.2 (Nat.mul_pos h0 (Nat.two_pow_pos _))
        unfold sg at h3
        rw [if_pos rfl] at h3
        omega
    subst hs
    have hn : n = m * 2 ^ (i + 1074).toNat := by
      have : sg false (m * 2 ^ (i - -1074).toNat) = ((m * 2 ^ (i - -1074).toNat : Nat) : Int) := rfl
      rw [this, show i - -1074 = i + 1074 by omega] at h3
      exact Int.ofNat.inj h3
    generalize hmore : 2 * 54 - m.log2 + ((i - ((2 * 54 - m.log2 : Nat) : Int)) % 2).toNat = more
    generalize hW : Datum.rootFrom (m <<< more) ((m <<< more).log2 / 2 + 1) 0 = W
    have e : fsqrt x = FloatKind.f64.format.write (.number false (2 * W + (W * W != m <<< more).toNat) ((i - more) / 2 - 1)) := by
      have : FloatKind.f64.format.sqrt x = some (FloatKind.f64.format.write (.number false (2 * W + (W * W != m <<< more).toNat) ((i - more) / 2 - 1))) := by
        show ((FloatKind.f64.format.read x).root 54).map FloatKind.f64.format.write = _
        rw [h1]
        unfold Datum.root
        simp only
        rw [if_neg (by omega), hmore, hW]
        rfl
      unfold fsqrt; rw [this]
    rw [e]
    have hr := rootFrom_ok (m <<< more)
    rw [hW, shl_eq] at hr
    rw [shl_eq]
    have hml : m.log2 < 53 := (Nat.log2_lt (by omega)).2 hm
    have heven : (i - more) % 2 = 0 := by omega
    have hmo : 108 ≤ m.log2 + more ∧ more ≤ 109 := by omega
    -- half the way from the model's whole root to ours
    obtain ⟨E, hE⟩ : ∃ E : Nat, 2 * (E : Int) = 2148 + i - more := ⟨((2148 + i - more) / 2).toNat, by omega⟩
    have hX : X = m * 2 ^ more * (2 ^ E * 2 ^ E) := by
      have hsc : scK .f64 = 1074 := rfl
      rw [hX0, hn, Nat.mul_assoc, Nat.mul_assoc, ← Nat.pow_add, ← Nat.pow_add, ← Nat.pow_add]
      congr 2
      omega
    have hpE : 0 < 2 ^ E * 2 ^ E := Nat.mul_pos (Nat.two_pow_pos _) (Nat.two_pow_pos _)
    have hne : (W * W != m * 2 ^ more) = (W * W * (2 ^ E * 2 ^ E) != X) := by
      rw [hX]
      rw [Bool.eq_iff_iff, bne_iff_ne, bne_iff_ne]
      exact ⟨fun h h' => h (Nat.eq_of_mul_eq_mul_right hpE h'), fun h h' => h (by rw [h'])⟩
    rw [hne]
    have st := root_stick (e := E) hS hS' (by rw [hX]; exact Nat.mul_le_mul_right _ hr.1) (by rw [hX]; exact Nat.mul_lt_mul_of_pos_right hr.2 hpE)
    generalize hN : 2 * W + (W * W * (2 ^ E * 2 ^ E) != X).toNat = N at *
    generalize hY : 2 * S + (S * S != X).toNat = Y at *
    have hWb : 2 ^ 53 ≤ W := by
      rcases Nat.lt_or_ge W (2 ^ 53) with h | h
      · exfalso
        have h5 : (W + 1) * (W + 1) ≤ 2 ^ 53 * 2 ^ 53 := Nat.mul_le_mul h h
        have h6 : 2 ^ 108 ≤ m * 2 ^ more := by
          calc 2 ^ 108 ≤ 2 ^ (m.log2 + more) := Nat.pow_le_pow_right (by omega) (by omega)
            _ = 2 ^ m.log2 * 2 ^ more := Nat.pow_add ..
            _ ≤ m * 2 ^ more := Nat.mul_le_mul_right _ (le_log22 (by omega))
        have h7 : (2 : Nat) ^ 53 * 2 ^ 53 < 2 ^ 108 := by decide
        omega
      · exact h
    have hNb : 2 ^ (52 + 2) ≤ N := by rw [← hN]; omega
    have hE1 : 1 ≤ E := by omega
    have key := stick_rq (fb := 52) (u := E - 1) (v := 0) (Nat.two_pow_pos E) st hNb (.inr rfl)
    rw [Nat.pow_zero, Nat.mul_one] at key
    have rat : rq 52 (Y * 2 ^ (E - 1)) (2 ^ E) = rq 52 Y 2 := by
      obtain ⟨F, rfl⟩ : ∃ F, E = F + 1 := ⟨E - 1, by omega⟩
      rw [Nat.add_sub_cancel, Nat.pow_succ', rq_scale (Nat.two_pow_pos _)]
    rw [rat] at key
    have hlt : rq 52 (N * 2 ^ (E - 1)) 1 < limK .f64 := by
      rw [limK_pow]
      have hb : N * 2 ^ (E - 1) < 2 ^ 1700 := by
        have hW2 : W < 2 ^ 82 := by
          rcases Nat.lt_or_ge W (2 ^ 82) with h | h
          · exact h
          · exfalso
            have a1 := Nat.mul_le_mul h h
            have a2 : m * 2 ^ more < 2 ^ 53 * 2 ^ 109 := by
              calc m * 2 ^ more < 2 ^ 53 * 2 ^ more := Nat.mul_lt_mul_of_pos_right hm (Nat.two_pow_pos _)
                _ ≤ 2 ^ 53 * 2 ^ 109 := Nat.mul_le_mul_left _ (Nat.pow_le_pow_right (by omega) hmo.2)
            have a3 : (2 : Nat) ^ 53 * 2 ^ 109 < 2 ^ 82 * 2 ^ 82 := by decide +kernel
            omega
        have hNlt : N < 2 ^ 84 := by
          have : (W * W * (2 ^ E * 2 ^ E) != X).toNat ≤ 1 := by cases (W * W * (2 ^ E * 2 ^ E) != X) <;> decide
          have a4 : (2 : Nat) ^ 84 = 4 * 2 ^ 82 := by decide +kernel
          omega
        have hi : i ≤ 1000 := by
          rcases Int.lt_or_le 1000 i with h | h
          · have hi2 := (read_number h1).2.2
            have : (FloatKind.f64.format.infRung / FloatKind.f64.format.binade : Nat) = 2047 := by decide +kernel
            rw [this, lp] at hi2
            omega
          · exact h
        calc N * 2 ^ (E - 1) < 2 ^ 84 * 2 ^ (E - 1) := Nat.mul_lt_mul_of_pos_right hNlt (Nat.two_pow_pos _)
          _ = 2 ^ (84 + (E - 1)) := (Nat.pow_add ..).symm
          _ ≤ 2 ^ 1700 := Nat.pow_le_pow_right (by omega) (by omega)
      have h5 : rq 52 (N * 2 ^ (E - 1)) 1 ≤ 2 * (N * 2 ^ (E - 1)) + 2 ^ 53 := by
        generalize N * 2 ^ (E - 1) = A
        unfold rq
        rw [Nat.one_mul]
        have a1 := rqN_le A (2 ^ rqS 52 A 1)
        have a2 := Nat.mul_le_mul_right (2 ^ rqS 52 A 1) a1
        rw [Nat.add_mul, Nat.one_mul] at a2
        have a3 := Nat.div_mul_le_self A (2 ^ rqS 52 A 1)
        have a4 : 2 ^ rqS 52 A 1 ≤ A + 1 := by
          unfold rqS
          rw [Nat.div_one]
          rcases Nat.eq_zero_or_pos A with h | h
          · subst h; decide
          · exact Nat.le_trans (Nat.pow_le_pow_right (by omega) (Nat.sub_le _ _)) (Nat.le_trans (le_log22 (by omega)) (Nat.le_succ _))
        omega
      have h6 : (2 : Nat) ^ 1700 * 2 + 2 ^ 53 < 2 ^ limE .f64 := by decide +kernel
      generalize 2 ^ limE .f64 = l at *
      generalize 2 ^ 1700 = l' at *
      omega
    have hfw := fin_write (k := .f64) (s := false) (m := N) (i := (i - more) / 2 - 1) (A := N * 2 ^ (E - 1)) (B := 1) (by omega) (by
      show N * 2 ^ ((i - more) / 2 - 1 + 1074).toNat * 1 = N * 2 ^ (E - 1) * 2 ^ (-1074 - ((i - more) / 2 - 1)).toNat
      rw [show ((i - more) / 2 - 1 + 1074).toNat = E - 1 by omega, show (-1074 - ((i - more) / 2 - 1)).toNat = 0 by omega]) hlt
    rw [key]
    exact hfw
end Go.Fw

/-
  Floats evaluated by the kernel: mantissas and exponents as natural numbers; 'bad': nothing is said.
-/
namespace Go.Fw
open Ieee (Datum Format Toward signed)
/-- m * 2 ^ s least units, with a sign. -/
inductive V where
  | zero
  | num (b : Bool) (m s : Nat)
  | bad
def Rep (k : FloatKind) (w : Nat) : V → Prop
  | .zero => Fin k w 0
  | .num b m s => Fin k w (sg b (m * 2 ^ s))
  | .bad => True
theorem rqN_fast {A D : Nat} (hD : 0 < D) : (2 * A + (D - 1) + A / D % 2) / (2 * D) = rqN A D := by
  unfold rqN
  have h1 := Nat.div_add_mod A D
  have h2 := Nat.mod_lt A hD
  generalize A / D = q at *
  generalize A % D = r at *
  have h3 := Nat.mod_lt q (show 0 < 2 by omega)
  generalize hp : q % 2 = p at *
  have e : 2 * A + (D - 1) + p = (2 * r + (D - 1) + p) + q * (2 * D) := by
    rw [← h1, Nat.mul_add, Nat.mul_comm D q, Nat.mul_left_comm]; omega
  rw [e, Nat.add_mul_div_right _ _ (by omega)]
  by_cases h : D < 2 * r ∨ (D = 2 * r ∧ p = 1)
  · have : (Nat.blt D (2 * r) || (Nat.beq D (2 * r) && Nat.beq p 1)) = true := by
      rcases h with h | ⟨h, h'⟩
      · rw [show Nat.blt D (2 * r) = true by rw [Nat.blt_eq]; exact h]; rfl
      · rw [show Nat.beq D (2 * r) = true by rw [Nat.beq_eq]; exact h, show Nat.beq p 1 = true by rw [Nat.beq_eq]; exact h']; simp
    rw [this, cond_true]
    have : (2 * r + (D - 1) + p) / (2 * D) = 1 := Nat.div_eq_of_lt_le (by omega) (by omega)
    omega
  · have : (Nat.blt D (2 * r) || (Nat.beq D (2 * r) && Nat.beq p 1)) = false := by
      rw [Bool.eq_false_iff]
      intro hh
      simp only [Bool.or_eq_true, Bool.and_eq_true, Nat.blt_eq, Nat.beq_eq] at hh
      exact h hh
    rw [this, cond_false]
    have : (2 * r + (D - 1) + p) / (2 * D) = 0 := Nat.div_eq_of_lt (by omega)
    omega
/-- Where the first digit is known, so is the rounding. -/
theorem rq_at {fb A D s : Nat} (hD : 0 < D) (h1 : 2 ^ fb ≤ A / D) (h2 : A / D < 2 ^ (fb + 1)) : rq fb (A * 2 ^ s) D = rqN A D * 2 ^ s := by
  have hl : (A / D).log2 = fb := log2_of h1 h2
  rw [rq_up hD h1]
  unfold rq rqS
  rw [hl, Nat.sub_self, Nat.pow_zero, Nat.mul_one, Nat.mul_one]
/-! ### The steps (their parameters: fb digits behind the first; H = 2 ^ fb; H2 = 2 ^ (fb + 1); sc; EL: the greatest exponent) -/
noncomputable def vfix (H H2 : Nat) (b : Bool) (k s : Nat) : V := Bool.rec (V.num b k s) (V.num b H (Nat.add s 1)) (Nat.beq k H2)
noncomputable def vrnd2 (H H2 : Nat) (b : Bool) (A D s t : Nat) : V :=
  vfix H H2 b (Nat.div (Nat.add (Nat.add (Nat.mul 2 A) (Nat.sub D 1)) (Nat.mod t 2)) (Nat.mul 2 D)) s
noncomputable def vrnd1 (H H2 EL : Nat) (b : Bool) (A D s t : Nat) : V :=
  Bool.rec V.bad (Bool.rec V.bad (Bool.rec V.bad (vrnd2 H H2 b A D s t) (Nat.ble s EL)) (Nat.ble (Nat.succ t) H2)) (Nat.ble H t)
/-- A / D * 2 ^ s rounded, if A / D has just the digits. -/
noncomputable def vrnd (H H2 EL : Nat) (b : Bool) (A D s : Nat) : V := vrnd1 H H2 EL b A D s (Nat.div A D)
structure KOk (k : FloatKind) (fb H H2 sc EL : Nat) : Prop where
  efb : fb = fbK k
  eH : H = 2 ^ fb
  eH2 : H2 = 2 ^ (fb + 1)
  esc : sc = scK k
  eEL : fb + 1 + EL < limE k
  scp : fb < sc
theorem rep_rnd {k : FloatKind} {fb H H2 sc EL w A D s : Nat} {b : Bool} (ok : KOk k fb H H2 sc EL) (hD : 0 < D)
    (h : rq (fbK k) (A * 2 ^ s) D < limK k → Fin k w (sg b (rq (fbK k) (A * 2 ^ s) D))) : Rep k w (vrnd H H2 EL b A D s) := by
  unfold vrnd vrnd1
  cases h1 : Nat.ble H (Nat.div A D)
  · trivial
  cases h2 : Nat.ble (Nat.succ (Nat.div A D)) H2
  · trivial
  cases h3 : Nat.ble s EL
  · trivial
  have h1 : H ≤ A / D := Nat.le_of_ble_eq_true h1
  have h2 : A / D + 1 ≤ H2 := Nat.le_of_ble_eq_true h2
  have h3 : s ≤ EL := Nat.le_of_ble_eq_true h3
  rw [ok.eH, ok.efb] at h1
  rw [ok.eH2, ok.efb] at h2
  have hr : rq (fbK k) (A * 2 ^ s) D = rqN A D * 2 ^ s := rq_at hD h1 h2
  rw [hr] at h
  have hk : rqN A D ≤ 2 ^ (fbK k + 1) := Nat.le_trans (rqN_le _ _) h2
  have hlt : rqN A D * 2 ^ s < limK k := by
    rw [limK_pow]
    calc rqN A D * 2 ^ s ≤ 2 ^ (fbK k + 1) * 2 ^ s := Nat.mul_le_mul_right _ hk
      _ = 2 ^ (fbK k + 1 + s) := (Nat.pow_add ..).symm
      _ < 2 ^ limE k := Nat.pow_lt_pow_right (by omega) (by have := ok.eEL; rw [ok.efb] at this; omega)
  have hF := h hlt
  show Rep k w (vfix H H2 b ((2 * A + (D - 1) + A / D % 2) / (2 * D)) s)
  rw [rqN_fast hD]
  unfold vfix
  cases h4 : Nat.beq (rqN A D) H2
  · exact hF
  · have h4 := Nat.eq_of_beq_eq_true h4
    rw [h4, ok.eH2, ok.efb, Nat.pow_succ, Nat.mul_assoc, ← Nat.pow_succ'] at hF
    show Fin k w (sg b (H * 2 ^ (s + 1)))
    rw [ok.eH, ok.efb]
    exact hF
/-! ### Products and quotients -/
noncomputable def bx (b c : Bool) : Bool := Bool.rec c (Bool.rec true false c) b
theorem bx_eq (b c : Bool) : bx b c = (b ^^ c) := by cases b <;> cases c <;> rfl
noncomputable def vmul2 (H H2 sc EL HH : Nat) (b : Bool) (p q : Nat) : V :=
  Bool.rec V.bad (Bool.rec (vrnd H H2 EL b p H2 (Nat.sub (Nat.succ q) sc)) (vrnd H H2 EL b p H (Nat.sub q sc)) (Nat.ble (Nat.succ p) HH)) (Nat.ble sc q)
noncomputable def vmulG (fb H H2 sc EL HH : Nat) (x y : V) : V :=
  V.rec (V.rec V.zero (fun _ _ _ => V.zero) V.bad y)
    (fun b m s => V.rec V.zero (fun c n t => vmul2 H H2 sc EL HH (bx b c) (Nat.mul m n) (Nat.add (Nat.add s t) fb)) V.bad y)
    V.bad x
theorem rep_mul2 {k : FloatKind} {fb H H2 sc EL HH w m n s t : Nat} {b : Bool} (ok : KOk k fb H H2 sc EL)
    (h : rq (fbK k) (m * 2 ^ s * (n * 2 ^ t)) (2 ^ scK k) < limK k → Fin k w (sg b (rq (fbK k) (m * 2 ^ s * (n * 2 ^ t)) (2 ^ scK k)))) : Rep k w (vmul2 H H2 sc EL HH b (m * n) (s + t + fb)) := by
  unfold vmul2
  cases h1 : Nat.ble sc (s + t + fb)
  · trivial
  have h1 : sc ≤ s + t + fb := Nat.le_of_ble_eq_true h1
  have ev : ∀ sh u : Nat, s + t + sh = sc + u → rq (fbK k) (m * n * 2 ^ u) (2 ^ sh) = rq (fbK k) (m * 2 ^ s * (n * 2 ^ t)) (2 ^ scK k) := fun sh u hu => by
    refine rq_congr (Nat.two_pow_pos _) (Nat.two_pow_pos _) ?_
    rw [← ok.esc, Nat.mul_mul_mul_comm, ← Nat.pow_add, Nat.mul_assoc (m * n), Nat.mul_assoc (m * n), ← Nat.pow_add, ← Nat.pow_add, hu, Nat.add_comm]
  show Rep k w (Bool.rec (vrnd H H2 EL b (m * n) H2 (Nat.sub (Nat.succ (s + t + fb)) sc)) (vrnd H H2 EL b (m * n) H (Nat.sub (s + t + fb) sc)) (Nat.ble (Nat.succ (m * n)) HH))
  cases Nat.ble (Nat.succ (m * n)) HH
  · refine rep_rnd ok (by rw [ok.eH2]; exact Nat.two_pow_pos _) fun hl => ?_
    have := ev (fb + 1) (s + t + fb + 1 - sc) (by omega)
    rw [ok.eH2] at hl ⊢
    have e : Nat.sub (Nat.succ (s + t + fb)) sc = s + t + fb + 1 - sc := rfl
    rw [e, this] at hl ⊢
    exact h hl
  · refine rep_rnd ok (by rw [ok.eH]; exact Nat.two_pow_pos _) fun hl => ?_
    have := ev fb (s + t + fb - sc) (by omega)
    rw [ok.eH] at hl ⊢
    have e : Nat.sub (s + t + fb) sc = s + t + fb - sc := rfl
    rw [e, this] at hl ⊢
    exact h hl
theorem rI_0 {k : FloatKind} (D : Nat) : rI k 0 D = 0 := by unfold rI; rw [Int.natAbs_zero, rq_zero, sg_zero]
theorem Fin.mul0 {k : FloatKind} {x y : Nat} {a b : Int} (hx : Fin k x a) (hy : Fin k y b) (h : a * b = 0) : Fin k (fop .mul k x y) 0 := by
  have := Fin.mul hx hy
  rw [h, rI_0] at this
  exact this (limK_pos k)
theorem rep_mulG {k : FloatKind} {fb H H2 sc EL HH x y : Nat} {a b : V} (ok : KOk k fb H H2 sc EL) (hx : Rep k x a) (hy : Rep k y b) : Rep k (fop .mul k x y) (vmulG fb H H2 sc EL HH a b) := by
  cases a with
  | bad => trivial
  | zero => cases b with
    | bad => trivial
    | zero => exact Fin.mul0 hx hy (Int.zero_mul _)
    | num c n t => exact Fin.mul0 hx hy (Int.zero_mul _)
  | num b m s => cases b with
    | _ => cases ‹V› with
      | bad => trivial
      | zero => exact Fin.mul0 hx hy (Int.mul_zero _)
      | num c n t =>
        show Rep k _ (vmul2 H H2 sc EL HH (bx _ c) (m * n) (s + t + fb))
        rw [bx_eq]
        refine rep_mul2 ok fun hl => ?_
        have := Fin.mul hx hy
        rw [sg_mul, rI_sg, sg_abs] at this
        exact this hl
noncomputable def vquo2 (fb H H2 sc EL : Nat) (b : Bool) (m s n t : Nat) : V :=
  Bool.rec V.bad (Bool.rec (vrnd H H2 EL b (Nat.mul m H2) n (Nat.sub (Nat.sub (Nat.add s sc) t) (Nat.succ fb))) (vrnd H H2 EL b (Nat.mul m H) n (Nat.sub (Nat.sub (Nat.add s sc) t) fb)) (Nat.ble n m))
    (Nat.ble (Nat.add t (Nat.succ fb)) (Nat.add s sc))
noncomputable def vquo1 (fb H H2 sc EL : Nat) (b : Bool) (m s n t : Nat) : V := Bool.rec (vquo2 fb H H2 sc EL b m s n t) V.bad (Nat.beq n 0)
noncomputable def vquoG (fb H H2 sc EL : Nat) (x y : V) : V :=
  V.rec (V.rec V.bad (fun _ n _ => Bool.rec V.zero V.bad (Nat.beq n 0)) V.bad y)
    (fun b m s => V.rec V.bad (fun c n t => vquo1 fb H H2 sc EL (bx b c) m s n t) V.bad y)
    V.bad x
theorem sg_ne {b : Bool} {n : Nat} (h : n ≠ 0) : sg b n ≠ 0 := fun e => by have := sg_abs b n; rw [e] at this; simp at this; omega
theorem sg_quo (b c : Bool) (A n p : Nat) (hn : n ≠ 0) : sg b A * (sg c n).sign * (p : Nat) = sg (b ^^ c) (A * p) := by
  rw [sg_sign c n hn]
  unfold sg; cases b <;> cases c <;> simp [Int.neg_mul, Int.mul_neg]
theorem rep_quoG {k : FloatKind} {fb H H2 sc EL x y : Nat} {a b : V} (ok : KOk k fb H H2 sc EL) (hx : Rep k x a) (hy : Rep k y b) : Rep k (fop .quo k x y) (vquoG fb H H2 sc EL a b) := by
  have nz : ∀ n t : Nat, Nat.beq n 0 = false → n * 2 ^ t ≠ 0 := fun n t h0 => by
    have h0 : n ≠ 0 := fun e => by subst e; cases h0
    have := Nat.mul_pos (show 0 < n by omega) (Nat.two_pow_pos t)
    omega
  cases a with
  | bad => trivial
  | zero => cases b with
    | bad => trivial
    | zero => trivial
    | num c n t =>
      show Rep k _ (Bool.rec V.zero V.bad (Nat.beq n 0))
      cases h0 : Nat.beq n 0
      · have := Fin.quo hx hy (sg_ne (nz n t h0))
        rw [Int.zero_mul, Int.zero_mul, rI_0] at this
        exact this (limK_pos k)
      · trivial
  | num b m s => cases b with
    | _ => cases ‹V› with
      | bad => trivial
      | zero => trivial
      | num c n t =>
        show Rep k _ (Bool.rec (vquo2 fb H H2 sc EL (bx _ c) m s n t) V.bad (Nat.beq n 0))
        cases h0 : Nat.beq n 0
        · have hn := nz n t h0
          have hn' : 0 < n := by
            rcases Nat.eq_zero_or_pos n with h | h
            · subst h; cases h0
            · exact h
          have := Fin.quo hx hy (sg_ne hn)
          rw [sg_quo _ _ _ _ _ hn, sg_abs, rI_sg, sg_abs] at this
          show Rep k _ (vquo2 fb H H2 sc EL (bx _ c) m s n t)
          unfold vquo2
          rw [bx_eq]
          cases h1 : Nat.ble (Nat.add t (Nat.succ fb)) (Nat.add s sc)
          · trivial
          have h1 : t + (fb + 1) ≤ s + sc := Nat.le_of_ble_eq_true h1
          have ev : ∀ sh u : Nat, s + sc = sh + u + t → rq (fbK k) (m * 2 ^ sh * 2 ^ u) n = rq (fbK k) (m * 2 ^ s * 2 ^ scK k) (n * 2 ^ t) := fun sh u hu => by
            refine rq_congr hn' (by omega) ?_
            rw [← ok.esc]
            have e1 : m * 2 ^ sh * 2 ^ u * (n * 2 ^ t) = m * n * 2 ^ (sh + u + t) := by
              rw [Nat.pow_add, Nat.pow_add]
              simp only [Nat.mul_assoc, Nat.mul_left_comm, Nat.mul_comm]
            have e2 : m * 2 ^ s * 2 ^ sc * n = m * n * 2 ^ (s + sc) := by
              rw [Nat.pow_add]
              simp only [Nat.mul_assoc, Nat.mul_left_comm, Nat.mul_comm]
            rw [e1, e2, hu]
          show Rep k _ (Bool.rec (vrnd H H2 EL _ (m * H2) n (s + sc - t - (fb + 1))) (vrnd H H2 EL _ (m * H) n (s + sc - t - fb)) (Nat.ble n m))
          cases Nat.ble n m
          · refine rep_rnd ok hn' fun hl => ?_
            have e := ev (fb + 1) (s + sc - t - (fb + 1)) (by omega)
            rw [ok.eH2] at hl ⊢
            rw [e] at hl ⊢
            exact this hl
          · refine rep_rnd ok hn' fun hl => ?_
            have e := ev fb (s + sc - t - fb) (by omega)
            rw [ok.eH] at hl ⊢
            rw [e] at hl ⊢
            exact this hl
        · trivial
end Go.Fw

/-
  Floats evaluated by the kernel: sums, roots, conversions, comparisons.
-/
namespace Go.Fw
open Ieee (Datum Format Toward signed)
/-! ### Sums -/
/-- A whole number of units 2 ^ e, rounded where its first digit stands at fb + d or fb + d + 1. -/
noncomputable def vsum3 (H H2 EL : Nat) (b : Bool) (p e d P : Nat) : V :=
  Bool.rec (vrnd H H2 EL b p (Nat.mul 2 P) (Nat.add e (Nat.succ d))) (vrnd H H2 EL b p P (Nat.add e d)) (Nat.ble (Nat.succ p) (Nat.mul H2 P))
noncomputable def vsum2 (H H2 EL : Nat) (b : Bool) (m n e d P : Nat) : V := vsum3 H H2 EL b (Nat.add (Nat.mul m P) n) e d P
noncomputable def vsum1 (H H2 EL : Nat) (b : Bool) (m n e d : Nat) : V := vsum2 H H2 EL b m n e d (Nat.pow 2 d)
noncomputable def vsum (H H2 EL : Nat) (b : Bool) (m s n t : Nat) : V :=
  Bool.rec (vsum1 H H2 EL b n m s (Nat.sub t s)) (vsum1 H H2 EL b m n t (Nat.sub s t)) (Nat.ble t s)
/-- What is exact, with its first digit brought forward: H2 / 2 ≤ p * 2 ^ j. -/
noncomputable def vnrm (b : Bool) (p e j P : Nat) : V := Bool.rec V.bad (V.num b (Nat.mul p P) (Nat.sub e j)) (Nat.ble j e)
noncomputable def vsh (b : Bool) (p e j : Nat) : V := vnrm b p e j (Nat.pow 2 j)
/-- How far the first digit of p is to be moved so that H ≤ p; a hint alone. -/
noncomputable def lift (H : Nat) (p : Nat) : Nat → Nat → Nat → Nat := fun n q j =>
  Nat.rec (motive := fun _ => Nat → Nat → Nat) (fun _ j => j) (fun i ih q j => Bool.rec (ih q j) (ih (Nat.mul q (Nat.pow 2 (Nat.pow 2 i))) (Nat.add j (Nat.pow 2 i))) (Nat.ble (Nat.succ (Nat.mul q (Nat.pow 2 (Nat.pow 2 i)))) (Nat.mul 2 H))) n q j
noncomputable def vnorm (H : Nat) (b : Bool) (p e : Nat) : V := vsh b p e (lift H p 6 p 0)
/-- A difference p > 0 of numbers whose places lie d apart. -/
noncomputable def vdif4 (H H2 EL : Nat) (b : Bool) (p e d P : Nat) : V :=
  Bool.rec
    (Bool.rec (Bool.rec V.bad (vsum3 H H2 EL b p e (Nat.sub d 1) (Nat.div P 2)) (Nat.ble 1 d)) (vrnd H H2 EL b p P (Nat.add e d)) (Nat.ble (Nat.mul H P) p))
    (vnorm H b p e)
    (Nat.ble (Nat.succ p) H2)
noncomputable def vdif3 (H H2 EL : Nat) (b : Bool) (a n e d P : Nat) : V :=
  Bool.rec (Bool.rec (vdif4 H H2 EL (bx b true) (Nat.sub n a) e d P) V.zero (Nat.beq a n)) (vdif4 H H2 EL b (Nat.sub a n) e d P) (Nat.ble (Nat.succ n) a)
noncomputable def vdif2 (H H2 EL : Nat) (b : Bool) (m n e d P : Nat) : V := vdif3 H H2 EL b (Nat.mul m P) n e d P
noncomputable def vdif1 (H H2 EL : Nat) (b : Bool) (m n e d : Nat) : V := vdif2 H H2 EL b m n e d (Nat.pow 2 d)
noncomputable def vdif (H H2 EL : Nat) (b : Bool) (m s n t : Nat) : V :=
  Bool.rec (vdif1 H H2 EL (bx b true) n m s (Nat.sub t s)) (vdif1 H H2 EL b m n t (Nat.sub s t)) (Nat.ble t s)
noncomputable def vaddG (H H2 EL : Nat) (x y : V) : V :=
  V.rec y (fun b m s => V.rec (V.num b m s) (fun c n t => Bool.rec (vsum H H2 EL b m s n t) (vdif H H2 EL b m s n t) (bx b c)) V.bad y) V.bad x
noncomputable def vneg (x : V) : V := V.rec V.zero (fun b m s => V.num (bx b true) m s) V.bad x
noncomputable def vsubG (H H2 EL : Nat) (x y : V) : V := vaddG H H2 EL x (vneg y)
/-- The word w is told by the rounded fraction A * 2 ^ s / D. -/
def RR (k : FloatKind) (w : Nat) (b : Bool) (A : Nat) : Prop := rq (fbK k) A 1 < limK k → Fin k w (sg b (rq (fbK k) A 1))
theorem rep_sum3 {k : FloatKind} {fb H H2 sc EL w p e d P : Nat} {b : Bool} (ok : KOk k fb H H2 sc EL) (hP : P = 2 ^ d) (h : RR k w b (p * 2 ^ e)) : Rep k w (vsum3 H H2 EL b p e d P) := by
  have ev : ∀ u, rq (fbK k) (p * 2 ^ (e + u)) (2 ^ u) = rq (fbK k) (p * 2 ^ e) 1 := fun u => by
    have := rq_scale (fb := fbK k) (A := p * 2 ^ e) (B := 1) (Nat.two_pow_pos u)
    rw [Nat.one_mul, Nat.mul_assoc, ← Nat.pow_add] at this
    exact this
  unfold vsum3
  cases Nat.ble (Nat.succ p) (Nat.mul H2 P)
  · refine rep_rnd ok (by rw [hP]; exact Nat.mul_pos (by omega) (Nat.two_pow_pos _)) fun hl => ?_
    have e1 : Nat.mul 2 P = 2 ^ (d + 1) := by rw [hP, Nat.pow_succ']; rfl
    rw [e1] at hl ⊢
    have := ev (d + 1)
    have e2 : Nat.add e (Nat.succ d) = e + (d + 1) := rfl
    rw [e2, this] at hl ⊢
    exact h hl
  · refine rep_rnd ok (by rw [hP]; exact Nat.two_pow_pos _) fun hl => ?_
    rw [hP] at hl ⊢
    have e2 : Nat.add e d = e + d := rfl
    rw [e2, ev d] at hl ⊢
    exact h hl
theorem rep_sum {k : FloatKind} {fb H H2 sc EL w m s n t : Nat} {b : Bool} (ok : KOk k fb H H2 sc EL) (h : RR k w b (m * 2 ^ s + n * 2 ^ t)) : Rep k w (vsum H H2 EL b m s n t) := by
  have key : ∀ m s n t, t ≤ s → (m * 2 ^ (s - t) + n) * 2 ^ t = m * 2 ^ s + n * 2 ^ t := fun m s n t hst => by
    rw [Nat.add_mul, Nat.mul_assoc, ← Nat.pow_add, show s - t + t = s by omega]
  unfold vsum
  cases h1 : Nat.ble t s
  · have hst : s ≤ t := by
      rcases Nat.le_total s t with h | h
      · exact h
      · rw [Nat.ble_eq_true_of_le h] at h1; cases h1
    exact rep_sum3 (p := n * 2 ^ (t - s) + m) ok rfl (by rw [key _ _ _ _ hst, Nat.add_comm]; exact h)
  · have hst : t ≤ s := Nat.le_of_ble_eq_true h1
    exact rep_sum3 (p := m * 2 ^ (s - t) + n) ok rfl (by rw [key _ _ _ _ hst]; exact h)
theorem rep_sh {k : FloatKind} {fb H H2 sc EL w p e : Nat} {b : Bool} (j : Nat) (ok : KOk k fb H H2 sc EL) (hp : p < H2) (h : RR k w b (p * 2 ^ e)) (hl : p * 2 ^ e < limK k) : Rep k w (vsh b p e j) := by
  have he : rq (fbK k) (p * 2 ^ e) 1 = p * 2 ^ e := rq_exact (by rw [ok.eH2, ok.efb] at hp; exact hp)
  unfold RR at h
  rw [he] at h
  have hF := h hl
  unfold vsh vnrm
  cases h1 : Nat.ble j e
  · trivial
  · have h1 : j ≤ e := Nat.le_of_ble_eq_true h1
    show Fin k w (sg b (p * 2 ^ j * 2 ^ (e - j)))
    rw [Nat.mul_assoc, ← Nat.pow_add, show j + (e - j) = e by omega]
    exact hF
theorem rep_norm {k : FloatKind} {fb H H2 sc EL w p e : Nat} {b : Bool} (ok : KOk k fb H H2 sc EL) (hp : p < H2) (h : RR k w b (p * 2 ^ e)) (hl : p * 2 ^ e < limK k) : Rep k w (vnorm H b p e) :=
  rep_sh _ ok hp h hl
theorem rep_dif4 {k : FloatKind} {fb H H2 sc EL w p e d P : Nat} {b : Bool} (ok : KOk k fb H H2 sc EL) (hP : P = 2 ^ d) (h : RR k w b (p * 2 ^ e)) (hl : p * 2 ^ e < limK k) : Rep k w (vdif4 H H2 EL b p e d P) := by
  unfold vdif4
  cases h1 : Nat.ble (Nat.succ p) H2
  · cases h2 : Nat.ble (Nat.mul H P) p
    · cases h3 : Nat.ble 1 d
      · trivial
      · have h3 : 1 ≤ d := Nat.le_of_ble_eq_true h3
        obtain ⟨c, rfl⟩ : ∃ c, d = c + 1 := ⟨d - 1, by omega⟩
        refine rep_sum3 (d := c) ok ?_ h
        rw [hP, Nat.pow_succ]
        exact Nat.mul_div_cancel _ (by omega)
    · refine rep_rnd ok (by rw [hP]; exact Nat.two_pow_pos _) fun hl => ?_
      have := rq_scale (fb := fbK k) (A := p * 2 ^ e) (B := 1) (Nat.two_pow_pos d)
      rw [Nat.one_mul, Nat.mul_assoc, ← Nat.pow_add] at this
      rw [hP] at hl ⊢
      have e2 : Nat.add e d = e + d := rfl
      rw [e2, this] at hl ⊢
      exact h hl
  · exact rep_norm ok (Nat.le_of_ble_eq_true h1) h hl
/-- The word w is told by a rounded whole number. -/
def RI (k : FloatKind) (w : Nat) (z : Int) : Prop := (rI k z 1).natAbs < limK k → Fin k w (rI k z 1)
theorem RI.sg {k : FloatKind} {w A : Nat} {b : Bool} (h : RI k w (sg b A)) : RR k w b A := fun hl => by
  unfold RI at h
  rw [rI_sg, sg_abs] at h
  exact h hl
theorem sg_not (b : Bool) (n : Nat) : sg (!b) n = -sg b n := by unfold sg; cases b <;> simp
theorem rep_dif3 {k : FloatKind} {fb H H2 sc EL w a n e d P : Nat} {b : Bool} (ok : KOk k fb H H2 sc EL) (hP : P = 2 ^ d) (h : RI k w (sg b (a * 2 ^ e) + sg (!b) (n * 2 ^ e))) (ha : a * 2 ^ e < limK k) (hn : n * 2 ^ e < limK k) : Rep k w (vdif3 H H2 EL b a n e d P) := by
  have e1 : ∀ x y : Nat, y ≤ x → sg b (x * 2 ^ e) + sg (!b) (y * 2 ^ e) = sg b ((x - y) * 2 ^ e) := fun x y hxy => by
    have hm := Nat.mul_le_mul_right (2 ^ e) hxy
    rw [Nat.sub_mul]
    generalize x * 2 ^ e = X at *
    generalize y * 2 ^ e = Y at *
    unfold sg
    cases b
    · simp; omega
    · simp; omega
  unfold vdif3
  cases h1 : Nat.ble (Nat.succ n) a
  · have h1 : ¬ n < a := fun h => by
      rw [Nat.ble_eq_true_of_le (show Nat.succ n ≤ a from h)] at h1; cases h1
    cases h2 : Nat.beq a n
    · have hlt : a < n := by
        rcases Nat.lt_trichotomy a n with h | h | h
        · exact h
        · subst h; rw [Nat.beq_refl] at h2; cases h2
        · exact absurd h h1
      have e2 : sg b (a * 2 ^ e) + sg (!b) (n * 2 ^ e) = sg (!b) ((n - a) * 2 ^ e) := by
        have hm := Nat.mul_le_mul_right (2 ^ e) (Nat.le_of_lt hlt)
        rw [Nat.sub_mul]
        generalize a * 2 ^ e = X at *
        generalize n * 2 ^ e = Y at *
        unfold sg
        cases b
        · simp; omega
        · simp; omega
      rw [e2] at h
      rw [bx_eq, Bool.xor_true]
      refine rep_dif4 ok hP h.sg (Nat.lt_of_le_of_lt (Nat.mul_le_mul_right _ (Nat.sub_le _ _)) hn)
    · have h2 := Nat.eq_of_beq_eq_true h2
      subst h2
      have := e1 a a (Nat.le_refl _)
      rw [this, Nat.sub_self, Nat.zero_mul, sg_zero] at h
      unfold RI at h
      rw [rI_0] at h
      exact h (limK_pos k)
  · have h1 : n < a := Nat.le_of_ble_eq_true h1
    rw [e1 a n (Nat.le_of_lt h1)] at h
    exact rep_dif4 ok hP h.sg (Nat.lt_of_le_of_lt (Nat.mul_le_mul_right _ (Nat.sub_le _ _)) ha)
theorem rep_dif {k : FloatKind} {fb H H2 sc EL w m s n t : Nat} {b : Bool} (ok : KOk k fb H H2 sc EL) (h : RI k w (sg b (m * 2 ^ s) + sg (!b) (n * 2 ^ t))) (ha : m * 2 ^ s < limK k) (hn : n * 2 ^ t < limK k) : Rep k w (vdif H H2 EL b m s n t) := by
  have key : ∀ m s t, t ≤ s → m * 2 ^ (s - t) * 2 ^ t = m * 2 ^ s := fun m s t hst => by
    rw [Nat.mul_assoc, ← Nat.pow_add, show s - t + t = s by omega]
  unfold vdif
  cases h1 : Nat.ble t s
  · have hst : s ≤ t := by
      rcases Nat.le_total s t with h | h
      · exact h
      · rw [Nat.ble_eq_true_of_le h] at h1; cases h1
    rw [bx_eq, Bool.xor_true]
    refine rep_dif3 (a := n * 2 ^ (t - s)) ok rfl ?_ (by rw [key _ _ _ hst]; exact hn) ha
    rw [key _ _ _ hst, Bool.not_not, Int.add_comm]
    exact h
  · have hst : t ≤ s := Nat.le_of_ble_eq_true h1
    refine rep_dif3 (a := m * 2 ^ (s - t)) ok rfl ?_ (by rw [key _ _ _ hst]; exact ha) hn
    rw [key _ _ _ hst]
    exact h
theorem Fin.exact {k : FloatKind} {w : Nat} {n : Int} (h : Fin k w n) : rI k n 1 = n := by
  obtain ⟨m, p, h1, h2⟩ := h.small
  exact rI_exact h1 h2
theorem rep_addI {k : FloatKind} {fb H H2 sc EL w : Nat} {x y : Nat} {a b : V} (ok : KOk k fb H H2 sc EL) (hx : Rep k x a) (hy : Rep k y b)
    (h : ∀ p q : Int, Fin k x p → Fin k y q → RI k w (p + q)) : Rep k w (vaddG H H2 EL a b) := by
  cases a with
  | bad => trivial
  | zero =>
    cases b with
    | bad => trivial
    | zero =>
      have := h _ _ hx hy
      unfold RI at this
      rw [Int.add_zero, rI_0] at this
      exact this (limK_pos k)
    | num c n t =>
      have := h _ _ hx hy
      unfold RI at this
      have hy' : Fin k y (sg c (n * 2 ^ t)) := hy
      rw [Int.zero_add, hy'.exact] at this
      exact this hy'.lt_lim
  | num b m s => cases b with
    | _ => cases ‹V› with
      | bad => trivial
      | zero =>
        have := h _ _ hx hy
        unfold RI at this
        rw [Int.add_zero, Fin.exact hx] at this
        exact this (Fin.lt_lim hx)
      | num c n t =>
        have hz := h _ _ hx hy
        have l1 := Fin.lt_lim hx
        have l2 := Fin.lt_lim hy
        rw [sg_abs] at l1 l2
        show Rep k w (Bool.rec (vsum H H2 EL _ m s n t) (vdif H H2 EL _ m s n t) (bx _ c))
        rw [bx_eq]
        first
        | (cases c
           · refine rep_sum ok (RI.sg ?_)
             unfold sg at hz ⊢
             simpa using hz
           · exact rep_dif ok hz l1 l2)
        | (cases c
           · exact rep_dif ok hz l1 l2
           · refine rep_sum ok (RI.sg ?_)
             unfold sg at hz ⊢
             simp at hz ⊢
             rw [Int.neg_add]
             exact hz)
theorem rep_addG {k : FloatKind} {fb H H2 sc EL x y : Nat} {a b : V} (ok : KOk k fb H H2 sc EL) (hx : Rep k x a) (hy : Rep k y b) : Rep k (fop .add k x y) (vaddG H H2 EL a b) :=
  rep_addI ok hx hy fun _ _ hp hq hl => Fin.add hp hq hl
theorem rep_neg {k : FloatKind} {x : Nat} {a : V} (hx : Rep k x a) : Rep k (fneg k x) (vneg a) := by
  cases a with
  | bad => trivial
  | zero => exact Fin.neg hx
  | num b m s =>
    show Fin k _ (sg (bx b true) _)
    rw [bx_eq, Bool.xor_true, sg_not]
    exact Fin.neg hx
theorem rep_subG {k : FloatKind} {fb H H2 sc EL x y : Nat} {a b : V} (ok : KOk k fb H H2 sc EL) (hx : Rep k x a) (hy : Rep k y b) : Rep k (fop .sub k x y) (vsubG H H2 EL a b) := by
  have key : ∀ v : Int, Fin k y v → Rep k (fop .sub k x y) (vaddG H H2 EL a (vneg b)) := fun v hv =>
    rep_addI (y := fneg k y) ok hx (rep_neg hy) fun p q hp hq hl => by
      have e := hv.neg.unique hq
      subst e
      rw [← Int.sub_eq_add_neg] at hl ⊢
      exact Fin.sub hp hv hl
  cases b with
  | bad => cases a <;> trivial
  | zero => exact key _ hy
  | num c n t => exact key _ hy
end Go.Fw

/-
  Floats evaluated by the kernel: conversions, roots, comparisons; the operations of 32 and of 64 bits.
-/
namespace Go.Fw
open Ieee (Datum Format Toward signed)
theorem ok32 : KOk .f32 23 8388608 16777216 149 252 := ⟨rfl, by decide, by decide, rfl, by decide, by decide⟩
theorem ok64 : KOk .f64 52 4503599627370496 9007199254740992 1074 2044 := ⟨rfl, by decide, by decide, rfl, by decide, by decide⟩
noncomputable def wadd (x y : V) : V := vaddG 4503599627370496 9007199254740992 2044 x y
noncomputable def wsub (x y : V) : V := vsubG 4503599627370496 9007199254740992 2044 x y
noncomputable def wmul (x y : V) : V := vmulG 52 4503599627370496 9007199254740992 1074 2044 40564819207303340847894502572032 x y
noncomputable def wquo (x y : V) : V := vquoG 52 4503599627370496 9007199254740992 1074 2044 x y
theorem rep_wadd {x y : Nat} {a b : V} (hx : Rep .f64 x a) (hy : Rep .f64 y b) : Rep .f64 (fop .add .f64 x y) (wadd a b) := rep_addG ok64 hx hy
theorem rep_wsub {x y : Nat} {a b : V} (hx : Rep .f64 x a) (hy : Rep .f64 y b) : Rep .f64 (fop .sub .f64 x y) (wsub a b) := rep_subG ok64 hx hy
theorem rep_wmul {x y : Nat} {a b : V} (hx : Rep .f64 x a) (hy : Rep .f64 y b) : Rep .f64 (fop .mul .f64 x y) (wmul a b) := rep_mulG ok64 hx hy
theorem rep_wquo {x y : Nat} {a b : V} (hx : Rep .f64 x a) (hy : Rep .f64 y b) : Rep .f64 (fop .quo .f64 x y) (wquo a b) := rep_quoG ok64 hx hy
/-! ### Conversions -/
noncomputable def vwide (x : V) : V := V.rec V.zero (fun b m s => V.num b (Nat.mul m 536870912) (Nat.add s 896)) V.bad x
noncomputable def vnar (b : Bool) (m s : Nat) : V := Bool.rec V.bad (vrnd 8388608 16777216 252 b m 536870912 (Nat.sub s 896)) (Nat.ble 896 s)
noncomputable def vnarrow (x : V) : V := V.rec V.zero (fun b m s => vnar b m s) V.bad x
theorem sg_scale (b : Bool) (n p : Nat) : sg b n * (p : Nat) = sg b (n * p) := by
  unfold sg; cases b <;> simp [Int.neg_mul]
theorem rep_wide {x : Nat} {a : V} (hx : Rep .f32 x a) : Rep .f64 (fcvt .f32 .f64 x) (vwide a) := by
  cases a with
  | bad => trivial
  | zero =>
    have := Fin.widen scD_eq hx
    rw [Int.zero_mul] at this
    exact this
  | num b m s =>
    have := Fin.widen scD_eq hx
    rw [sg_scale] at this
    show Fin .f64 _ (sg b (m * 536870912 * 2 ^ (s + 896)))
    have e : m * 536870912 * 2 ^ (s + 896) = m * 2 ^ s * 2 ^ scD := by
      rw [show (536870912 : Nat) = 2 ^ 29 by decide, Nat.mul_assoc, Nat.mul_assoc, ← Nat.pow_add, ← Nat.pow_add, scD_eq, show 29 + (s + 896) = s + 925 by omega]
    rw [e]
    exact this
theorem nar_rat (m s : Nat) (h : 896 ≤ s) : rq 23 (m * 2 ^ (s - 896)) (2 ^ 29) = rq 23 (m * 2 ^ s) (2 ^ scD) := by
  refine rq_congr (Nat.two_pow_pos _) (Nat.two_pow_pos _) ?_
  rw [Nat.mul_assoc, Nat.mul_assoc, ← Nat.pow_add, ← Nat.pow_add, scD_eq, show s - 896 + 925 = s + 29 by omega]
theorem rep_nar {x : Nat} {b : Bool} {m s : Nat} (hx : Fin .f64 x (sg b (m * 2 ^ s))) : Rep .f32 (fcvt .f64 .f32 x) (vnar b m s) := by
  unfold vnar
  cases h1 : Nat.ble 896 s
  · trivial
  have h1 : 896 ≤ s := Nat.le_of_ble_eq_true h1
  refine rep_rnd ok32 (by omega) fun hl => ?_
  have e29 : (536870912 : Nat) = 2 ^ 29 := by decide
  rw [e29] at hl ⊢
  have e : rq (fbK .f32) (m * 2 ^ (Nat.sub s 896)) (2 ^ 29) = _ := nar_rat m s h1
  rw [e] at hl ⊢
  have := Fin.narrow scD_eq hx
  rw [rI_sg, sg_abs] at this
  exact (this hl).1
theorem rep_narrow {x : Nat} {a : V} (hx : Rep .f64 x a) : Rep .f32 (fcvt .f64 .f32 x) (vnarrow a) := by
  cases a with
  | bad => trivial
  | zero =>
    have := Fin.narrow scD_eq hx
    rw [rI_0] at this
    exact (this (limK_pos _)).1
  | num b m s => exact rep_nar hx
/-- The narrowing is fixed by the model. -/
noncomputable def vgood (x : V) : Bool := V.rec true (fun _ _ _ => true) false x
/-! ### Roots -/
/-- Newton's steps towards the root of M. -/
noncomputable def newt (M : Nat) (n x : Nat) : Nat := Nat.rec x (fun _ y => Nat.div (Nat.add y (Nat.div M y)) 2) n
/-- N = 2 W + st, of 56 or 57 digits, times 2 ^ (e - 1). -/
noncomputable def vroot4 (e N : Nat) : V :=
  Bool.rec (vrnd 4503599627370496 9007199254740992 2044 false N 16 (Nat.add e 3)) (vrnd 4503599627370496 9007199254740992 2044 false N 8 (Nat.add e 2)) (Nat.ble (Nat.succ N) 72057594037927936)
noncomputable def vroot3 (M e W : Nat) : V :=
  Bool.rec V.bad (Bool.rec V.bad (Bool.rec V.bad (vroot4 e (Nat.add (Nat.mul 2 W) (Bool.rec 1 0 (Nat.beq (Nat.mul W W) M)))) (Nat.ble 9007199254740992 W)) (Nat.ble (Nat.succ M) (Nat.mul (Nat.succ W) (Nat.succ W)))) (Nat.ble (Nat.mul W W) M)
noncomputable def vroot2 (M e : Nat) : V := vroot3 M e (newt M 5 (Nat.add (Nat.div M 72057594037927936) 18014398509481984))
noncomputable def vroot1 (m s : Nat) : V := Bool.rec (vroot2 (Nat.mul m 144115188075855872) (Nat.div (Nat.add s 1017) 2)) (vroot2 (Nat.mul m 288230376151711744) (Nat.div (Nat.add s 1016) 2)) (Nat.beq (Nat.mod s 2) 0)
noncomputable def wsqrt (x : V) : V := V.rec V.zero (fun b m s => Bool.rec (vroot1 m s) V.bad b) V.bad x
theorem exists_root (X : Nat) : ∃ S, S * S ≤ X ∧ X < (S + 1) * (S + 1) := ⟨_, rootFrom_ok X⟩
theorem rep_root4 {x e N Y : Nat} (hN : 2 ^ (52 + 2) ≤ N) (he : 1 ≤ e) (st : Stick N Y (2 ^ e)) (h : Fin .f64 (fsqrt x) ((rq 52 Y 2 : Nat) : Int)) : Rep .f64 (fsqrt x) (vroot4 e N) := by
  have key := stick_rq (fb := 52) (u := e - 1) (v := 0) (Nat.two_pow_pos e) st hN (.inr rfl)
  rw [Nat.pow_zero, Nat.mul_one] at key
  obtain ⟨F, rfl⟩ : ∃ F, e = F + 1 := ⟨e - 1, by omega⟩
  rw [Nat.add_sub_cancel, Nat.pow_succ', rq_scale (Nat.two_pow_pos _)] at key
  rw [key] at h
  have rr : RR .f64 (fsqrt x) false (N * 2 ^ F) := fun _ => h
  have e3 : ∀ u, Rep .f64 (fsqrt x) (vrnd 4503599627370496 9007199254740992 2044 false N (2 ^ u) (F + u)) := fun u => by
    refine rep_rnd ok64 (Nat.two_pow_pos _) fun hl => ?_
    have := rq_scale (fb := fbK .f64) (A := N * 2 ^ F) (B := 1) (Nat.two_pow_pos u)
    rw [Nat.one_mul, Nat.mul_assoc, ← Nat.pow_add] at this
    rw [this] at hl ⊢
    exact rr hl
  unfold vroot4
  cases Nat.ble (Nat.succ N) 72057594037927936
  · exact e3 4
  · exact e3 3
theorem rep_root3 {x n X M e W : Nat} (h : Fin .f64 x (n : Int)) (hX : X = n * 2 ^ scK .f64) (hM : X = M * (2 ^ e * 2 ^ e)) (he : 1 ≤ e) : Rep .f64 (fsqrt x) (vroot3 M e W) := by
  unfold vroot3
  cases h1 : Nat.ble (Nat.mul W W) M
  · trivial
  cases h2 : Nat.ble (Nat.succ M) (Nat.mul (Nat.succ W) (Nat.succ W))
  · trivial
  cases h3 : Nat.ble 9007199254740992 W
  · trivial
  have h1 : W * W ≤ M := Nat.le_of_ble_eq_true h1
  have h2 : M < (W + 1) * (W + 1) := Nat.le_of_ble_eq_true h2
  have h3 : 9007199254740992 ≤ W := Nat.le_of_ble_eq_true h3
  obtain ⟨S, hS, hS'⟩ := exists_root X
  have hs := Fin.sqrt h hX hS hS'
  have hp : 0 < 2 ^ e * 2 ^ e := Nat.mul_pos (Nat.two_pow_pos _) (Nat.two_pow_pos _)
  have st := root_stick (e := e) hS hS' (by rw [hM]; exact Nat.mul_le_mul_right _ h1) (by rw [hM]; exact Nat.mul_lt_mul_of_pos_right h2 hp)
  have hd : (W * W * (2 ^ e * 2 ^ e) != X).toNat = (Bool.rec 1 0 (Nat.beq (W * W) M) : Nat) := by
    have : Nat.beq (W * W) M = (W * W * (2 ^ e * 2 ^ e) == X) := by
      rw [Bool.eq_iff_iff, Nat.beq_eq, beq_iff_eq, hM]
      exact ⟨fun h => by rw [h], fun h => Nat.eq_of_mul_eq_mul_right hp h⟩
    rw [this]
    unfold bne
    cases (W * W * (2 ^ e * 2 ^ e) == X) <;> rfl
  rw [hd] at st
  refine rep_root4 ?_ he st hs
  have : (2 : Nat) ^ (52 + 2) = 18014398509481984 := by decide
  show _ ≤ 2 * W + _
  omega
theorem root_X {m s c d e n : Nat} (hn : n = m * 2 ^ s) (hc : c = 2 ^ d) (h : s + scK .f64 = d + (e + e)) : n * 2 ^ scK .f64 = m * c * (2 ^ e * 2 ^ e) := by
  rw [hn, hc, Nat.mul_assoc, Nat.mul_assoc, ← Nat.pow_add, ← Nat.pow_add, ← Nat.pow_add, h]
theorem rep_sqrt {x : Nat} {a : V} (hx : Rep .f64 x a) : Rep .f64 (fsqrt x) (wsqrt a) := by
  cases a with
  | bad => trivial
  | zero =>
    have h0 := Fin.sqrt (x := x) (n := 0) (X := 0) (S := 0) hx (by rw [Nat.zero_mul]) (by omega) (by omega)
    have e0 : (rq 52 (2 * 0 + (0 * 0 != 0).toNat) 2 : Nat) = 0 := rq_zero _ _
    rw [e0] at h0
    exact h0
  | num b m s =>
    cases b
    · have hx' : Fin .f64 x ((m * 2 ^ s : Nat) : Int) := hx
      show Rep .f64 (fsqrt x) (vroot1 m s)
      unfold vroot1
      cases h1 : Nat.beq (Nat.mod s 2) 0
      · have h1 : s % 2 ≠ 0 := fun e => by
          have : Nat.beq (s % 2) 0 = false := h1
          rw [e] at this; cases this
        exact rep_root3 hx' rfl (root_X (d := 57) rfl (by decide) (by show s + 1074 = 57 + ((s + 1017) / 2 + (s + 1017) / 2); omega)) (by show 1 ≤ (s + 1017) / 2; omega)
      · have h1 : s % 2 = 0 := Nat.eq_of_beq_eq_true h1
        exact rep_root3 hx' rfl (root_X (d := 58) rfl (by decide) (by show s + 1074 = 58 + ((s + 1016) / 2 + (s + 1016) / 2); omega)) (by show 1 ≤ (s + 1016) / 2; omega)
    · trivial
/-- The root of a 32-bit number. -/
noncomputable def vsqrt (x : V) : V := vnarrow (wsqrt (vwide x))
theorem rep_vsqrt {x : Nat} {a : V} (hx : Rep .f32 x a) : Rep .f32 (fcvt .f64 .f32 (fsqrt (fcvt .f32 .f64 x))) (vsqrt a) := rep_narrow (rep_sqrt (rep_wide hx))
/-! ### Comparisons -/
noncomputable def ncmp (a b : Nat) : Ordering := Bool.rec (Bool.rec .gt .eq (Nat.beq a b)) .lt (Nat.ble (Nat.succ a) b)
noncomputable def vmag (x : V) : Nat := V.rec 0 (fun _ m s => Nat.mul m (Nat.pow 2 s)) 0 x
/-- Is below nought. -/
noncomputable def vlow (x : V) : Bool := V.rec false (fun b _ _ => b) false x
noncomputable def vcmp2 (p q : Bool) (a b : Nat) : Ordering := Bool.rec (Bool.rec (ncmp a b) (ncmp (Nat.add a b) 0) q) (Bool.rec (ncmp 0 (Nat.add a b)) (ncmp b a) q) p
noncomputable def vcmp (x y : V) : Option Ordering := Bool.rec none (Bool.rec none (some (vcmp2 (vlow x) (vlow y) (vmag x) (vmag y))) (vgood y)) (vgood x)
theorem ncmp_eq (a b : Nat) : ncmp a b = compare (a : Int) (b : Int) := by
  show _ = compareOfLessAndEq _ _
  unfold ncmp compareOfLessAndEq
  cases h : Nat.ble (Nat.succ a) b
  · have : ¬ (a : Int) < b := fun h' => by
      have : Nat.ble (Nat.succ a) b = true := Nat.ble_eq_true_of_le (by omega)
      rw [h] at this; cases this
    rw [if_neg this]
    cases h' : Nat.beq a b
    · rw [if_neg (fun e => by have e : a = b := by omega
                              rw [e, Nat.beq_refl] at h'; cases h')]
    · rw [if_pos (by rw [Nat.eq_of_beq_eq_true h'])]
  · have := Nat.le_of_ble_eq_true h
    rw [if_pos (by omega)]
theorem rep_val {k : FloatKind} {x : Nat} {a : V} (hx : Rep k x a) (h : vgood a = true) : Fin k x (sg (vlow a) (vmag a)) := by
  cases a with
  | bad => cases h
  | zero => exact hx
  | num b m s => exact hx
theorem rep_cmp {k : FloatKind} {x y : Nat} {a b : V} {o : Ordering} (hx : Rep k x a) (hy : Rep k y b) (h : vcmp a b = some o) : forder k x y = some o := by
  unfold vcmp at h
  cases h1 : vgood a
  · rw [h1] at h; cases h
  cases h2 : vgood b
  · rw [h1, h2] at h; cases h
  rw [h1, h2] at h
  have h : some (vcmp2 (vlow a) (vlow b) (vmag a) (vmag b)) = some o := h
  rw [Fin.order (rep_val hx h1) (rep_val hy h2), ← h]
  generalize vmag a = m
  generalize vmag b = n
  have c : ∀ p q r : Int, compare (p + r) (q + r) = compare p q := fun p q r => by
    show compareOfLessAndEq _ _ = compareOfLessAndEq _ _
    unfold compareOfLessAndEq
    have h1 : p + r < q + r ↔ p < q := by omega
    have h2 : p + r = q + r ↔ p = q := by omega
    simp only [h1, h2]
  unfold sg
  cases vlow a <;> cases vlow b
  · exact congrArg some (ncmp_eq m n).symm
  · show some (compare (m : Int) (-(n : Int))) = some (ncmp (m + n) 0)
    rw [ncmp_eq, ← c _ _ n, Int.add_left_neg, Int.natCast_add]; rfl
  · show some (compare (-(m : Int)) (n : Int)) = some (ncmp 0 (m + n))
    rw [ncmp_eq, ← c _ _ m, Int.add_left_neg, Int.natCast_add, Int.add_comm (m : Int)]; rfl
  · show some (compare (-(m : Int)) (-(n : Int))) = some (ncmp n m)
    rw [ncmp_eq, ← c _ _ ((m : Int) + n)]
    congr 2 <;> omega
/-- A word read. -/
def vofD (k : FloatKind) : Datum → V
  | .number s m i => if m = 0 then .zero else .num s m (i - k.format.leastPlace).toNat
  | _ => .bad
def vof (k : FloatKind) (w : Nat) : V := vofD k (k.format.read w)
theorem rep_of (k : FloatKind) (w : Nat) : Rep k w (vof k w) := by
  unfold vof
  cases h : k.format.read w with
  | nan s t => trivial
  | infinity s => trivial
  | number s m i =>
    have hl : k.format.leastPlace ≤ i := by
      rcases (read_number h).2.1 with h1 | h1
      · omega
      · exact h1.2
    unfold vofD
    simp only
    by_cases h0 : m = 0
    · subst h0
      rw [if_pos rfl]
      exact ⟨s, 0, i, h, hl, by rw [signed_sg, Nat.zero_mul, sg_zero]⟩
    · rw [if_neg h0]
      exact ⟨s, m, i, h, hl, by rw [signed_sg]⟩
end Go.Fw

/-
  Floats that are finite numbers, told as fractions; how far from the exact results the operations' are.
-/
namespace Go.Fw
/-- d is at most e from nought. -/
def Near (d e : Rat) : Prop := -e ≤ d ∧ d ≤ e
theorem Near.nonneg {d e : Rat} (h : Near d e) : 0 ≤ e := by unfold Near at h; grind
theorem Near.add {a b A B : Rat} (h : Near a A) (h' : Near b B) : Near (a + b) (A + B) := by unfold Near at *; grind
theorem Near.sub {a b A B : Rat} (h : Near a A) (h' : Near b B) : Near (a - b) (A + B) := by unfold Near at *; grind
theorem Near.neg {a A : Rat} (h : Near a A) : Near (-a) A := by unfold Near at *; grind
theorem Near.mono {a A B : Rat} (h : Near a A) (h' : A ≤ B) : Near a B := by unfold Near at *; grind
theorem Near.zero {A : Rat} (h : 0 ≤ A) : Near 0 A := by unfold Near; grind
theorem Near.mul {a b A B : Rat} (h : Near a A) (h' : Near b B) : Near (a * b) (A * B) := by
  have hA := h.nonneg
  have hB := h'.nonneg
  unfold Near at *
  have h1 := Rat.mul_nonneg (show 0 ≤ A - a by grind) (show 0 ≤ B + b by grind)
  have h2 := Rat.mul_nonneg (show 0 ≤ A + a by grind) (show 0 ≤ B - b by grind)
  have h3 := Rat.mul_nonneg (show 0 ≤ A - a by grind) (show 0 ≤ B - b by grind)
  have h4 := Rat.mul_nonneg (show 0 ≤ A + a by grind) (show 0 ≤ B + b by grind)
  constructor <;> grind
/-! ### How far a rounded fraction is -/
theorem rqN_near {A D : Nat} (hD : 0 < D) : 2 * (rqN A D * D) ≤ 2 * A + D ∧ 2 * A ≤ 2 * (rqN A D * D) + D := by
  unfold rqN
  have h1 := Nat.div_add_mod A D
  have h2 := Nat.mod_lt A hD
  generalize A / D = q at *
  generalize A % D = r at *
  cases h : (Nat.blt D (2 * r) || (Nat.beq D (2 * r) && Nat.beq (q % 2) 1))
  · have : ¬ D < 2 * r := fun h' => by
      rw [show Nat.blt D (2 * r) = true by rw [Nat.blt_eq]; exact h'] at h; cases h
    rw [cond_false, Nat.mul_comm q D]
    show 2 * (D * q) ≤ _ ∧ _ ≤ 2 * (D * q) + D
    omega
  · have : D ≤ 2 * r := by
      simp only [Bool.or_eq_true, Bool.and_eq_true, Nat.blt_eq, Nat.beq_eq] at h
      omega
    rw [cond_true, Nat.add_mul, Nat.mul_comm q D]; omega
theorem rq_near {fb A B : Nat} (hB : 0 < B) : rq fb A B * B * 2 ^ (fb + 1) ≤ A * 2 ^ (fb + 1) + (A + B * 2 ^ fb) ∧ A * 2 ^ (fb + 1) ≤ rq fb A B * B * 2 ^ (fb + 1) + (A + B * 2 ^ fb) := by
  have hp := Nat.two_pow_pos (rqS fb A B)
  have hD : 0 < B * 2 ^ rqS fb A B := Nat.mul_pos hB hp
  obtain ⟨h1, h2⟩ := rqN_near (A := A) hD
  have e : rq fb A B * B = rqN A (B * 2 ^ rqS fb A B) * (B * 2 ^ rqS fb A B) := by
    unfold rq
    rw [Nat.mul_assoc, Nat.mul_comm (2 ^ rqS fb A B) B]
  rw [e]
  have h3 : B * 2 ^ rqS fb A B * 2 ^ fb ≤ A + B * 2 ^ fb := by
    rcases Nat.eq_zero_or_pos (rqS fb A B) with h | h
    · rw [h, Nat.pow_zero, Nat.mul_one]; omega
    · have := rqS_lo h
      have := (Nat.le_div_iff_mul_le hD).1 this
      rw [Nat.mul_comm] at this
      omega
  generalize rqN A (B * 2 ^ rqS fb A B) * (B * 2 ^ rqS fb A B) = N at *
  generalize B * 2 ^ rqS fb A B = D at *
  rw [Nat.pow_succ]
  have a1 := Nat.mul_le_mul_right (2 ^ fb) h1
  have a2 := Nat.mul_le_mul_right (2 ^ fb) h2
  rw [Nat.add_mul] at a1 a2
  have e1 : N * (2 ^ fb * 2) = 2 * N * 2 ^ fb := by rw [Nat.mul_comm (2 ^ fb) 2, ← Nat.mul_assoc, Nat.mul_comm N 2]
  have e2 : A * (2 ^ fb * 2) = 2 * A * 2 ^ fb := by rw [Nat.mul_comm (2 ^ fb) 2, ← Nat.mul_assoc, Nat.mul_comm A 2]
  rw [e1, e2]
  omega
/-! ### Values -/
/-- 1 / ur is how many times finer than the number its last digit's half is. -/
def ur (k : FloatKind) : Rat := 1 / ((2 ^ (fbK k + 1) : Nat) : Rat)
/-- A half. -/
def hf : Rat := 1 / 2
theorem hf2 : hf + hf = 1 := by decide +kernel
def unit (k : FloatKind) : Rat := ((2 ^ scK k : Nat) : Rat)
/-- Half a least unit. -/
def tiny (k : FloatKind) : Rat := 1 / (2 * unit k)
theorem unit_pos (k : FloatKind) : 0 < unit k := Rat.natCast_pos.2 (Nat.two_pow_pos _)
theorem ur_pos (k : FloatKind) : 0 < ur k := by
  unfold ur
  rw [Rat.lt_div_iff (Rat.natCast_pos.2 (Nat.two_pow_pos _)), Rat.zero_mul]; decide
theorem tiny_unit (k : FloatKind) : tiny k * unit k = hf := by
  unfold tiny
  have := unit_pos k
  have h : (2 * unit k) ≠ 0 := by grind
  have := Rat.div_mul_cancel (a := 1) h
  have := hf2
  grind
theorem tiny_pos (k : FloatKind) : 0 < tiny k := by
  have h1 := unit_pos k
  have h2 := tiny_unit k
  by_cases h : 0 < tiny k
  · exact h
  · have := Rat.mul_le_mul_of_nonneg_right (show tiny k ≤ 0 by grind) (show 0 ≤ unit k by grind)
    have := hf2
    grind
/-- The word w is the finite number q. -/
def Val (k : FloatKind) (w : Nat) (q : Rat) : Prop := ∃ n : Int, Fin k w n ∧ (n : Rat) = q * unit k
theorem Val.unique {k : FloatKind} {w : Nat} {a b : Rat} (h : Val k w a) (h' : Val k w b) : a = b := by
  obtain ⟨n, h1, h2⟩ := h
  obtain ⟨m, h3, h4⟩ := h'
  rw [h1.unique h3, h4] at h2
  have := unit_pos k
  have h5 : (a - b) * unit k = 0 := by grind
  rcases Rat.mul_eq_zero.1 h5 with h | h <;> grind
theorem Fin.val {k : FloatKind} {w : Nat} {n : Int} (h : Fin k w n) : Val k w ((n : Rat) / unit k) := ⟨n, h, by
  have := unit_pos k
  rw [Rat.div_mul_cancel (by grind)]⟩
/-- How far z / D rounded is from z / D. -/
theorem rI_near {k : FloatKind} {z : Int} {D : Nat} {x X : Rat} (hD : 0 < D) (hx : x * (D : Rat) = (z : Rat)) (hX : Near x X) : Near ((rI k z D : Rat) - x) (X * ur k + hf) := by
  have hd : (0 : Rat) < (D : Rat) := Rat.natCast_pos.2 hD
  obtain ⟨h1, h2⟩ := rq_near (fb := fbK k) (A := z.natAbs) hD
  have h1 := Rat.natCast_le_natCast.2 h1
  have h2 := Rat.natCast_le_natCast.2 h2
  simp only [Rat.natCast_mul, Rat.natCast_add] at h1 h2
  have hP : (0 : Rat) < ((2 ^ fbK k : Nat) : Rat) := Rat.natCast_pos.2 (Nat.two_pow_pos _)
  have hP1 : ((2 ^ (fbK k + 1) : Nat) : Rat) = 2 * ((2 ^ fbK k : Nat) : Rat) := by
    rw [Nat.pow_succ', Rat.natCast_mul]; rfl
  have hu : ur k * (2 * ((2 ^ fbK k : Nat) : Rat)) = 1 := by
    unfold ur
    rw [hP1, Rat.div_mul_cancel (by grind)]
  rw [hP1] at h1 h2
  have hh := hf2
  have main : ∀ y : Rat, y * (D : Rat) = (z.natAbs : Rat) → y ≤ X → Near ((rq (fbK k) z.natAbs D : Rat) - y) (X * ur k + hf) := fun y hy hyX => by
    rw [← hy] at h1 h2
    generalize (rq (fbK k) z.natAbs D : Rat) = r at *
    generalize ((2 ^ fbK k : Nat) : Rat) = P at *
    generalize (D : Rat) = d at *
    have hX0 := hX.nonneg
    have a1 : (d * P) * (2 * r) ≤ (d * P) * (2 * y + y * (ur k * 2) + 1) := by
      have : y * d = y * d * (ur k * (2 * P)) := by rw [hu, Rat.mul_one]
      grind
    have a2 : (d * P) * (2 * y) ≤ (d * P) * (2 * r + y * (ur k * 2) + 1) := by
      have : y * d = y * d * (ur k * (2 * P)) := by rw [hu, Rat.mul_one]
      grind
    have hdP := Rat.mul_pos hd hP
    have a1 := Rat.le_of_mul_le_mul_left a1 hdP
    have a2 := Rat.le_of_mul_le_mul_left a2 hdP
    have hur := ur_pos k
    have := Rat.mul_le_mul_of_nonneg_right hyX (Rat.le_of_lt hur)
    unfold Near
    constructor <;> grind
  unfold Near at hX
  by_cases hz : z < 0
  · have hn : (z.natAbs : Rat) = -(z : Rat) := by
      have e : (z.natAbs : Int) = -z := by omega
      rw [← Rat.intCast_natCast, e, Rat.intCast_neg]
    have := main (-x) (by rw [hn]; grind) (by grind)
    unfold rI sg
    rw [decide_eq_true hz, if_pos rfl, Rat.intCast_neg, Rat.intCast_natCast]
    unfold Near at *
    constructor <;> grind
  · have hn : (z.natAbs : Rat) = (z : Rat) := by
      have e : (z.natAbs : Int) = z := by omega
      rw [← Rat.intCast_natCast, e]
    have := main x (by rw [hn]; grind) (by grind)
    unfold rI sg
    rw [decide_eq_false hz, if_neg (by decide), Rat.intCast_natCast]
    exact this
/-- Not too great for the format. -/
def most : Rat := 2 ^ 100
theorem lim_most (k : FloatKind) : most * 2 * unit k + 1 ≤ ((limK k : Nat) : Rat) := by cases k <;> decide +kernel
theorem ur_half (k : FloatKind) : ur k ≤ hf := by cases k <;> decide +kernel
theorem rI_lim {k : FloatKind} {z : Int} {D : Nat} {x X : Rat} (hD : 0 < D) (hx : x * (D : Rat) = (z : Rat)) (hX : Near x (X * unit k)) (hm : X ≤ most) : (rI k z D).natAbs < limK k := by
  have h := rI_near (k := k) hD hx hX
  have hu := unit_pos k
  have h0 := hX.nonneg
  have h1 := lim_most k
  have h2 := ur_half k
  have h4 := Rat.mul_le_mul_of_nonneg_left h2 h0
  have h5 := Rat.mul_le_mul_of_nonneg_right hm (Rat.le_of_lt hu)
  have hh := hf2
  have h6 : (0 : Rat) ≤ most := by decide
  have h7 := Rat.mul_nonneg h6 (Rat.le_of_lt hu)
  have h8 : X * unit k * hf + X * unit k * hf = X * unit k := by rw [← Rat.mul_add, hh, Rat.mul_one]
  unfold Near at *
  have k1 : (rI k z D : Rat) < ((limK k : Nat) : Rat) := by grind
  have k2 : -((limK k : Nat) : Rat) < (rI k z D : Rat) := by grind
  rw [← Rat.intCast_natCast] at k1 k2
  rw [← Rat.intCast_neg] at k2
  have k1 := Rat.intCast_lt_intCast.1 k1
  have k2 := Rat.intCast_lt_intCast.1 k2
  omega
theorem rI_val {k : FloatKind} {w : Nat} {z : Int} {D : Nat} {x X : Rat} (hD : 0 < D) (hx : x * unit k * (D : Rat) = (z : Rat)) (hX : Near x X) (hm : X ≤ most) (h : (rI k z D).natAbs < limK k → Fin k w (rI k z D)) : ∃ c, Val k w c ∧ Near (c - x) (X * ur k + tiny k) := by
  have hu := unit_pos k
  have hXu : Near (x * unit k) (X * unit k) := by
    unfold Near at *
    have := Rat.mul_le_mul_of_nonneg_right hX.1 (Rat.le_of_lt hu)
    have := Rat.mul_le_mul_of_nonneg_right hX.2 (Rat.le_of_lt hu)
    grind
  refine ⟨_, (h (rI_lim hD hx hXu hm)).val, ?_⟩
  have hn := rI_near (k := k) hD hx hXu
  have ht := tiny_unit k
  have hh := hf2
  have hc : (rI k z D : Rat) / unit k * unit k = (rI k z D : Rat) := Rat.div_mul_cancel (by grind)
  generalize (rI k z D : Rat) / unit k = c at *
  rw [← hc] at hn
  unfold Near at *
  constructor
  · refine Rat.le_of_mul_le_mul_right (c := unit k) ?_ hu; grind
  · refine Rat.le_of_mul_le_mul_right (c := unit k) ?_ hu; grind
theorem Val.add {k : FloatKind} {x y : Nat} {a b X : Rat} (hx : Val k x a) (hy : Val k y b) (hX : Near (a + b) X) (hm : X ≤ most) : ∃ c, Val k (fop .add k x y) c ∧ Near (c - (a + b)) (X * ur k + tiny k) := by
  obtain ⟨n, h1, h2⟩ := hx
  obtain ⟨m, h3, h4⟩ := hy
  exact rI_val (z := n + m) (D := 1) (by omega) (by rw [Rat.intCast_add, h2, h4]; grind) hX hm (Fin.add h1 h3)
theorem Val.sub {k : FloatKind} {x y : Nat} {a b X : Rat} (hx : Val k x a) (hy : Val k y b) (hX : Near (a - b) X) (hm : X ≤ most) : ∃ c, Val k (fop .sub k x y) c ∧ Near (c - (a - b)) (X * ur k + tiny k) := by
  obtain ⟨n, h1, h2⟩ := hx
  obtain ⟨m, h3, h4⟩ := hy
  exact rI_val (z := n - m) (D := 1) (by omega) (by rw [Rat.intCast_sub, h2, h4]; grind) hX hm (Fin.sub h1 h3)
theorem Val.mul {k : FloatKind} {x y : Nat} {a b X : Rat} (hx : Val k x a) (hy : Val k y b) (hX : Near (a * b) X) (hm : X ≤ most) : ∃ c, Val k (fop .mul k x y) c ∧ Near (c - (a * b)) (X * ur k + tiny k) := by
  obtain ⟨n, h1, h2⟩ := hx
  obtain ⟨m, h3, h4⟩ := hy
  exact rI_val (z := n * m) (D := 2 ^ scK k) (Nat.two_pow_pos _) (by rw [Rat.intCast_mul, h2, h4]; show a * b * unit k * unit k = _; grind) hX hm (Fin.mul h1 h3)
theorem Val.neg {k : FloatKind} {x : Nat} {a : Rat} (hx : Val k x a) : Val k (fneg k x) (-a) := by
  obtain ⟨n, h1, h2⟩ := hx
  exact ⟨-n, h1.neg, by rw [Rat.intCast_neg, h2]; grind⟩
end Go.Fw

/-
  Roots, widening and narrowing as fractions.
-/
namespace Go.Fw
theorem sc_add : scK .f64 = scK .f32 + scD := by rw [scD_eq]; rfl
theorem unit_64 : unit .f64 = unit .f32 * ((2 ^ scD : Nat) : Rat) := by
  unfold unit
  rw [← Rat.natCast_mul, ← Nat.pow_add, sc_add]
theorem Val.widen {x : Nat} {a : Rat} (hx : Val .f32 x a) : Val .f64 (fcvt .f32 .f64 x) a := by
  obtain ⟨n, h1, h2⟩ := hx
  refine ⟨_, Fin.widen scD_eq h1, ?_⟩
  rw [Rat.intCast_mul, h2, Rat.intCast_natCast]
  rw [unit_64]
  grind
theorem Val.narrow {x : Nat} {a X : Rat} (hx : Val .f64 x a) (hX : Near a X) (hm : X ≤ most) : (∃ c, Val .f32 (fcvt .f64 .f32 x) c ∧ Near (c - a) (X * ur .f32 + tiny .f32)) ∧ fcvtOk .f64 .f32 x = true := by
  obtain ⟨n, h1, h2⟩ := hx
  have e := unit_64
  have hz : a * unit .f32 * ((2 ^ scD : Nat) : Rat) = (n : Rat) := by rw [h2, e]; grind
  refine ⟨rI_val (Nat.two_pow_pos _) hz hX hm fun hl => (Fin.narrow scD_eq h1 hl).1, (Fin.narrow scD_eq h1 ?_).2⟩
  refine rI_lim (Nat.two_pow_pos _) hz ?_ hm
  unfold Near at *
  have hu := unit_pos .f32
  have := Rat.mul_le_mul_of_nonneg_right hX.1 (Rat.le_of_lt hu)
  have := Rat.mul_le_mul_of_nonneg_right hX.2 (Rat.le_of_lt hu)
  grind
/-- The half of a 53rd digit. -/
def e53 : Rat := 1 / 9007199254740992
theorem e53_pos : 0 < e53 := by decide +kernel
theorem e53_small : e53 * 1024 ≤ 1 := by decide +kernel
theorem sq_mono {a b : Rat} (h : 0 ≤ a) (h' : a ≤ b) : a * a ≤ b * b := by
  have h1 := Rat.mul_le_mul_of_nonneg_right h' h
  have h2 := Rat.mul_le_mul_of_nonneg_left h' (Rat.le_trans h h')
  exact Rat.le_trans h1 h2
/-- The core: whole numbers S near the root of X, r near S. -/
theorem root_core {r S X e : Rat} (he : 0 < e) (hs : e * 1024 ≤ 1) (hS : 1 ≤ S * e) (h1 : S * S ≤ X) (h2 : X ≤ (S + 1) * (S + 1)) (h3 : r ≤ S * (1 + e) + 2) (h4 : S * (1 - e) - 1 ≤ r) (hS0 : 0 < S) : Near (r * r - X) (X * (8 * e)) := by
  have a1 : r ≤ S * (1 + 3 * e) := by grind
  have a2 : S * (1 - 2 * e) ≤ r := by grind
  have hSe := Rat.mul_pos hS0 he
  have hS2e : 2 * e ≤ 1 := by grind
  have hlow : 0 ≤ S * (1 - 2 * e) := Rat.mul_nonneg (Rat.le_of_lt hS0) (by grind)
  have a3 := sq_mono (Rat.le_trans hlow a2) a1
  have a4 := sq_mono hlow a2
  have hSS := Rat.mul_pos hS0 hS0
  have hSSe := Rat.mul_pos hSS he
  have ee : (S * S * e) * (e * 1024) ≤ (S * S * e) * 1 := Rat.mul_le_mul_of_nonneg_left hs (Rat.le_of_lt hSSe)
  have b1 : r * r ≤ S * S + 7 * (S * S * e) := by grind
  have b2 : S * S - 4 * (S * S * e) ≤ r * r := by
    have : 0 ≤ S * S * e * e := Rat.le_of_lt (Rat.mul_pos hSSe he)
    grind
  have hXe : S * S * e ≤ X * e := Rat.mul_le_mul_of_nonneg_right h1 (Rat.le_of_lt he)
  have c1 : X ≤ S * S + 3 * (S * S * e) := by
    have k1 : S ≤ S * S * e := by
      have := Rat.mul_le_mul_of_nonneg_left hS (Rat.le_of_lt hS0)
      grind
    have k2 : 1 ≤ S := by
      have : S * e * 1024 ≤ S := by
        have := Rat.mul_le_mul_of_nonneg_left hs (Rat.le_of_lt hS0)
        grind
      grind
    grind
  unfold Near
  constructor <;> grind
theorem Val.root64 {x : Nat} {a : Rat} (hx : Val .f64 x a) (h0 : a = 0 ∨ (1 : Rat) / 2 ^ 200 ≤ a) : ∃ s, Val .f64 (fsqrt x) s ∧ 0 ≤ s ∧ Near (s * s - a) (a * (8 * e53)) := by
  obtain ⟨n, h1, h2⟩ := hx
  have hu := unit_pos .f64
  rcases h0 with h0 | h0
  · subst h0
    rw [Rat.zero_mul] at h2
    have hn : n = 0 := Rat.intCast_eq_zero_iff.1 h2
    subst hn
    have h0 := Fin.sqrt (x := x) (n := 0) (X := 0) (S := 0) h1 (by rw [Nat.zero_mul]) (by omega) (by omega)
    have e0 : (rq 52 (2 * 0 + (0 * 0 != 0).toNat) 2 : Nat) = 0 := rq_zero _ _
    rw [e0] at h0
    exact ⟨0, ⟨0, h0, by rw [Rat.zero_mul]; rfl⟩, by decide, by unfold Near; constructor <;> grind⟩
  · have hpos : (0 : Rat) < (n : Rat) := by
      rw [h2]
      exact Rat.mul_pos (by have : (0 : Rat) < 1 / 2 ^ 200 := by decide +kernel
                            grind) hu
    have hn0 : 0 < n := Rat.intCast_pos.1 hpos
    obtain ⟨m, rfl⟩ : ∃ m : Nat, n = (m : Int) := ⟨n.toNat, (Int.toNat_of_nonneg (by omega)).symm⟩
    obtain ⟨S, hS, hS'⟩ := exists_root (m * 2 ^ scK .f64)
    have hq := Fin.sqrt h1 rfl hS hS'
    generalize hd : (S * S != m * 2 ^ scK .f64).toNat = d at hq
    have hd1 : d ≤ 1 := by rw [← hd]; cases (S * S != m * 2 ^ scK .f64) <;> decide
    obtain ⟨q1, q2⟩ := rq_near (fb := 52) (A := 2 * S + d) (B := 2) (by omega)
    generalize rq 52 (2 * S + d) 2 = r at *
    have hXr : ((m * 2 ^ scK .f64 : Nat) : Rat) = a * unit .f64 * unit .f64 := by
      rw [Rat.natCast_mul, ← Rat.intCast_natCast m, h2]; rfl
    have big : (2 : Rat) ^ 120 ≤ (S : Rat) := by
      by_cases hb : (2 : Rat) ^ 120 ≤ (S : Rat)
      · exact hb
      · exfalso
        have hlt : (S : Rat) < 2 ^ 120 := by grind
        have hlt' : S < 2 ^ 120 := by
          have : (S : Rat) < ((2 ^ 120 : Nat) : Rat) := by
            rw [show ((2 ^ 120 : Nat) : Rat) = 2 ^ 120 by decide +kernel]; exact hlt
          exact Rat.natCast_lt_natCast.1 this
        have : (S + 1) * (S + 1) ≤ 2 ^ 120 * 2 ^ 120 := Nat.mul_le_mul hlt' hlt'
        have h5 : m * 2 ^ scK .f64 < 2 ^ 240 := Nat.lt_of_lt_of_le hS' (by rw [← Nat.pow_add] at this; exact this)
        have h6 := Rat.natCast_lt_natCast.2 h5
        rw [hXr] at h6
        have k1 := Rat.mul_le_mul_of_nonneg_right h0 (Rat.le_of_lt (Rat.mul_pos hu hu))
        have k2 : ((2 ^ 240 : Nat) : Rat) ≤ 1 / 2 ^ 200 * (unit .f64 * unit .f64) := by decide +kernel
        grind
    have hS0 : (0 : Rat) < (S : Rat) := by
      have : (0 : Rat) < 2 ^ 120 := by decide +kernel
      grind
    have core : Near ((r : Rat) * r - ((m * 2 ^ scK .f64 : Nat) : Rat)) (((m * 2 ^ scK .f64 : Nat) : Rat) * (8 * e53)) := by
      refine root_core (S := (S : Rat)) e53_pos e53_small ?_ ?_ ?_ ?_ ?_ hS0
      · have := Rat.mul_le_mul_of_nonneg_right big (Rat.le_of_lt e53_pos)
        have k : (1 : Rat) ≤ 2 ^ 120 * e53 := by decide +kernel
        grind
      · have := Rat.natCast_le_natCast.2 hS
        rw [Rat.natCast_mul] at this
        exact this
      · have := Rat.natCast_le_natCast.2 (Nat.le_of_lt hS')
        rw [Rat.natCast_mul (S + 1), Rat.natCast_add] at this
        exact this
      · have q1 := Rat.natCast_le_natCast.2 q1
        have hdr := Rat.natCast_le_natCast.2 hd1
        simp only [Rat.natCast_mul, Rat.natCast_add] at q1
        have p1 : ((2 ^ (52 + 1) : Nat) : Rat) * e53 = 1 := by decide +kernel
        have p2 : ((2 ^ 52 : Nat) : Rat) * e53 = hf := by decide +kernel
        have hh := hf2
        have k1 := Rat.mul_le_mul_of_nonneg_right q1 (Rat.le_of_lt e53_pos)
        have d0 : (0 : Rat) ≤ (d : Rat) := Rat.natCast_nonneg
        have l1 : ((2 : Nat) : Rat) = 2 := rfl
        have l2 : ((1 : Nat) : Rat) = 1 := rfl
        rw [l1] at k1
        rw [l2] at hdr
        generalize ((2 ^ (52 + 1) : Nat) : Rat) = P at *
        generalize ((2 ^ 52 : Nat) : Rat) = Q at *
        have es := e53_small
        have ep := e53_pos
        have g1 : (r : Rat) * 2 * P * e53 = (r : Rat) * 2 := by rw [Rat.mul_assoc, p1, Rat.mul_one]
        have g2 : (2 * (S : Rat) + (d : Rat)) * P * e53 = 2 * (S : Rat) + (d : Rat) := by rw [Rat.mul_assoc, p1, Rat.mul_one]
        have g3 : 2 * Q * e53 = 1 := by rw [Rat.mul_assoc, p2]; grind
        have g4 : (d : Rat) * e53 ≤ 1 * e53 := Rat.mul_le_mul_of_nonneg_right hdr (Rat.le_of_lt ep)
        grind
      · have q2 := Rat.natCast_le_natCast.2 q2
        have hdr := Rat.natCast_le_natCast.2 hd1
        simp only [Rat.natCast_mul, Rat.natCast_add] at q2
        have p1 : ((2 ^ (52 + 1) : Nat) : Rat) * e53 = 1 := by decide +kernel
        have p2 : ((2 ^ 52 : Nat) : Rat) * e53 = hf := by decide +kernel
        have hh := hf2
        have k1 := Rat.mul_le_mul_of_nonneg_right q2 (Rat.le_of_lt e53_pos)
        have d0 : (0 : Rat) ≤ (d : Rat) := Rat.natCast_nonneg
        have l1 : ((2 : Nat) : Rat) = 2 := rfl
        have l2 : ((1 : Nat) : Rat) = 1 := rfl
        rw [l1] at k1
        rw [l2] at hdr
        generalize ((2 ^ (52 + 1) : Nat) : Rat) = P at *
        generalize ((2 ^ 52 : Nat) : Rat) = Q at *
        have es := e53_small
        have ep := e53_pos
        have g1 : (r : Rat) * 2 * P * e53 = (r : Rat) * 2 := by rw [Rat.mul_assoc, p1, Rat.mul_one]
        have g2 : (2 * (S : Rat) + (d : Rat)) * P * e53 = 2 * (S : Rat) + (d : Rat) := by rw [Rat.mul_assoc, p1, Rat.mul_one]
        have g3 : 2 * Q * e53 = 1 := by rw [Rat.mul_assoc, p2]; grind
        have g4 : (d : Rat) * e53 ≤ 1 * e53 := Rat.mul_le_mul_of_nonneg_right hdr (Rat.le_of_lt ep)
        grind
    refine ⟨_, hq.val, ?_, ?_⟩
    · rw [Rat.intCast_natCast]
      refine Rat.le_of_mul_le_mul_right (c := unit .f64) ?_ hu
      rw [Rat.div_mul_cancel (by grind), Rat.zero_mul]
      exact Rat.natCast_nonneg
    · rw [Rat.intCast_natCast]
      have hc : (r : Rat) / unit .f64 * unit .f64 = (r : Rat) := Rat.div_mul_cancel (by grind)
      generalize (r : Rat) / unit .f64 = c at *
      rw [hXr, ← hc] at core
      have huu := Rat.mul_pos hu hu
      unfold Near at *
      constructor
      · refine Rat.le_of_mul_le_mul_right (c := unit .f64 * unit .f64) ?_ huu; grind
      · refine Rat.le_of_mul_le_mul_right (c := unit .f64 * unit .f64) ?_ huu; grind
end Go.Fw

/-
  32-bit numbers near exact fractions: bounds in parts of 2 ^ 60, which the kernel computes.
-/
namespace Go.Fw
def e22 : Rat := 1 / 4194304
theorem e22_pos : 0 < e22 := by decide +kernel
theorem ur32 : ur .f32 * 4 = e22 := by decide +kernel
theorem val_pos {w : Nat} {a : Rat} (h : Val .f32 w a) (h0 : 0 < a) : (1 : Rat) / 2 ^ 149 ≤ a := by
  obtain ⟨n, _, h2⟩ := h
  have hu := unit_pos .f32
  have : (0 : Rat) < (n : Rat) := by rw [h2]; exact Rat.mul_pos h0 hu
  have hn := Rat.intCast_pos.1 this
  have h1 : ((1 : Int) : Rat) ≤ (n : Rat) := Rat.intCast_le_intCast.2 hn
  rw [h2] at h1
  refine Rat.le_of_mul_le_mul_right (c := unit .f32) ?_ hu
  have e : (1 : Rat) / 2 ^ 149 * unit .f32 = ((1 : Int) : Rat) := by decide +kernel
  rw [e]; exact h1
theorem lt_of_sq {a b : Rat} (hb : 0 ≤ b) (h : a * a < b * b) : a < b := by
  by_cases h' : a < b
  · exact h'
  · have := sq_mono hb (show b ≤ a by grind)
    grind
theorem le_of_sq {a b : Rat} (hb : 0 ≤ b) (h : a * a ≤ b * b) : a ≤ b := by
  by_cases h' : a ≤ b
  · exact h'
  · have h1 : b < a := by grind
    have h2 := Rat.mul_lt_mul_of_pos_right h1 (show 0 < a by grind)
    have h3 := Rat.mul_le_mul_of_nonneg_left (Rat.le_of_lt h1) hb
    grind
theorem root_nar {a t c u y e : Rat} (ha : 0 < a) (ht : 0 < t) (hu : 0 < u) (he : 4 * u = e) (hs : e * 1024 ≤ 1) (hy : y ≤ t * (u * (1 / 64))) (hy0 : 0 < y) (h1 : Near (t * t - a) (a * (e * (1 / 64)))) (h2 : Near (c - t) (t * u + y)) : Near (c * c - a) (a * e) := by
  have q : (1 / 64 : Rat) * 64 = 1 := by decide +kernel
  have q0 : (0 : Rat) < 1 / 64 := by decide +kernel
  generalize (1 / 64 : Rat) = k at *
  have htu := Rat.mul_pos ht hu
  have hk1 : 64 * y ≤ t * u := by
    have : t * (u * k) * 64 = t * u * (k * 64) := by grind
    rw [q, Rat.mul_one] at this
    grind
  have a1 : c ≤ t + t * u + y := by unfold Near at h2; grind
  have a2 : t - t * u - y ≤ c := by unfold Near at h2; grind
  have hlow : 0 ≤ t - t * u - y := by
    have : t * (e * 1024) ≤ t * 1 := Rat.mul_le_mul_of_nonneg_left hs (Rat.le_of_lt ht)
    subst he
    grind
  have b1 := sq_mono (Rat.le_trans hlow a2) a1
  have b2 := sq_mono hlow a2
  have htt := Rat.mul_pos ht ht
  have httu := Rat.mul_pos htt hu
  have m1 : t * (64 * y) ≤ t * (t * u) := Rat.mul_le_mul_of_nonneg_left hk1 (Rat.le_of_lt ht)
  have m2 : (t * u) * (64 * y) ≤ (t * u) * (t * u) := Rat.mul_le_mul_of_nonneg_left hk1 (Rat.le_of_lt htu)
  have m3 : (64 * y) * (64 * y) ≤ (t * u) * (t * u) := sq_mono (by grind) hk1
  have m4 : (t * t * u) * (e * 1024) ≤ (t * t * u) * 1 := Rat.mul_le_mul_of_nonneg_left hs (Rat.le_of_lt httu)
  have c1 : c * c ≤ t * t + (t * t * u) * 3 := by subst he; grind
  have c2 : t * t - (t * t * u) * 3 ≤ c * c := by
    have : 0 ≤ (t * u + y) * (t * u + y) := Rat.mul_nonneg (by grind) (by grind)
    subst he; grind
  unfold Near at h1
  have hae := Rat.mul_pos ha (show 0 < e by grind)
  have n1 : a * (e * k) * 64 = a * e := by
    have : a * (e * k) * 64 = a * e * (k * 64) := by grind
    rw [this, q, Rat.mul_one]
  have n2 : t * t * u ≤ (a + a * (e * k)) * u := Rat.mul_le_mul_of_nonneg_right (by grind) (Rat.le_of_lt hu)
  have n3 : a * (e * k) * u * 64 = a * e * u := by
    have : a * (e * k) * u * 64 = a * e * u * (k * 64) := by grind
    rw [this, q, Rat.mul_one]
  have n4 : (a * e) * u * 4096 ≤ (a * e) * 1 := by
    have : (a * e) * (e * 1024) ≤ (a * e) * 1 := Rat.mul_le_mul_of_nonneg_left hs (Rat.le_of_lt hae)
    subst he; grind
  unfold Near
  constructor <;> (subst he; grind)
theorem Val.root {x : Nat} {a : Rat} (hx : Val .f32 x a) (h0 : 0 ≤ a) (hm : a ≤ most) : ∃ s, Val .f32 (fcvt .f64 .f32 (fsqrt (fcvt .f32 .f64 x))) s ∧ 0 ≤ s ∧ Near (s * s - a) (a * e22) ∧ fcvtOk .f64 .f32 (fsqrt (fcvt .f32 .f64 x)) = true := by
  have hw := hx.widen
  by_cases hz : a = 0
  · subst hz
    obtain ⟨t, h1, h2, h3⟩ := hw.root64 (.inl rfl)
    have ht : t * t = 0 := by unfold Near at h3; grind
    have ht : t = 0 := by rcases Rat.mul_eq_zero.1 ht with h | h <;> exact h
    subst ht
    obtain ⟨⟨c, h4, h5⟩, h6⟩ := h1.narrow (X := 0) (by unfold Near; grind) (by decide +kernel)
    have hn : c = 0 := by
      by_cases hc : 0 < c
      · have := val_pos h4 hc
        have h7 : tiny .f32 < 1 / 2 ^ 149 := by decide +kernel
        unfold Near at h5; grind
      · by_cases hc : 0 < -c
        · have := val_pos h4.neg hc
          have h7 : tiny .f32 < 1 / 2 ^ 149 := by decide +kernel
          unfold Near at h5; grind
        · grind
    subst hn
    exact ⟨0, h4, by decide, by unfold Near; grind, h6⟩
  · have hp : 0 < a := by grind
    have hl := val_pos hx hp
    obtain ⟨t, h1, h2, h3⟩ := hw.root64 (.inr (by
      have : (1 : Rat) / 2 ^ 200 ≤ 1 / 2 ^ 149 := by decide +kernel
      grind))
    have es : e53 * 16 ≤ 1 := by decide +kernel
    have hae := Rat.mul_le_mul_of_nonneg_left es h0
    have hlow : (1 : Rat) / 2 ^ 76 < t := by
      refine lt_of_sq h2 ?_
      have k : (1 : Rat) / 2 ^ 76 * (1 / 2 ^ 76) * 4 ≤ 1 / 2 ^ 149 := by decide +kernel
      have : (0 : Rat) < 1 / 2 ^ 149 := by decide +kernel
      unfold Near at h3; grind
    have ht : 0 < t := by
      have : (0 : Rat) < 1 / 2 ^ 76 := by decide +kernel
      grind
    have hhi : t ≤ most := by
      refine le_of_sq (by decide +kernel) ?_
      have k : most * 2 ≤ most * most := by decide +kernel
      unfold Near at h3; grind
    obtain ⟨⟨c, h4, h5⟩, h6⟩ := h1.narrow (X := t) (by unfold Near; grind) hhi
    have hurp := ur_pos .f32
    have hy : tiny .f32 ≤ t * (ur .f32 * (1 / 64)) := by
      have k1 : tiny .f32 ≤ 1 / 2 ^ 76 * (ur .f32 * (1 / 64)) := by decide +kernel
      have k2 : (0 : Rat) ≤ ur .f32 * (1 / 64) := by decide +kernel
      have := Rat.mul_le_mul_of_nonneg_right (Rat.le_of_lt hlow) k2
      grind
    have hc0 : 0 ≤ c := by
      have k1 : ur .f32 * 4 ≤ 1 := by decide +kernel
      have k3 : ur .f32 * (1 / 64) * 4 ≤ 1 := by decide +kernel
      have := Rat.mul_le_mul_of_nonneg_left k1 (Rat.le_of_lt ht)
      have := Rat.mul_le_mul_of_nonneg_left k3 (Rat.le_of_lt ht)
      unfold Near at h5; grind
    refine ⟨c, h4, hc0, root_nar hp ht hurp (by rw [Rat.mul_comm]; exact ur32) (by decide +kernel) hy (tiny_pos _) ?_ h5, h6⟩
    refine h3.mono ?_
    have k : 8 * e53 ≤ e22 * (1 / 64) := by decide +kernel
    exact Rat.mul_le_mul_of_nonneg_left k h0
/-! ### Near exact fractions -/
def scl (n : Nat) : Rat := (n : Rat) * (1 / 1152921504606846976)
theorem scl_nonneg (n : Nat) : 0 ≤ scl n := Rat.mul_nonneg Rat.natCast_nonneg (by decide +kernel)
theorem scl_add (a b : Nat) : scl (a + b) = scl a + scl b := by unfold scl; rw [Rat.natCast_add, Rat.add_mul]
theorem scl_mono {a b : Nat} (h : a ≤ b) : scl a ≤ scl b := Rat.mul_le_mul_of_nonneg_right (Rat.natCast_le_natCast.2 h) (by decide +kernel)
theorem scl_mul (a b : Nat) : scl a * scl b ≤ scl (a * b / 1152921504606846976 + 1) := by
  have h := Nat.div_add_mod (a * b) 1152921504606846976
  have h2 := Nat.mod_lt (a * b) (show 0 < 1152921504606846976 by omega)
  have h3 : a * b ≤ (a * b / 1152921504606846976 + 1) * 1152921504606846976 := by omega
  have h4 := Rat.natCast_le_natCast.2 h3
  rw [Rat.natCast_mul, Rat.natCast_mul] at h4
  generalize a * b / 1152921504606846976 + 1 = q at *
  unfold scl
  have e : ((1152921504606846976 : Nat) : Rat) * (1 / 1152921504606846976) = 1 := by decide +kernel
  have p : (0 : Rat) ≤ (1 / 1152921504606846976) * (1 / 1152921504606846976) := by decide +kernel
  have h5 := Rat.mul_le_mul_of_nonneg_right h4 p
  generalize ((1152921504606846976 : Nat) : Rat) = P at *
  generalize (1 / 1152921504606846976 : Rat) = k at *
  have e2 : (q : Rat) * P * (k * k) = (q : Rat) * k * (P * k) := by grind
  rw [e2, e, Rat.mul_one] at h5
  grind
theorem scl_rnd (N : Nat) : scl N * ur .f32 + tiny .f32 ≤ scl (N / 16777216 + 1) := by
  have h := Nat.div_add_mod N 16777216
  have h2 := Nat.mod_lt N (show 0 < 16777216 by omega)
  have h3 : N + 1 ≤ (N / 16777216 + 1) * 16777216 := by omega
  have h4 := Rat.natCast_le_natCast.2 h3
  rw [Rat.natCast_mul, Rat.natCast_add] at h4
  generalize N / 16777216 + 1 = q at *
  unfold scl
  have e : ((16777216 : Nat) : Rat) * ur .f32 = 1 := by decide +kernel
  have p : (0 : Rat) ≤ (1 / 1152921504606846976) * ur .f32 := by decide +kernel
  have t : tiny .f32 ≤ ((1 : Nat) : Rat) * ((1 / 1152921504606846976) * ur .f32) := by decide +kernel
  have h5 := Rat.mul_le_mul_of_nonneg_right h4 p
  generalize ((16777216 : Nat) : Rat) = P at *
  generalize (1 / 1152921504606846976 : Rat) = k at *
  generalize ur .f32 = u at *
  have e2 : (q : Rat) * P * (k * u) = (q : Rat) * k * (P * u) := by grind
  rw [e2, e, Rat.mul_one] at h5
  grind
/-- The word w is a number at most E from X, which is at most B from nought. -/
def Ap (w : Nat) (X : Rat) (B E : Nat) : Prop := ∃ v, Val .f32 w v ∧ Near (v - X) (scl E) ∧ Near X (scl B)
theorem Ap.val {w : Nat} {v : Rat} {B : Nat} (h : Val .f32 w v) (hB : Near v (scl B)) : Ap w v B 0 := ⟨v, h, by unfold Near; have := scl_nonneg 0; grind, hB⟩
theorem Ap.out {w : Nat} {X : Rat} {B E : Nat} (h : Ap w X B E) : ∃ v, Val .f32 w v ∧ Near (v - X) (scl E) ∧ Near v (scl (B + E)) := by
  obtain ⟨v, h1, h2, h3⟩ := h
  refine ⟨v, h1, h2, ?_⟩
  rw [scl_add]
  unfold Near at *
  grind
theorem Ap.congr {w : Nat} {X Y : Rat} {B E : Nat} (h : Ap w X B E) (e : X = Y) : Ap w Y B E := e ▸ h
/-- The number itself is exact. -/
theorem Ap.self {w : Nat} {X : Rat} {B E : Nat} (h : Ap w X B E) : ∃ v, Ap w v (B + E) 0 := by
  obtain ⟨v, h1, _, h3⟩ := h.out
  exact ⟨v, .val h1 h3⟩
def apMost : Nat := 2 ^ 150
theorem scl_most {N : Nat} (h : N ≤ apMost) : scl N ≤ most := Rat.le_trans (scl_mono h) (by decide +kernel)
def addE (B E C F : Nat) : Nat := E + F + ((B + E + (C + F)) / 16777216 + 1)
theorem Ap.add {x y : Nat} {X Y : Rat} {B C E F : Nat} (hx : Ap x X B E) (hy : Ap y Y C F) (hm : B + E + (C + F) ≤ apMost) : Ap (fop .add .f32 x y) (X + Y) (B + C) (addE B E C F) := by
  obtain ⟨a, h1, h2, h3⟩ := hx.out
  obtain ⟨b, h4, h5, h6⟩ := hy.out
  obtain ⟨_, _, _, h7⟩ := hx
  obtain ⟨_, _, _, h8⟩ := hy
  have hs := h3.add h6
  rw [← scl_add] at hs
  obtain ⟨c, k1, k2⟩ := Val.add h1 h4 hs (scl_most hm)
  refine ⟨c, k1, ?_, by rw [scl_add]; exact h7.add h8⟩
  have := scl_rnd (B + E + (C + F))
  unfold addE
  rw [scl_add (E + F), scl_add E F]
  unfold Near at *
  constructor <;> grind
theorem Ap.sub {x y : Nat} {X Y : Rat} {B C E F : Nat} (hx : Ap x X B E) (hy : Ap y Y C F) (hm : B + E + (C + F) ≤ apMost) : Ap (fop .sub .f32 x y) (X - Y) (B + C) (addE B E C F) := by
  obtain ⟨a, h1, h2, h3⟩ := hx.out
  obtain ⟨b, h4, h5, h6⟩ := hy.out
  obtain ⟨_, _, _, h7⟩ := hx
  obtain ⟨_, _, _, h8⟩ := hy
  have hs := h3.sub h6
  rw [← scl_add] at hs
  obtain ⟨c, k1, k2⟩ := Val.sub h1 h4 hs (scl_most hm)
  refine ⟨c, k1, ?_, by rw [scl_add]; exact h7.sub h8⟩
  have := scl_rnd (B + E + (C + F))
  unfold addE
  rw [scl_add (E + F), scl_add E F]
  unfold Near at *
  constructor <;> grind
def mulB (B C : Nat) : Nat := B * C / 1152921504606846976 + 1
def mulE (B E C F : Nat) : Nat := mulB E (C + F) + mulB B F + (mulB (B + E) (C + F) / 16777216 + 1)
theorem Near.mulS {a b : Rat} {A B : Nat} (h : Near a (scl A)) (h' : Near b (scl B)) : Near (a * b) (scl (mulB A B)) := (h.mul h').mono (scl_mul A B)
theorem Ap.mul {x y : Nat} {X Y : Rat} {B C E F : Nat} (hx : Ap x X B E) (hy : Ap y Y C F) (hm : mulB (B + E) (C + F) ≤ apMost) : Ap (fop .mul .f32 x y) (X * Y) (mulB B C) (mulE B E C F) := by
  obtain ⟨a, h1, h2, h3⟩ := hx.out
  obtain ⟨b, h4, h5, h6⟩ := hy.out
  obtain ⟨_, _, _, h7⟩ := hx
  obtain ⟨_, _, _, h8⟩ := hy
  have hs := h3.mulS h6
  obtain ⟨c, k1, k2⟩ := Val.mul h1 h4 hs (scl_most hm)
  refine ⟨c, k1, ?_, h7.mulS h8⟩
  have := scl_rnd (mulB (B + E) (C + F))
  have m1 := h2.mulS h6
  have m2 := h7.mulS h5
  unfold mulE
  rw [scl_add (mulB E (C + F) + mulB B F), scl_add (mulB E (C + F))]
  unfold Near at *
  constructor <;> grind
theorem Ap.neg {x : Nat} {X : Rat} {B E : Nat} (hx : Ap x X B E) : Ap (fneg .f32 x) (-X) B E := by
  obtain ⟨a, h1, h2, h3⟩ := hx
  refine ⟨-a, h1.neg, ?_, h3.neg⟩
  unfold Near at *
  constructor <;> grind
end Go.Fw

/-
  Quarters: numbers that are exact; words told by their values.
-/
namespace Go.Fw
/-- Does the evaluated number have this value? -/
noncomputable def isV (k : FloatKind) (v : V) (q : Rat) : Bool := vgood v && decide (((sg (vlow v) (vmag v) : Int) : Rat) = q * unit k)
theorem Val.of_rep {k : FloatKind} {w : Nat} {v : V} {q : Rat} (hr : Rep k w v) (h : isV k v q = true) : Val k w q := by
  unfold isV at h
  simp only [Bool.and_eq_true, decide_eq_true_eq] at h
  exact ⟨_, rep_val hr h.1, h.2⟩
theorem Val.of_vof {k : FloatKind} {w : Nat} {q : Rat} (h : isV k (vof k w) q = true) : Val k w q := .of_rep (rep_of k w) h
/-- A word of this value is what the table says. -/
theorem Val.rep {k : FloatKind} {w : Nat} {v : V} {q : Rat} (hw : Val k w q) (h : isV k v q = true) : Rep k w v := by
  unfold isV at h
  simp only [Bool.and_eq_true, decide_eq_true_eq] at h
  obtain ⟨n, h1, h2⟩ := hw
  have e : n = sg (vlow v) (vmag v) := Rat.intCast_inj.1 (by rw [h2, h.2])
  subst e
  cases v with
  | bad => cases h.1
  | zero => exact h1
  | num b m s => exact h1
theorem Val.rI_exact {k : FloatKind} {w : Nat} {z m : Int} {a : Rat} {e : Nat} (hz : (z : Rat) = a * unit k) (hm : a * ((2 ^ e : Nat) : Rat) = (m : Rat)) (hm2 : m.natAbs < 2 ^ (fbK k + 1)) (he : e ≤ scK k) (h : (rI k z 1).natAbs < limK k → Fin k w (rI k z 1)) (ha : Near a most) : Val k w a := by
  have hp : (0 : Rat) < ((2 ^ e : Nat) : Rat) := Rat.natCast_pos.2 (Nat.two_pow_pos _)
  have hu : unit k = ((2 ^ e : Nat) : Rat) * ((2 ^ (scK k - e) : Nat) : Rat) := by
    unfold unit
    rw [← Rat.natCast_mul, ← Nat.pow_add, Nat.add_sub_cancel' he]
  have e1 : z = m * ((2 ^ (scK k - e) : Nat) : Int) := by
    apply Rat.intCast_inj.1
    rw [hz, Rat.intCast_mul, ← hm, Rat.intCast_natCast, hu]
    grind
  have hx : rI k z 1 = z := Go.Fw.rI_exact (m := m.natAbs) (p := scK k - e) (by rw [e1, Int.natAbs_mul, Int.natAbs_natCast]) hm2
  have hl := rI_lim (k := k) (z := z) (D := 1) (x := a * unit k) (X := most) (by omega) (by rw [hz]; show _ * ((1 : Nat) : Rat) = _; exact Rat.mul_one _) (by
    unfold Near at *
    have hu := unit_pos k
    have := Rat.mul_le_mul_of_nonneg_right ha.1 (Rat.le_of_lt hu)
    have := Rat.mul_le_mul_of_nonneg_right ha.2 (Rat.le_of_lt hu)
    grind) Rat.le_refl
  have hF := h hl
  rw [hx] at hF
  exact ⟨z, hF, hz⟩
theorem Val.add_exact {k : FloatKind} {x y : Nat} {a b : Rat} {m : Int} {e : Nat} (hx : Val k x a) (hy : Val k y b) (hm : (a + b) * ((2 ^ e : Nat) : Rat) = (m : Rat)) (hm2 : m.natAbs < 2 ^ (fbK k + 1)) (he : e ≤ scK k) (ha : Near (a + b) most) : Val k (fop .add k x y) (a + b) := by
  obtain ⟨n1, h1, h2⟩ := hx
  obtain ⟨n2, h3, h4⟩ := hy
  exact Val.rI_exact (z := n1 + n2) (by rw [Rat.intCast_add, h2, h4]; grind) hm hm2 he (Fin.add h1 h3) ha
theorem Val.sub_exact {k : FloatKind} {x y : Nat} {a b : Rat} {m : Int} {e : Nat} (hx : Val k x a) (hy : Val k y b) (hm : (a - b) * ((2 ^ e : Nat) : Rat) = (m : Rat)) (hm2 : m.natAbs < 2 ^ (fbK k + 1)) (he : e ≤ scK k) (ha : Near (a - b) most) : Val k (fop .sub k x y) (a - b) := by
  obtain ⟨n1, h1, h2⟩ := hx
  obtain ⟨n2, h3, h4⟩ := hy
  exact Val.rI_exact (z := n1 - n2) (by rw [Rat.intCast_sub, h2, h4]; grind) hm hm2 he (Fin.sub h1 h3) ha
/-- The word w is z quarters. -/
def Qt (w : Nat) (z : Int) : Prop := Val .f32 w ((z : Rat) * (1 / 4))
theorem qt4 : (1 / 4 : Rat) * ((2 ^ 2 : Nat) : Rat) = 1 := by decide +kernel
theorem near_most {z : Int} (h : z.natAbs < 2 ^ 24) : Near ((z : Rat) * (1 / 4)) most := by
  have h1 : z ≤ 16777216 := by omega
  have h2 : -16777216 ≤ z := by omega
  have h1 := Rat.intCast_le_intCast.2 h1
  have h2 := Rat.intCast_le_intCast.2 h2
  have k : ((16777216 : Int) : Rat) * (1 / 4) ≤ most := by decide +kernel
  have k2 : ((-16777216 : Int) : Rat) = -((16777216 : Int) : Rat) := by decide +kernel
  rw [k2] at h2
  have q0 : (0 : Rat) ≤ 1 / 4 := by decide +kernel
  have := Rat.mul_le_mul_of_nonneg_right h1 q0
  have := Rat.mul_le_mul_of_nonneg_right h2 q0
  unfold Near
  constructor <;> grind
theorem Qt.add {x y : Nat} {a b : Int} (hx : Qt x a) (hy : Qt y b) (h : (a + b).natAbs < 2 ^ 24) : Qt (fop .add .f32 x y) (a + b) := by
  have := near_most h
  rw [Rat.intCast_add] at this
  have e : ((a + b : Int) : Rat) * (1 / 4) = (a : Rat) * (1 / 4) + (b : Rat) * (1 / 4) := by rw [Rat.intCast_add]; grind
  unfold Qt
  rw [e]
  refine Val.add_exact (e := 2) (m := a + b) hx hy ?_ h (by decide) ?_
  · rw [← e, Rat.mul_assoc, qt4, Rat.mul_one]
  · rw [← e, Rat.intCast_add]; exact this
theorem Qt.sub {x y : Nat} {a b : Int} (hx : Qt x a) (hy : Qt y b) (h : (a - b).natAbs < 2 ^ 24) : Qt (fop .sub .f32 x y) (a - b) := by
  have := near_most h
  rw [Rat.intCast_sub] at this
  have e : ((a - b : Int) : Rat) * (1 / 4) = (a : Rat) * (1 / 4) - (b : Rat) * (1 / 4) := by rw [Rat.intCast_sub]; grind
  unfold Qt
  rw [e]
  refine Val.sub_exact (e := 2) (m := a - b) hx hy ?_ h (by decide) ?_
  · rw [← e, Rat.mul_assoc, qt4, Rat.mul_one]
  · rw [← e, Rat.intCast_sub]; exact this
theorem Qt.near {w : Nat} {z : Int} {n : Nat} (_ : Qt w z) (h : z.natAbs ≤ n) : Near ((z : Rat) * (1 / 4)) (scl (n * 288230376151711744)) := by
  have h1 : z ≤ (n : Int) := by omega
  have h2 : -(n : Int) ≤ z := by omega
  have h1 := Rat.intCast_le_intCast.2 h1
  have h2 := Rat.intCast_le_intCast.2 h2
  rw [Rat.intCast_neg] at h2
  rw [Rat.intCast_natCast] at h1 h2
  have q0 : (0 : Rat) ≤ 1 / 4 := by decide +kernel
  have h1 := Rat.mul_le_mul_of_nonneg_right h1 q0
  have h2 := Rat.mul_le_mul_of_nonneg_right h2 q0
  have e : scl (n * 288230376151711744) = (n : Rat) * (1 / 4) := by
    unfold scl
    rw [Rat.natCast_mul, Rat.mul_assoc]
    congr 1
    decide +kernel
  rw [e]
  unfold Near
  constructor <;> grind
/-- Comparisons of values. -/
theorem forder_lt {k : FloatKind} {x y : Nat} {a b : Rat} (hx : Val k x a) (hy : Val k y b) (h : a < b) : forder k x y = some .lt := by
  obtain ⟨n, h1, h2⟩ := hx
  obtain ⟨m, h3, h4⟩ := hy
  rw [Fin.order h1 h3]
  have : (n : Rat) < (m : Rat) := by rw [h2, h4]; exact Rat.mul_lt_mul_of_pos_right h (unit_pos k)
  have := Rat.intCast_lt_intCast.1 this
  show some (compareOfLessAndEq _ _) = _
  unfold compareOfLessAndEq
  rw [if_pos this]
theorem forder_eq {k : FloatKind} {x y : Nat} {a : Rat} (hx : Val k x a) (hy : Val k y a) : forder k x y = some .eq := by
  obtain ⟨n, h1, h2⟩ := hx
  obtain ⟨m, h3, h4⟩ := hy
  rw [Fin.order h1 h3]
  have e : n = m := Rat.intCast_inj.1 (by rw [h2, h4])
  subst e
  show some (compareOfLessAndEq _ _) = _
  unfold compareOfLessAndEq
  rw [if_neg (Int.lt_irrefl _), if_pos rfl]
theorem forder_gt {k : FloatKind} {x y : Nat} {a b : Rat} (hx : Val k x a) (hy : Val k y b) (h : b < a) : forder k x y = some .gt := by
  obtain ⟨n, h1, h2⟩ := hx
  obtain ⟨m, h3, h4⟩ := hy
  rw [Fin.order h1 h3]
  have : (m : Rat) < (n : Rat) := by rw [h2, h4]; exact Rat.mul_lt_mul_of_pos_right h (unit_pos k)
  have := Rat.intCast_lt_intCast.1 this
  show some (compareOfLessAndEq _ _) = _
  unfold compareOfLessAndEq
  rw [if_neg (by omega), if_neg (by omega)]
/-- The larger of both is one of both. -/
theorem fmax_val {k : FloatKind} {x y : Nat} {a b : Rat} (hx : Val k x a) (hy : Val k y b) : Val k (fmax k x y) (if a ≤ b then b else a) := by
  unfold fmax
  by_cases h1 : a < b
  · rw [forder_lt hx hy h1, if_pos (Rat.le_of_lt h1)]; exact hy
  · by_cases h2 : b < a
    · rw [forder_gt hx hy h2, if_neg (by grind)]; exact hx
    · have e : a = b := by grind
      subst e
      rw [forder_eq hx hy, if_pos Rat.le_refl]
      simp only
      split <;> assumption
end Go.Fw

/-
  Quotients as fractions; numbers that are not below nought.
-/
namespace Go.Fw
theorem sign_natAbs (m : Int) : m.sign * m = (m.natAbs : Int) := by
  rcases Int.lt_trichotomy m 0 with h | h | h
  · rw [Int.sign_eq_neg_one_of_neg h]; omega
  · subst h; rfl
  · rw [Int.sign_eq_one_of_pos h]; omega
theorem Val.quo {k : FloatKind} {x y : Nat} {a b X : Rat} (hx : Val k x a) (hy : Val k y b) (hb : b ≠ 0) (hX : Near (a / b) X) (hm : X ≤ most) : ∃ c, Val k (fop .quo k x y) c ∧ Near (c - a / b) (X * ur k + tiny k) := by
  obtain ⟨n, h1, h2⟩ := hx
  obtain ⟨m, h3, h4⟩ := hy
  have hu := unit_pos k
  have hm0 : m ≠ 0 := fun e => by
    subst e
    have : b * unit k = 0 := by rw [← h4]; rfl
    rcases Rat.mul_eq_zero.1 this with h | h
    · exact hb h
    · grind
  have key : a / b * unit k * ((m.natAbs : Nat) : Rat) = ((n * m.sign * ((2 ^ scK k : Nat) : Int) : Int) : Rat) := by
    have e1 : ((m.natAbs : Nat) : Rat) = (m.sign : Rat) * (m : Rat) := by
      rw [← Rat.intCast_natCast, ← Rat.intCast_mul, sign_natAbs]
    rw [e1, Rat.intCast_mul, Rat.intCast_mul, Rat.intCast_natCast, h2, h4]
    have e2 : a / b * b = a := Rat.div_mul_cancel hb
    show a / b * unit k * ((m.sign : Rat) * (b * unit k)) = a * unit k * (m.sign : Rat) * unit k
    have : a / b * unit k * ((m.sign : Rat) * (b * unit k)) = (a / b * b) * unit k * (m.sign : Rat) * unit k := by grind
    rw [this, e2]
  exact rI_val (D := m.natAbs) (by omega) key hX hm (Fin.quo h1 h3 hm0)
/-- A number that is hardly below nought is not. -/
theorem val_nonneg {w : Nat} {a : Rat} (h : Val .f32 w a) (h0 : -tiny .f32 ≤ a) : 0 ≤ a := by
  by_cases hc : 0 < -a
  · have := val_pos h.neg hc
    have h7 : tiny .f32 < 1 / 2 ^ 149 := by decide +kernel
    grind
  · grind
theorem ur32_small : ur .f32 * 1024 ≤ 1 := by decide +kernel
theorem ur_le_one {X : Rat} (h : 0 ≤ X) : X * ur .f32 ≤ X := by
  have := Rat.mul_le_mul_of_nonneg_left (show ur .f32 ≤ 1 by decide +kernel) h
  grind
theorem Val.sq {x : Nat} {a : Rat} (hx : Val .f32 x a) (hm : a * a ≤ most) : ∃ c, Val .f32 (fop .mul .f32 x x) c ∧ 0 ≤ c ∧ Near (c - a * a) (a * a * ur .f32 + tiny .f32) := by
  have h0 : 0 ≤ a * a := by
    by_cases h : 0 ≤ a
    · exact Rat.mul_nonneg h h
    · have := Rat.mul_nonneg (show 0 ≤ -a by grind) (show 0 ≤ -a by grind); grind
  obtain ⟨c, h1, h2⟩ := hx.mul hx (X := a * a) (by unfold Near; grind) hm
  refine ⟨c, h1, val_nonneg h1 ?_, h2⟩
  have := ur_le_one h0
  unfold Near at h2; grind
theorem Val.addp {x y : Nat} {a b : Rat} (hx : Val .f32 x a) (hy : Val .f32 y b) (ha : 0 ≤ a) (hb : 0 ≤ b) (hm : a + b ≤ most) : ∃ c, Val .f32 (fop .add .f32 x y) c ∧ 0 ≤ c ∧ Near (c - (a + b)) ((a + b) * ur .f32 + tiny .f32) := by
  have h0 : 0 ≤ a + b := by grind
  obtain ⟨c, h1, h2⟩ := hx.add hy (X := a + b) (by unfold Near; grind) hm
  refine ⟨c, h1, val_nonneg h1 ?_, h2⟩
  have := ur_le_one h0
  unfold Near at h2; grind
theorem sqn (t : Rat) : 0 ≤ t * t := by
  by_cases h : 0 ≤ t
  · exact Rat.mul_nonneg h h
  · have := Rat.mul_nonneg (show 0 ≤ -t by grind) (show 0 ≤ -t by grind); grind
/-- A factor of which 1024 are less than one. -/
theorem small_mul {T u : Rat} (hT : 0 ≤ T) (hu : 0 < u) (hu2 : u * 1024 ≤ 1) : 0 ≤ T * u ∧ T * u * 1024 ≤ T := by
  have a1 := Rat.mul_nonneg hT (Rat.le_of_lt hu)
  have b1 : T * (u * 1024) ≤ T * 1 := Rat.mul_le_mul_of_nonneg_left hu2 hT
  constructor <;> grind
theorem add_arith {X Y p q s u t E F : Rat} (hX : 0 ≤ X) (hY : 0 ≤ Y) (hu : 0 < u) (hu2 : u * 1024 ≤ 1) (hE : 0 ≤ E) (hF : 0 ≤ F) (p3 : Near (p - X) E) (q3 : Near (q - Y) F) (s3 : Near (s - (p + q)) ((p + q) * u + t)) : Near (s - (X + Y)) ((X + Y) * u + (E + F) * 2 + t) := by
  have n1 : (p + q) * u ≤ (X + E + (Y + F)) * u := Rat.mul_le_mul_of_nonneg_right (by unfold Near at p3 q3; grind) (Rat.le_of_lt hu)
  have a1 := (small_mul hE hu hu2).2
  have a2 := (small_mul hF hu hu2).2
  unfold Near at *
  constructor <;> grind
/-- The root of a sum of three squares. -/
theorem long_core {a b c : Nat} {x y z : Rat} (ha : Val .f32 a x) (hb : Val .f32 b y) (hc : Val .f32 c z) {A : Rat} (hA : A = x * x + y * y + z * z) (hm : A * 4 ≤ most) :
    ∃ i, Val .f32 (fop .add .f32 (fop .add .f32 (fop .mul .f32 a a) (fop .mul .f32 b b)) (fop .mul .f32 c c)) i ∧ 0 ≤ i ∧ Near (i - A) (A * (2 * e22) + 16 * tiny .f32) := by
  have hx := sqn x
  have hy := sqn y
  have hz := sqn z
  have hu := ur_pos .f32
  have hu2 := ur32_small
  have ht := tiny_pos .f32
  have htm : tiny .f32 * 1024 ≤ most := by decide +kernel
  obtain ⟨p, p1, p2, p3⟩ := ha.sq (by grind)
  obtain ⟨q, q1, q2, q3⟩ := hb.sq (by grind)
  obtain ⟨r, r1, r2, r3⟩ := hc.sq (by grind)
  have kX := small_mul hx hu hu2
  have kY := small_mul hy hu hu2
  have kZ := small_mul hz hu hu2
  obtain ⟨s, s1, s2, s3⟩ := p1.addp q1 p2 q2 (by unfold Near at p3 q3; grind)
  have e1 := add_arith hx hy hu hu2 (show 0 ≤ x * x * ur .f32 + tiny .f32 by grind) (show 0 ≤ y * y * ur .f32 + tiny .f32 by grind) p3 q3 s3
  obtain ⟨i, i1, i2, i3⟩ := s1.addp r1 s2 r2 (by unfold Near at e1 r3; grind)
  have e2 := add_arith (X := x * x + y * y) (by grind) hz hu hu2 (show 0 ≤ (x * x + y * y) * ur .f32 + (x * x * ur .f32 + tiny .f32 + (y * y * ur .f32 + tiny .f32)) * 2 + tiny .f32 by grind) (show 0 ≤ z * z * ur .f32 + tiny .f32 by grind) e1 r3 i3
  refine ⟨i, i1, i2, ?_⟩
  have h4 : ur .f32 * 4 = e22 := ur32
  subst hA
  rw [← h4]
  unfold Near at *
  constructor <;> grind
theorem long_val {a b c : Nat} {x y z : Rat} (ha : Val .f32 a x) (hb : Val .f32 b y) (hc : Val .f32 c z) {A : Rat} (hA : A = x * x + y * y + z * z) (hm : A * 4 ≤ most) :
    ∃ l, Val .f32 (fcvt .f64 .f32 (fsqrt (fcvt .f32 .f64 (fop .add .f32 (fop .add .f32 (fop .mul .f32 a a) (fop .mul .f32 b b)) (fop .mul .f32 c c))))) l ∧ 0 ≤ l ∧ Near (l * l - A) (A * (4 * e22) + 32 * tiny .f32) := by
  obtain ⟨i, h1, h2, h3⟩ := long_core ha hb hc hA hm
  have hA0 : 0 ≤ A := by
    have := sqn x; have := sqn y; have := sqn z; grind
  have he := e22_pos
  have he1 : e22 * 1024 ≤ 1 := by decide +kernel
  have htm : tiny .f32 * 1024 ≤ most := by decide +kernel
  have ht := tiny_pos .f32
  have k1 : A * (e22 * 1024) ≤ A * 1 := Rat.mul_le_mul_of_nonneg_left he1 hA0
  have k0 := Rat.mul_nonneg hA0 (Rat.le_of_lt he)
  have k2 : A * e22 * (e22 * 1024) ≤ A * e22 * 1 := Rat.mul_le_mul_of_nonneg_left he1 k0
  have tu : tiny .f32 * (e22 * 1024) ≤ tiny .f32 * 1 := Rat.mul_le_mul_of_nonneg_left he1 (Rat.le_of_lt ht)
  obtain ⟨l, l1, l2, l3, _⟩ := h1.root h2 (by unfold Near at h3; grind)
  refine ⟨l, l1, l2, ?_⟩
  have n1 : i * e22 ≤ (A + A * (2 * e22) + 16 * tiny .f32) * e22 := Rat.mul_le_mul_of_nonneg_right (by unfold Near at h3; grind) (Rat.le_of_lt he)
  unfold Near at *
  constructor <;> grind
/-- One, as a bound. -/
def b1 : Nat := 1152921504606846976
end Go.Fw

/-
  The sine of turns, evaluated by the kernel.
-/
namespace Go.Fw
open Ieee (Datum Format Toward signed)
noncomputable def vifO (o : Option Ordering) (t : Ordering → Bool) (x y : V) : V := Option.rec V.bad (fun o => Bool.rec y x (t o)) o
noncomputable def oLt (o : Ordering) : Bool := Ordering.rec true false false o
noncomputable def oGt (o : Ordering) : Bool := Ordering.rec false false true o
noncomputable def oGe (o : Ordering) : Bool := Ordering.rec false true true o
theorem rep_ifO {k l : FloatKind} {x y p q : Nat} {X Y P Q : V} {t : Ordering → Bool} {c : Bool} (hx : Rep l x X) (hy : Rep l y Y) (hp : Rep k p P) (hq : Rep k q Q) (hc : ∀ o, forder l x y = some o → c = t o) : Rep k (bif c then p else q) (vifO (vcmp X Y) t P Q) := by
  cases h : vcmp X Y with
  | none => trivial
  | some o =>
    rw [hc o (rep_cmp hx hy h)]
    show Rep k _ (Bool.rec Q P (t o))
    cases t o
    · exact hq
    · exact hp
theorem rep_leF {k : FloatKind} {x y p q : Nat} {X Y P Q : V} (hx : Rep .f64 x X) (hy : Rep .f64 y Y) (hp : Rep k p P) (hq : Rep k q Q) : Rep k (bif leF x y then p else q) (vifO (vcmp X Y) oLt P Q) :=
  rep_ifO hx hy hp hq fun o h => by unfold leF; rw [h]; cases o <;> rfl
theorem rep_geF {k : FloatKind} {x y p q : Nat} {X Y P Q : V} (hx : Rep .f64 x X) (hy : Rep .f64 y Y) (hp : Rep k p P) (hq : Rep k q Q) : Rep k (bif geF x y then p else q) (vifO (vcmp X Y) oGe P Q) :=
  rep_ifO hx hy hp hq fun o h => by unfold geF; rw [h]; cases o <;> rfl
theorem rep_gtF {k : FloatKind} {x y p q : Nat} {X Y P Q : V} (hx : Rep .f64 x X) (hy : Rep .f64 y Y) (hp : Rep k p P) (hq : Rep k q Q) : Rep k (bif gtF x y then p else q) (vifO (vcmp X Y) oGt P Q) :=
  rep_ifO hx hy hp hq fun o h => by unfold gtF; rw [h]; cases o <;> rfl
noncomputable def v1f : V := V.num false 4503599627370496 1022
noncomputable def vhalf : V := V.num false 4503599627370496 1021
noncomputable def vquart : V := V.num false 4503599627370496 1020
noncomputable def vtau : V := V.num false 7074237752028440 1024
theorem rep_of' {k : FloatKind} {w : Nat} {v : V} (h : vof k w = v) : Rep k w v := by rw [← h]; exact rep_of _ _
theorem rep_1f : Rep .f64 c1f v1f := rep_of' (by kernel_rfl)
theorem rep_half : Rep .f64 chalf vhalf := rep_of' (by kernel_rfl)
theorem rep_quart : Rep .f64 cquart vquart := rep_of' (by kernel_rfl)
theorem rep_tau : Rep .f64 ctau vtau := rep_of' (by kernel_rfl)
theorem rep_0w : Rep .f64 (can .f64 0) .zero := rep_of' (by kernel_rfl)
noncomputable def vden (j : Nat) : V := [V.num false 4785074604081152 1030, V.num false 7388718138654720 1029, V.num false 5488762045857792 1029, V.num false 7740561859543040 1028, V.num false 5066549580791808 1028, V.num false 5910974510923776 1027, V.num false 5629499534213120 1026, V.num false 6755399441055744 1024].getD j V.bad
theorem rep_den (j : Nat) : Rep .f64 (den j) (vden j) := by
  by_cases h : j < 8
  · match j, h with
    | 0, _ => exact rep_of' (by kernel_rfl)
    | 1, _ => exact rep_of' (by kernel_rfl)
    | 2, _ => exact rep_of' (by kernel_rfl)
    | 3, _ => exact rep_of' (by kernel_rfl)
    | 4, _ => exact rep_of' (by kernel_rfl)
    | 5, _ => exact rep_of' (by kernel_rfl)
    | 6, _ => exact rep_of' (by kernel_rfl)
    | 7, _ => exact rep_of' (by kernel_rfl)
    | j + 8, h => exact absurd h (by omega)
  · have : vden j = V.bad := by
      unfold vden
      simp [List.getD, show ¬ j < 8 from h]
    rw [this]; trivial
noncomputable def vsp (u : V) (k : Nat) : V := Nat.rec v1f (fun j p => wsub v1f (wquo (wmul u p) (vden j))) k
theorem rep_sp {u : Nat} {U : V} (hu : Rep .f64 u U) : ∀ k, Rep .f64 (sp u k) (vsp U k)
  | 0 => rep_1f
  | k + 1 => rep_wsub rep_1f (rep_wquo (rep_wmul hu (rep_sp hu k)) (rep_den k))
noncomputable def vsF1 (f : V) : V := vifO (vcmp f V.zero) oLt (wadd f v1f) f
noncomputable def vsF2 (f : V) : V := vifO (vcmp f vhalf) oGe (wsub f vhalf) f
noncomputable def vsF3 (f : V) : V := vifO (vcmp f vquart) oGt (wsub vhalf f) f
noncomputable def vsP (z : V) : V := wmul z (vsp (wmul z z) 8)
noncomputable def vsT (f : V) : V := vifO (vcmp (vsF1 f) vhalf) oGe (vneg (vsP (wmul (vsF3 (vsF2 (vsF1 f))) vtau))) (vsP (wmul (vsF3 (vsF2 (vsF1 f))) vtau))
section
variable {f : Nat} {F : V} (h : Rep .f64 f F)
include h
theorem rep_sF1 : Rep .f64 (sineF1 f) (vsF1 F) := rep_leF h rep_0w (rep_wadd h rep_1f) h
theorem rep_sF2 : Rep .f64 (sineF2 f) (vsF2 F) := rep_geF h rep_half (rep_wsub h rep_half) h
theorem rep_sF3 : Rep .f64 (sineF3 f) (vsF3 F) := rep_gtF h rep_quart (rep_wsub rep_half h) h
theorem rep_sP : Rep .f64 (sineP f) (vsP F) := rep_wmul h (rep_sp (rep_wmul h h) 8)
end
theorem rep_sT {f : Nat} {F : V} (h : Rep .f64 f F) : Rep .f64 (sineT f) (vsT F) :=
  have h1 := rep_sF1 h
  have h3 := rep_sP (rep_wmul (rep_sF3 (rep_sF2 h1)) rep_tau)
  rep_geF h1 rep_half (rep_neg h3) h3
/-- The sine of a word's turns, narrowed. -/
noncomputable def vsine (y : Nat) : V := Bool.rec V.bad (vnarrow (vsT (wsub (vof .f64 y) (vof .f64 (fofInt .f64 (ftoInt .f64 y .i64)))))) (num .f64 y && !bigF y)
theorem rep_sine (y : Nat) : Rep .f32 (fcvt .f64 .f32 (sineW y)) (vsine y) := by
  unfold vsine
  cases h : (num .f64 y && !bigF y)
  · trivial
  · rw [Bool.and_eq_true, Bool.not_eq_true'] at h
    have e : sineW y = sineT (fracF y) := by unfold sineW; rw [h.1, h.2]; rfl
    rw [e]
    exact rep_narrow (rep_sT (rep_wsub (rep_of _ _) (rep_of _ _)))
end Go.Fw

/-
  What a segment makes, in proportion: quotients and products of numbers that are known but for a share.
-/
namespace Go.Fw
end Go.Fw

/-
  Inner products, cross products and lengths of vectors that are known nearly; what a segment makes, number by number.
-/
namespace Go.Fw
end Go.Fw

/-
  What a segment makes at a place, where both are turned around Z, nearly.
-/
namespace Go.Fw
def nabs (x : Rat) : Rat := if 0 ≤ x then x else -x
theorem nabs_pos (x : Rat) : 0 ≤ nabs x := by unfold nabs; split <;> grind
theorem nabs_sq (x : Rat) : nabs x * nabs x = x * x := by unfold nabs; split <;> grind
theorem nabs_near (x : Rat) : Near x (nabs x) := by unfold nabs Near; split <;> constructor <;> grind
def u17 : Rat := 17 * ur .f32
def uu (n : Rat) : Rat := n * ur .f32
/-- a, b, c: a vector that is turned by C, S, nearly. -/
structure Turned (C S r1 r2 r3 a b c : Rat) : Prop where
  h1 : Near (a - (C * r1 - S * r2)) u17
  h2 : Near (b - (S * r1 + C * r2)) u17
  h3 : c = r3
section
variable {C S : Rat} (hC : Near (C * C + S * S - 1) (2 * ur .f32))
include hC
variable {r1 r2 r3 a b c X : Rat} (hT : Turned C S r1 r2 r3 a b c)
include hT
end
end Go.Fw

/-
  What a segment makes at a place, where both are turned around Z, nearly: the numbers.
-/
namespace Go.Fw
section
variable {C S : Rat} (hC : Near (C * C + S * S - 1) (2 * ur .f32))
variable {r1 r2 r3 a b c X : Rat} (hT : Turned C S r1 r2 r3 a b c) (X1 : 149 / 100 ≤ X) (hX : Near (r1 * r1 + r2 * r2 + r3 * r3 - X * X) (uu 17 * (X * X)))
variable {s1 s2 s3 x y z Y : Rat} (hU : Turned C S s1 s2 s3 x y z) (Y1 : 149 / 100 ≤ Y) (hY : Near (s1 * s1 + s2 * s2 + s3 * s3 - Y * Y) (uu 17 * (Y * Y)))
include hX X1
include hC hT hU hY Y1
end
end Go.Fw

/-
  What a segment makes at a place, where both are turned around Z, nearly: all three numbers.
-/
namespace Go.Fw
end Go.Fw

/-
  What a segment of a ring makes at a place above it: bounds.
-/
namespace Go.Fw
end Go.Fw

/-
  Operations turned round: products and sums don't care, differences change their sign; sums of many; doubled numbers.
-/
namespace Go.Fw
open Ieee (Datum Format Toward signed)
/-! ### Sums of many -/
def rsum (f : Nat → Rat) : Nat → Rat
  | 0 => 0
  | k + 1 => rsum f k + f k
theorem rsum_shift (f : Nat → Rat) : ∀ k, rsum f (k + 1) = f 0 + rsum (fun j => f (j + 1)) k
  | 0 => by show 0 + f 0 = f 0 + 0; grind
  | k + 1 => by
    show rsum f (k + 1) + f (k + 1) = f 0 + (rsum (fun j => f (j + 1)) k + f (k + 1))
    rw [rsum_shift f k]; grind
theorem rsum_congr {f g : Nat → Rat} : ∀ k, (∀ j, j < k → f j = g j) → rsum f k = rsum g k
  | 0, _ => rfl
  | k + 1, h => by
    show rsum f k + f k = rsum g k + g k
    rw [rsum_congr k fun j hj => h j (by omega), h k (by omega)]
theorem rsum_rev (f : Nat → Rat) : ∀ k, rsum (fun j => f (k - 1 - j)) k = rsum f k
  | 0 => rfl
  | k + 1 => by
    rw [rsum_shift (fun j => f (k + 1 - 1 - j)) k]
    have : rsum (fun j => f (k + 1 - 1 - (j + 1))) k = rsum (fun j => f (k - 1 - j)) k := rsum_congr k fun j hj => by
      show f _ = f _
      congr 1; omega
    rw [this, rsum_rev f k]
    show f k + rsum f k = rsum f k + f k
    grind
theorem rsum_near {f : Nat → Rat} {B : Rat} : ∀ k, (∀ j, j < k → Near (f j) B) → Near (rsum f k) ((k : Rat) * B)
  | 0, _ => by
    show Near 0 (((0 : Nat) : Rat) * B)
    rw [show ((0 : Nat) : Rat) = 0 from rfl, Rat.zero_mul]
    exact Near.zero (Rat.le_refl)
  | k + 1, h => by
    have := (rsum_near k fun j hj => h j (by omega)).add (h k (by omega))
    have e : ((k + 1 : Nat) : Rat) * B = (k : Rat) * B + B := by rw [Rat.natCast_add, show ((1 : Nat) : Rat) = 1 from rfl, Rat.add_mul, Rat.one_mul]
    rw [e]
    exact this
/-- The error of a sum of at most 12 numbers. -/
def eta (B : Rat) : Rat := (14 * B) * ur .f32 + tiny .f32
theorem sum_val {s t : Nat → Nat} {f : Nat → Rat} {B : Rat} {n : Nat} (h0 : Val .f32 (s 0) 0) (hs : ∀ k, s (k + 1) = fop .add .f32 (s k) (t k)) (ht : ∀ k, k < n → Val .f32 (t k) (f k)) (hf : ∀ k, k < n → Near (f k) B) (hn : n ≤ 12) (B0 : 1 ≤ B) (B9 : B ≤ 64) :
    ∀ k, k ≤ n → ∃ v, Val .f32 (s k) v ∧ Near (v - rsum f k) ((k : Rat) * eta B)
  | 0, _ => ⟨0, h0, by
    show Near (0 - 0) (((0 : Nat) : Rat) * eta B)
    rw [show ((0 : Nat) : Rat) = 0 from rfl, Rat.zero_mul]
    exact Near.mono (Near.zero (Rat.le_refl)) (Rat.le_refl) |> fun h => by rw [show (0 : Rat) - 0 = 0 by grind]; exact h⟩
  | k + 1, hk => by
    obtain ⟨v, v1, v2⟩ := sum_val h0 hs ht hf hn B0 B9 k (by omega)
    have r := rsum_near k fun j hj => hf j (by omega)
    have k12 : (k : Rat) ≤ 12 := by
      have := Rat.natCast_le_natCast.2 (show k ≤ 12 by omega)
      exact this
    have k0 : (0 : Rat) ≤ (k : Rat) := Rat.natCast_nonneg
    have u0 := ur_pos .f32
    have t0 := tiny_pos .f32
    have e0 : 0 ≤ eta B := by
      unfold eta
      have := Rat.mul_nonneg (show 0 ≤ 14 * B by grind) (Rat.le_of_lt u0)
      grind
    have e1 : 12 * eta B ≤ 1 := by
      unfold eta
      have := Rat.mul_le_mul_of_nonneg_right (show 14 * B ≤ 14 * 64 by grind) (Rat.le_of_lt u0)
      have k2 : 12 * ((14 * 64) * ur .f32 + tiny .f32) ≤ 1 := by decide +kernel
      grind
    have kB := Rat.mul_le_mul_of_nonneg_right k12 (show 0 ≤ B by grind)
    have ke := Rat.mul_le_mul_of_nonneg_right k12 e0
    have hX : Near (v + f k) (14 * B) := by
      have := hf k (by omega)
      unfold Near at *
      constructor <;> grind
    obtain ⟨c, c1, c2⟩ := v1.add (ht k (by omega)) hX (by
      have : (14 * 64 : Rat) ≤ most := by decide +kernel
      grind)
    rw [hs]
    refine ⟨c, c1, ?_⟩
    have e : ((k + 1 : Nat) : Rat) * eta B = (k : Rat) * eta B + eta B := by rw [Rat.natCast_add, show ((1 : Nat) : Rat) = 1 from rfl, Rat.add_mul, Rat.one_mul]
    rw [e]
    show Near (c - (rsum f k + f k)) _
    have : eta B = 14 * B * ur .f32 + tiny .f32 := rfl
    unfold Near at *
    constructor <;> grind
/-! ### Numbers twice as great -/
theorem rq_double (fb A : Nat) : rq fb (A * 2 ^ 1) 1 = rq fb A 1 * 2 ^ 1 := by
  by_cases h : 2 ^ fb ≤ A / 1
  · exact rq_up (by decide) h
  · rw [Nat.div_one] at h
    have h1 := rq_exact (fb := fb) (m := A) (p := 1) (by rw [Nat.pow_succ]; omega)
    have h2 := rq_exact (fb := fb) (m := A) (p := 0) (by rw [Nat.pow_succ]; omega)
    rw [Nat.pow_zero, Nat.mul_one] at h2
    rw [h1, h2]
theorem rI_double (k : FloatKind) (z : Int) : rI k (2 * z) 1 = 2 * rI k z 1 := by
  by_cases h : z = 0
  · subst h; rw [Int.mul_zero, rI_0]; rfl
  · unfold rI
    have e : (2 * z).natAbs = z.natAbs * 2 ^ 1 := by rw [Int.natAbs_mul]; show 2 * _ = _ * 2; omega
    rw [e, rq_double]
    have d : decide (2 * z < 0) = decide (z < 0) := by
      by_cases hz : z < 0
      · rw [decide_eq_true hz, decide_eq_true (by omega)]
      · rw [decide_eq_false hz, decide_eq_false (by omega)]
    rw [d]
    unfold sg
    split <;> simp <;> omega
/-- 2 ^ m is a factor, in least units. -/
def Gr (m w : Nat) : Prop := ∃ n : Int, Fin .f32 w (n * (2 ^ m : Nat))
theorem rq_fac (fb a m : Nat) : ∃ b, rq fb (a * 2 ^ m) 1 = b * 2 ^ m := by
  unfold rq
  generalize rqS fb (a * 2 ^ m) 1 = S
  rw [Nat.one_mul]
  by_cases h : m ≤ S
  · refine ⟨rqN (a * 2 ^ m) (2 ^ S) * 2 ^ (S - m), ?_⟩
    rw [Nat.mul_assoc, ← Nat.pow_add, Nat.sub_add_cancel h]
  · refine ⟨a, ?_⟩
    have e : a * 2 ^ m = (a * 2 ^ (m - S)) * 2 ^ S := by rw [Nat.mul_assoc, ← Nat.pow_add, Nat.sub_add_cancel (by omega)]
    rw [e, rqN_exact (Nat.two_pow_pos _)]
theorem rI_fac (z : Int) (m : Nat) : ∃ b : Int, rI .f32 (z * (2 ^ m : Nat)) 1 = b * (2 ^ m : Nat) := by
  unfold rI
  rw [Int.natAbs_mul, Int.natAbs_natCast]
  obtain ⟨b, hb⟩ := rq_fac (fbK .f32) z.natAbs m
  rw [hb]
  refine ⟨sg (decide (z * (2 ^ m : Nat) < 0)) b, ?_⟩
  unfold sg
  split <;> simp [Int.neg_mul]
theorem Gr.of_fin {m w : Nat} {n z : Int} (h : Fin .f32 w n) (e : n = z * (2 ^ m : Nat)) : Gr m w := ⟨z, e ▸ h⟩
theorem Gr.add {m x y : Nat} {a b X : Rat} (hx : Gr m x) (hy : Gr m y) (ha : Val .f32 x a) (hb : Val .f32 y b) (hX : Near (a + b) X) (hm : X ≤ most) : Gr m (fop .add .f32 x y) := by
  obtain ⟨n, h1⟩ := hx
  obtain ⟨k, h2⟩ := hy
  obtain ⟨p, p1, p2⟩ := ha
  obtain ⟨q, q1, q2⟩ := hb
  obtain rfl := h1.unique p1
  obtain rfl := h2.unique q1
  have u0 := unit_pos .f32
  have e : ((n * (2 ^ m : Nat) + k * (2 ^ m : Nat) : Int) : Rat) = (a + b) * unit .f32 := by rw [Rat.intCast_add, p2, q2]; grind
  have hN : Near (((n * (2 ^ m : Nat) + k * (2 ^ m : Nat) : Int) : Rat)) (X * unit .f32) := by
    rw [e]
    unfold Near at *
    have h1 := Rat.mul_le_mul_of_nonneg_right hX.1 (Rat.le_of_lt u0)
    have h2 := Rat.mul_le_mul_of_nonneg_right hX.2 (Rat.le_of_lt u0)
    constructor <;> grind
  have l := rI_lim (D := 1) (by decide) (by rw [show (((1 : Nat)) : Rat) = 1 from rfl, Rat.mul_one]) hN hm
  have f := Fin.add h1 h2 l
  rw [← Int.add_mul] at f
  obtain ⟨b, hb⟩ := rI_fac (n + k) m
  exact .of_fin f hb
theorem Gr.sub {m x y : Nat} {a b X : Rat} (hx : Gr m x) (hy : Gr m y) (ha : Val .f32 x a) (hb : Val .f32 y b) (hX : Near (a - b) X) (hm : X ≤ most) : Gr m (fop .sub .f32 x y) := by
  obtain ⟨n, h1⟩ := hx
  obtain ⟨k, h2⟩ := hy
  obtain ⟨p, p1, p2⟩ := ha
  obtain ⟨q, q1, q2⟩ := hb
  obtain rfl := h1.unique p1
  obtain rfl := h2.unique q1
  have u0 := unit_pos .f32
  have e : ((n * (2 ^ m : Nat) - k * (2 ^ m : Nat) : Int) : Rat) = (a - b) * unit .f32 := by rw [Rat.intCast_sub, p2, q2]; grind
  have hN : Near (((n * (2 ^ m : Nat) - k * (2 ^ m : Nat) : Int) : Rat)) (X * unit .f32) := by
    rw [e]
    unfold Near at *
    have h1 := Rat.mul_le_mul_of_nonneg_right hX.1 (Rat.le_of_lt u0)
    have h2 := Rat.mul_le_mul_of_nonneg_right hX.2 (Rat.le_of_lt u0)
    constructor <;> grind
  have l := rI_lim (D := 1) (by decide) (by rw [show (((1 : Nat)) : Rat) = 1 from rfl, Rat.mul_one]) hN hm
  have f := Fin.sub h1 h2 l
  rw [← Int.sub_mul] at f
  obtain ⟨b, hb⟩ := rI_fac (n - k) m
  exact .of_fin f hb
theorem Gr.mul {m l j x y : Nat} {a b X : Rat} (hx : Gr m x) (hy : Gr l y) (hj : m + l = 149 + j) (ha : Val .f32 x a) (hb : Val .f32 y b) (hX : Near (a * b) X) (hm : X ≤ most) : Gr j (fop .mul .f32 x y) := by
  obtain ⟨n, h1⟩ := hx
  obtain ⟨k, h2⟩ := hy
  obtain ⟨p, p1, p2⟩ := ha
  obtain ⟨q, q1, q2⟩ := hb
  obtain rfl := h1.unique p1
  obtain rfl := h2.unique q1
  have u0 := unit_pos .f32
  have eu : (((2 ^ scK .f32 : Nat)) : Rat) = unit .f32 := rfl
  have e : (a * b * unit .f32) * (((2 ^ scK .f32 : Nat)) : Rat) = ((n * (2 ^ m : Nat) * (k * (2 ^ l : Nat)) : Int) : Rat) := by rw [eu, Rat.intCast_mul, p2, q2]; grind
  have hN : Near (a * b * unit .f32) (X * unit .f32) := by
    unfold Near at *
    have h1 := Rat.mul_le_mul_of_nonneg_right hX.1 (Rat.le_of_lt u0)
    have h2 := Rat.mul_le_mul_of_nonneg_right hX.2 (Rat.le_of_lt u0)
    constructor <;> grind
  have lm := rI_lim (D := 2 ^ scK .f32) (Nat.two_pow_pos _) e hN hm
  have f := Fin.mul h1 h2 lm
  have sc : scK .f32 = 149 := rfl
  have e2 : n * (2 ^ m : Nat) * (k * (2 ^ l : Nat)) = (n * k * (2 ^ j : Nat)) * ((2 ^ scK .f32 : Nat) : Int) := by
    rw [sc]
    have : ((2 ^ m : Nat) : Int) * ((2 ^ l : Nat) : Int) = ((2 ^ j : Nat) : Int) * ((2 ^ 149 : Nat) : Int) := by
      rw [← Int.natCast_mul, ← Int.natCast_mul, ← Nat.pow_add, ← Nat.pow_add, hj, Nat.add_comm]
    calc n * (2 ^ m : Nat) * (k * (2 ^ l : Nat)) = n * k * (((2 ^ m : Nat) : Int) * ((2 ^ l : Nat) : Int)) := by
          rw [Int.mul_assoc, Int.mul_assoc, Int.mul_left_comm ((2 ^ m : Nat) : Int)]
      _ = n * k * ((2 ^ j : Nat) : Int) * ((2 ^ 149 : Nat) : Int) := by rw [this, ← Int.mul_assoc]
  have e3 : rI .f32 (n * (2 ^ m : Nat) * (k * (2 ^ l : Nat))) (2 ^ scK .f32) = rI .f32 (n * k * (2 ^ j : Nat)) 1 := by
    rw [e2]
    unfold rI
    have np : (0 : Int) < ((2 ^ scK .f32 : Nat) : Int) := by
      have := Nat.two_pow_pos (scK .f32)
      omega
    have d : decide (n * k * (2 ^ j : Nat) * ((2 ^ scK .f32 : Nat) : Int) < 0) = decide (n * k * (2 ^ j : Nat) < 0) := by
      by_cases hz : n * k * (2 ^ j : Nat) < 0
      · rw [decide_eq_true hz, decide_eq_true (Int.mul_neg_of_neg_of_pos hz np)]
      · rw [decide_eq_false hz, decide_eq_false (Int.not_lt.2 (Int.mul_nonneg (Int.not_lt.1 hz) (Int.le_of_lt np)))]
    rw [d, Int.natAbs_mul, Int.natAbs_natCast]
    congr 1
    have := rq_scale (fb := fbK .f32) (A := (n * k * (2 ^ j : Nat)).natAbs) (B := 1) (k := 2 ^ scK .f32) (Nat.two_pow_pos _)
    rw [Nat.one_mul] at this
    exact this
  rw [e3] at f
  obtain ⟨b, hb⟩ := rI_fac (n * k) j
  exact .of_fin f hb
end Go.Fw

/-
  Segments gone back; lengths; turned places; how fine numbers are.
-/
namespace Go.Fw
/-- The sum of both factors of a turn. -/
theorem turn_sum {C S : Rat} (hC : Near (C * C + S * S - 1) (2 * ur .f32)) : nabs C + nabs S ≤ 1415 / 1000 := by
  refine le_of_sq (by decide +kernel) ?_
  have h1 := nabs_sq C
  have h2 := nabs_sq S
  have h3 := sqn (nabs C - nabs S)
  have k : 2 * (1 + 2 * ur .f32) ≤ 1415 / 1000 * (1415 / 1000) := by decide +kernel
  unfold Near at hC
  grind
section
variable {c s x y : Nat} {C S X Y M : Rat} (hC : Near (C * C + S * S - 1) (2 * ur .f32)) (hc : Val .f32 c C) (hs : Val .f32 s S) (hx : Val .f32 x X) (hy : Val .f32 y Y) (hX : Near X M) (hY : Near Y M) (M1 : 1 ≤ M) (M9 : M ≤ 64)
include hC hc hs hx hy hX hY M1 M9
theorem rot_word : (∃ v, Val .f32 (fop .sub .f32 (fop .mul .f32 c x) (fop .mul .f32 s y)) v ∧ Near (v - (C * X - S * Y)) (284 / 100 * M * ur .f32)) ∧ (∃ v, Val .f32 (fop .add .f32 (fop .mul .f32 s x) (fop .mul .f32 c y)) v ∧ Near (v - (S * X + C * Y)) (284 / 100 * M * ur .f32)) := by
  have big : (1000 : Rat) ≤ most := by decide +kernel
  have h := turn_sum hC
  have c0 := nabs_pos C
  have s0 := nabs_pos S
  have M0 : 0 ≤ M := by grind
  have u0 := ur_pos .f32
  have t0 := tiny_pos .f32
  have hM := Rat.mul_le_mul_of_nonneg_right h M0
  have cM := Rat.mul_nonneg c0 M0
  have sM := Rat.mul_nonneg s0 M0
  have k2 : (1415 / 1000 : Rat) ≤ 2 := by decide +kernel
  have k2 := Rat.mul_le_mul_of_nonneg_right k2 M0
  have hMu := Rat.mul_le_mul_of_nonneg_right hM (Rat.le_of_lt u0)
  have tm : 4 * tiny .f32 ≤ 1 / 1000 * ur .f32 := by decide +kernel
  have tm2 := Rat.mul_le_mul_of_nonneg_right M1 (show 0 ≤ 1 / 1000 * ur .f32 from Rat.mul_nonneg (by decide +kernel) (Rat.le_of_lt u0))
  have usm : 1415 / 1000 * M * ur .f32 ≤ 1 / 1000 * M := by
    have : (1415 / 1000 : Rat) * ur .f32 ≤ 1 / 1000 := by decide +kernel
    have := Rat.mul_le_mul_of_nonneg_right this M0
    grind
  have mu0 := Rat.mul_nonneg M0 (Rat.le_of_lt u0)
  have k1416 : (1416 / 1000 : Rat) + 1 / 1000 = 1417 / 1000 := by decide +kernel
  have e284 : (284 / 100 : Rat) * M * ur .f32 = 1415 / 1000 * M * ur .f32 + 1417 / 1000 * M * ur .f32 + 8 / 1000 * (M * ur .f32) := by
    have : (284 / 100 : Rat) = 1415 / 1000 + 1417 / 1000 + 8 / 1000 := by decide +kernel
    rw [this]; grind
  have e1417 : (1417 / 1000 : Rat) * M = 1415 / 1000 * M + 1 / 1000 * M + 1 / 1000 * M := by
    have : (1417 / 1000 : Rat) = 1415 / 1000 + 1 / 1000 + 1 / 1000 := by decide +kernel
    rw [this]; grind
  have k8 := Rat.mul_le_mul_of_nonneg_right (show (2 / 1000 : Rat) ≤ 8 / 1000 by decide +kernel) mu0
  have k14 : (1417 / 1000 : Rat) * M ≤ 1000 := by
    have := Rat.mul_le_mul_of_nonneg_left M9 (show (0 : Rat) ≤ 1417 / 1000 by decide +kernel)
    exact Rat.le_trans this (by decide +kernel)
  have um : ur .f32 ≤ 1 := by decide +kernel
  have tsm : 4 * tiny .f32 ≤ 1 / 1000 * M := by
    have a : 4 * tiny .f32 ≤ 1 / 1000 := by decide +kernel
    have b := Rat.mul_le_mul_of_nonneg_left M1 (show (0 : Rat) ≤ 1 / 1000 by decide +kernel)
    grind
  constructor
  · have a := (nabs_near C).mul hX
    have b := (nabs_near S).mul hY
    obtain ⟨p, p1, p2⟩ := hc.mul hx a (by grind)
    obtain ⟨q, q1, q2⟩ := hs.mul hy b (by grind)
    obtain ⟨v, v1, v2⟩ := p1.sub q1 (X := 1417 / 1000 * M) (by
      rw [e1417]
      unfold Near at *
      constructor <;> grind) (by grind)
    refine ⟨v, v1, ?_⟩
    rw [e284]
    unfold Near at *
    constructor <;> grind
  · have a := (nabs_near S).mul hX
    have b := (nabs_near C).mul hY
    obtain ⟨p, p1, p2⟩ := hs.mul hx a (by grind)
    obtain ⟨q, q1, q2⟩ := hc.mul hy b (by grind)
    obtain ⟨v, v1, v2⟩ := p1.add q1 (X := 1417 / 1000 * M) (by
      rw [e1417]
      unfold Near at *
      constructor <;> grind) (by grind)
    refine ⟨v, v1, ?_⟩
    rw [e284]
    unfold Near at *
    constructor <;> grind
end
end Go.Fw

/-
  Values of words; places turned around Z, seen from one another.
-/
namespace Go.Fw
section
variable {C S : Rat} (hC : Near (C * C + S * S - 1) (2 * ur .f32))
include hC
theorem rot_near {a b M : Rat} (ha : Near a M) (hb : Near b M) : Near (C * a - S * b) (1415 / 1000 * M) ∧ Near (S * a + C * b) (1415 / 1000 * M) := by
  have h := turn_sum hC
  have M0 := ha.nonneg
  have hM := Rat.mul_le_mul_of_nonneg_right h M0
  have p := (nabs_near C).mul ha
  have q := (nabs_near S).mul hb
  have r := (nabs_near S).mul ha
  have t := (nabs_near C).mul hb
  unfold Near at *
  refine ⟨⟨?_, ?_⟩, ?_, ?_⟩ <;> grind
end
end Go.Fw
