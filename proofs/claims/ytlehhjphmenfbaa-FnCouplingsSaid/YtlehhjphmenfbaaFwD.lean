/-
  Floats that are finite numbers, told as whole numbers of the format's least units; what the operations make of them.
-/
import Derived.Test.YtlehhjphmenfbaaFwC

namespace Go.Fw
open Ieee (Datum Format Toward signed)
def Fin (k : FloatKind) (w : Nat) (n : Int) : Prop := ∃ s m i, k.format.read w = .number s m i ∧ k.format.leastPlace ≤ i ∧ n = signed s m (i - k.format.leastPlace).toNat
def sg (s : Bool) (n : Nat) : Int := if s then -(n : Int) else n
theorem signed_sg (s : Bool) (m a : Nat) : signed s m a = sg s (m * 2 ^ a) := by
  unfold signed sg; rw [shl_eq]
theorem sg_zero (s : Bool) : sg s 0 = 0 := by cases s <;> rfl
theorem sg_abs (s : Bool) (n : Nat) : (sg s n).natAbs = n := by
  unfold sg; cases s <;> simp
def fbK : FloatKind → Nat
  | .f32 => 23
  | .f64 => 52
def scK : FloatKind → Nat
  | .f32 => 149
  | .f64 => 1074
def limE : FloatKind → Nat
  | .f32 => 277
  | .f64 => 2098
def limK (k : FloatKind) : Nat := 2 ^ limE k
theorem limK_pow (k : FloatKind) : limK k = 2 ^ limE k := rfl
theorem limK_pos (k : FloatKind) : 0 < limK k := by rw [limK_pow]; exact Nat.two_pow_pos _
theorem fbK_eq (k : FloatKind) : k.format.fractionBits = fbK k := by cases k <;> rfl
theorem scK_eq (k : FloatKind) : k.format.leastPlace = -((scK k : Nat) : Int) := by cases k <;> rfl
theorem limK_eq (k : FloatKind) : lim k.format = limK k := by cases k <;> decide +kernel
theorem eb_le (k : FloatKind) : 2 ≤ k.format.exponentBits := by cases k <;> decide
theorem fin_write {k : FloatKind} {s : Bool} {m : Nat} {i : Int} {A B : Nat} (hB : 0 < B) (hv : m * 2 ^ (i + scK k).toNat * B = A * 2 ^ (-(scK k : Int) - i).toNat) (hlt : rq (fbK k) A B < limK k) :
    Fin k (k.format.write (.number s m i)) (sg s (rq (fbK k) A B)) := by
  rw [← fbK_eq, ← limK_eq] at hlt
  obtain ⟨m', i', h1, h2, h3⟩ := near_val (f := k.format) (m := m) (i := i) s hB (eb_le k) (by
    rw [scK_eq, show i - -((scK k : Nat) : Int) = i + scK k by omega]; exact hv) hlt
  refine ⟨s, m', i', h1, h2, ?_⟩
  rw [signed_sg, h3, fbK_eq]
def rI (k : FloatKind) (z : Int) (D : Nat) : Int := sg (decide (z < 0)) (rq (fbK k) z.natAbs D)
theorem rq_zero (fb B : Nat) : rq fb 0 B = 0 := by
  unfold rq rqN
  rw [Nat.zero_mod, Nat.zero_div]
  have h1 : Nat.beq (0 % 2) 1 = false := rfl
  have h2 : ∀ D, Nat.blt D (2 * 0) = false := fun D => by rw [Bool.eq_false_iff]; intro h; rw [Nat.blt_eq] at h; omega
  rw [h1, Bool.and_false, h2]
  simp
theorem rI_sg (k : FloatKind) (s : Bool) (n D : Nat) : rI k (sg s n) D = sg s (rq (fbK k) n D) := by
  unfold rI
  rw [sg_abs]
  rcases Nat.eq_zero_or_pos n with h | h
  · subst h; rw [rq_zero, sg_zero, sg_zero]
  · have : decide (sg s n < 0) = s := by unfold sg; cases s <;> simp <;> omega
    rw [this]
theorem rI_abs (k : FloatKind) (z : Int) (D : Nat) : (rI k z D).natAbs = rq (fbK k) z.natAbs D := sg_abs _ _
theorem Fin.unique {k : FloatKind} {w : Nat} {a b : Int} (h : Fin k w a) (h' : Fin k w b) : a = b := by
  obtain ⟨s, m, i, h1, _, rfl⟩ := h
  obtain ⟨t, n, j, h2, _, rfl⟩ := h'
  rw [h1] at h2
  injection h2 with e1 e2 e3
  subst e1 e2 e3
  rfl
theorem Fin.notNaN {k : FloatKind} {w : Nat} {a : Int} (h : Fin k w a) : isNaN k w = false := by
  obtain ⟨s, m, i, h1, _, _⟩ := h
  show (k.format.read w).isNaN = false
  rw [h1]; rfl
theorem Fin.num {k : FloatKind} {w : Nat} {a : Int} (h : Fin k w a) : num k w = true := by
  obtain ⟨s, m, i, h1, _, _⟩ := h
  unfold Fw.num; rw [h1]
theorem fop_some {op : BinOp} {k : FloatKind} {x y r : Nat} (h : floatBits op k x y = some r) : fop op k x y = r := by unfold fop; rw [h]
theorem sum_units {k : FloatKind} {s t : Bool} {m n : Nat} {i j : Int} (hi : k.format.leastPlace ≤ i) (hj : k.format.leastPlace ≤ j) :
    (signed s m (i - min i j).toNat + signed t n (j - min i j).toNat) * (2 ^ (min i j - k.format.leastPlace).toNat : Nat) = signed s m (i - k.format.leastPlace).toNat + signed t n (j - k.format.leastPlace).toNat := by
  rw [Int.add_mul]
  have key : ∀ (s : Bool) (m : Nat) (i b : Int), k.format.leastPlace ≤ b → b ≤ i → signed s m (i - b).toNat * (2 ^ (b - k.format.leastPlace).toNat : Nat) = signed s m (i - k.format.leastPlace).toNat := fun s m i b h1 h2 => by
    rw [signed_sg, signed_sg, show (i - k.format.leastPlace).toNat = (i - b).toNat + (b - k.format.leastPlace).toNat by omega, Nat.pow_add, ← Nat.mul_assoc]
    unfold sg
    cases s
    · simp
    · simp [Int.neg_mul]
  rw [key s m i (min i j) (by omega) (by omega), key t n j (min i j) (by omega) (by omega)]
theorem rI_units (k : FloatKind) (z : Int) (p : Nat) {b : Bool} (hb : z = 0 ∨ b = decide (z < 0)) : rI k (z * (2 ^ p : Nat)) 1 = sg b (rq (fbK k) (z.natAbs * 2 ^ p) 1) := by
  rcases hb with hb | hb
  · subst hb
    rw [Int.zero_mul, Int.natAbs_zero, Nat.zero_mul]
    unfold rI
    rw [Int.natAbs_zero, rq_zero, sg_zero, sg_zero]
  · have hz : z * (2 ^ p : Nat) = sg b (z.natAbs * 2 ^ p) := by
      rw [hb]
      unfold sg
      by_cases h : z < 0
      · rw [decide_eq_true h, if_pos rfl, Int.natCast_mul, Int.ofNat_natAbs_of_nonpos (by omega), Int.neg_mul, Int.neg_neg]
      · rw [decide_eq_false h, if_neg (by simp), Int.natCast_mul, Int.natAbs_of_nonneg (by omega)]
    rw [hz, rI_sg]
theorem fin_sum {k : FloatKind} {s t : Bool} {m n : Nat} {i j : Int} {b : Bool} (hi : k.format.leastPlace ≤ i) (hj : k.format.leastPlace ≤ j)
    (hb : signed s m (i - min i j).toNat + signed t n (j - min i j).toNat = 0 ∨ b = decide (signed s m (i - min i j).toNat + signed t n (j - min i j).toNat < 0))
    (hlt : (rI k (signed s m (i - k.format.leastPlace).toNat + signed t n (j - k.format.leastPlace).toNat) 1).natAbs < limK k) :
    Fin k (k.format.write (.number b (signed s m (i - min i j).toNat + signed t n (j - min i j).toNat).natAbs (min i j))) (rI k (signed s m (i - k.format.leastPlace).toNat + signed t n (j - k.format.leastPlace).toNat) 1) := by
  have hu := sum_units (s := s) (t := t) (m := m) (n := n) hi hj
  generalize signed s m (i - min i j).toNat + signed t n (j - min i j).toNat = z at *
  rw [← hu] at hlt ⊢
  have hsc := scK_eq k
  have hle : k.format.leastPlace ≤ min i j := by omega
  generalize min i j = c at *
  rw [rI_abs, Int.natAbs_mul, Int.natAbs_natCast] at hlt
  have e1 : (c - k.format.leastPlace).toNat = (c + scK k).toNat := by rw [hsc, Int.sub_neg]
  have e2 : (-(scK k : Int) - c).toNat = 0 := by omega
  have hfw := fin_write (k := k) (s := b) (m := z.natAbs) (i := c) (A := z.natAbs * 2 ^ (c - k.format.leastPlace).toNat) (B := 1) (by omega) (by rw [e1, e2, Nat.pow_zero]) hlt
  have e3 := rI_units k z (c - k.format.leastPlace).toNat hb
  rw [e3]
  exact hfw
theorem Fin.add {k : FloatKind} {x y : Nat} {a b : Int} (hx : Fin k x a) (hy : Fin k y b) (hlt : (rI k (a + b) 1).natAbs < limK k) : Fin k (fop .add k x y) (rI k (a + b) 1) := by
  obtain ⟨s, m, i, h1, h2, rfl⟩ := hx
  obtain ⟨t, n, j, h3, h4, rfl⟩ := hy
  have e : floatBits .add k x y = some (k.format.write (.number (if signed s m (i - min i j).toNat + signed t n (j - min i j).toNat = 0 then s && t else decide (signed s m (i - min i j).toNat + signed t n (j - min i j).toNat < 0)) (signed s m (i - min i j).toNat + signed t n (j - min i j).toNat).natAbs (min i j))) := by
    show ((k.format.read x).sum (k.format.read y)).map k.format.write = _
    rw [h1, h3]; rfl
  rw [fop_some e]
  refine fin_sum h2 h4 ?_ hlt
  by_cases h : signed s m (i - min i j).toNat + signed t n (j - min i j).toNat = 0
  · exact .inl h
  · right; rw [if_neg h]
theorem signed_not (s : Bool) (m a : Nat) : signed (!s) m a = -signed s m a := by
  unfold signed; cases s <;> simp
theorem Fin.sub {k : FloatKind} {x y : Nat} {a b : Int} (hx : Fin k x a) (hy : Fin k y b) (hlt : (rI k (a - b) 1).natAbs < limK k) : Fin k (fop .sub k x y) (rI k (a - b) 1) := by
  obtain ⟨s, m, i, h1, h2, rfl⟩ := hx
  obtain ⟨t, n, j, h3, h4, rfl⟩ := hy
  have e : floatBits .sub k x y = some (k.format.write (.number (if signed s m (i - min i j).toNat + signed (!t) n (j - min i j).toNat = 0 then s && !t else decide (signed s m (i - min i j).toNat + signed (!t) n (j - min i j).toNat < 0)) (signed s m (i - min i j).toNat + signed (!t) n (j - min i j).toNat).natAbs (min i j))) := by
    show ((k.format.read x).sum (k.format.read y).opposite).map k.format.write = _
    rw [h1, h3]; rfl
  rw [fop_some e]
  have e3 : signed s m (i - k.format.leastPlace).toNat - signed t n (j - k.format.leastPlace).toNat = signed s m (i - k.format.leastPlace).toNat + signed (!t) n (j - k.format.leastPlace).toNat := by rw [signed_not]; omega
  rw [e3] at hlt ⊢
  refine fin_sum h2 h4 ?_ hlt
  by_cases h : signed s m (i - min i j).toNat + signed (!t) n (j - min i j).toNat = 0
  · exact .inl h
  · right; rw [if_neg h]
theorem sg_mul (s t : Bool) (a b : Nat) : sg s a * sg t b = sg (s ^^ t) (a * b) := by
  unfold sg; cases s <;> cases t <;> simp [Int.neg_mul, Int.mul_neg]
theorem Fin.mul {k : FloatKind} {x y : Nat} {a b : Int} (hx : Fin k x a) (hy : Fin k y b) (hlt : (rI k (a * b) (2 ^ scK k)).natAbs < limK k) : Fin k (fop .mul k x y) (rI k (a * b) (2 ^ scK k)) := by
  obtain ⟨s, m, i, h1, h2, rfl⟩ := hx
  obtain ⟨t, n, j, h3, h4, rfl⟩ := hy
  have e : floatBits .mul k x y = some (k.format.write (.number (s ^^ t) (m * n) (i + j))) := by
    show ((k.format.read x).product (k.format.read y)).map k.format.write = _
    rw [h1, h3]; rfl
  rw [fop_some e]
  rw [signed_sg, signed_sg, sg_mul, rI_sg] at hlt ⊢
  rw [sg_abs] at hlt
  refine fin_write (Nat.two_pow_pos _) ?_ hlt
  rw [scK_eq] at h2 h4 ⊢
  have : ∀ p q : Nat, p + scK k = q + ((i - -((scK k : Nat) : Int)).toNat + (j - -((scK k : Nat) : Int)).toNat) → False ∨ True := fun _ _ _ => .inr trivial
  have e1 : (i + j + (scK k : Int)).toNat + scK k = (i - -((scK k : Nat) : Int)).toNat + (j - -((scK k : Nat) : Int)).toNat + (-(scK k : Int) - (i + j)).toNat := by omega
  have e2 : m * 2 ^ (i - -((scK k : Nat) : Int)).toNat * (n * 2 ^ (j - -((scK k : Nat) : Int)).toNat) = m * n * 2 ^ ((i - -((scK k : Nat) : Int)).toNat + (j - -((scK k : Nat) : Int)).toNat) := by
    rw [Nat.pow_add]; generalize 2 ^ (i - -((scK k : Nat) : Int)).toNat = u; generalize 2 ^ (j - -((scK k : Nat) : Int)).toNat = v
    rw [Nat.mul_assoc, Nat.mul_left_comm u, ← Nat.mul_assoc m n]
  rw [e2, Nat.mul_assoc (m * n), ← Nat.pow_add, e1, Nat.mul_assoc (m * n), ← Nat.pow_add]
theorem quo_stick {m n more : Nat} (hn : 0 < n) : Stick (2 * (m * 2 ^ more / n) + ((m * 2 ^ more) % n != 0).toNat) (2 * (m * 2 ^ more)) n := by
  generalize m * 2 ^ more = d
  have h1 := Nat.div_add_mod d n
  have h2 := Nat.mod_lt d hn
  generalize d / n = q at *
  generalize hr : d % n = r at *
  unfold Stick
  by_cases h : r = 0
  · left
    subst h
    simp
    rw [← h1, Nat.mul_comm n q, Nat.mul_assoc]
    omega
  · right
    have : (r != 0).toNat = 1 := by simp [h]
    rw [this]
    refine ⟨by omega, ?_, ?_⟩
    · rw [Nat.add_sub_cancel, Nat.mul_assoc, Nat.mul_comm q n]; omega
    · have : (2 * q + 1 + 1) * n = 2 * (n * q) + 2 * n := by rw [show 2 * q + 1 + 1 = 2 * q + 2 by omega, Nat.add_mul, Nat.mul_assoc, Nat.mul_comm q n]
      rw [this]; omega
theorem sg_sign (s : Bool) (n : Nat) (h : n ≠ 0) : (sg s n).sign = if s then -1 else 1 := by
  unfold sg
  cases s
  · simp; omega
  · simp [Int.sign_neg]; omega
theorem Fin.quo {k : FloatKind} {x y : Nat} {a b : Int} (hx : Fin k x a) (hy : Fin k y b) (hb : b ≠ 0) (hlt : (rI k (a * b.sign * (2 ^ scK k : Nat)) b.natAbs).natAbs < limK k) : Fin k (fop .quo k x y) (rI k (a * b.sign * (2 ^ scK k : Nat)) b.natAbs) := by
  obtain ⟨s, m, i, h1, h2, rfl⟩ := hx
  obtain ⟨t, n, j, h3, h4, rfl⟩ := hy
  have hn : n ≠ 0 := fun e => hb (by subst e; rw [signed_sg, Nat.zero_mul, sg_zero])
  have hn' : 0 < n := by omega
  generalize hmo : (k.format.fractionBits + 2) + n.log2 - m.log2 = more
  have e : floatBits .quo k x y = some (k.format.write (.number (s ^^ t) (2 * (m <<< more / n) + ((m <<< more) % n != 0).toNat) (i - j - more - 1))) := by
    show ((k.format.read x).quotient (k.format.fractionBits + 2) (k.format.read y)).map k.format.write = _
    rw [h1, h3]
    unfold Datum.quotient
    simp only
    rw [if_neg hn, hmo]
    rfl
  rw [fop_some e]
  rw [signed_sg, signed_sg] at hlt ⊢
  have hnp : n * 2 ^ (j - k.format.leastPlace).toNat ≠ 0 := by have := Nat.mul_pos hn' (Nat.two_pow_pos (j - k.format.leastPlace).toNat); omega
  rw [sg_sign _ _ hnp] at hlt ⊢
  have es : ∀ z : Nat, sg s z * (if t then -1 else 1) * (2 ^ scK k : Nat) = sg (s ^^ t) (z * 2 ^ scK k) := fun z => by
    unfold sg; cases s <;> cases t <;> simp [Int.neg_mul, Int.mul_neg]
  rw [es, rI_sg, sg_abs] at hlt ⊢
  rw [sg_abs] at hlt
  rw [shl_eq]
  rcases Nat.eq_zero_or_pos m with hm | hm
  · subst hm
    rw [Nat.zero_mul, Nat.zero_mul, Nat.zero_mul, Nat.zero_div, Nat.zero_mod, rq_zero]
    rw [Nat.zero_mul, Nat.zero_mul] at hlt
    have := fin_write (k := k) (s := s ^^ t) (m := 0) (i := i - j - more - 1) (A := 0) (B := 1) (by omega) (by simp) (by rw [rq_zero]; rw [rq_zero] at hlt; exact hlt)
    rw [rq_zero] at this
    exact this
  have hst := quo_stick (m := m) (more := more) hn'
  generalize hN : 2 * (m * 2 ^ more / n) + ((m * 2 ^ more) % n != 0).toNat = N at *
  have hNb : 2 ^ (fbK k + 2) ≤ N := by
    have hq : 2 ^ (fbK k + 1) ≤ m * 2 ^ more / n := by
      refine (Nat.le_div_iff_mul_le hn').2 ?_
      have l1 := le_log22 (m := m) (by omega)
      have l2 := @log2_lt2 n
      rw [fbK_eq] at hmo
      calc 2 ^ (fbK k + 1) * n ≤ 2 ^ (fbK k + 1) * 2 ^ (n.log2 + 1) := Nat.mul_le_mul_left _ (Nat.le_of_lt l2)
        _ = 2 ^ (fbK k + 2 + n.log2) := by rw [← Nat.pow_add]; congr 1; omega
        _ ≤ 2 ^ (m.log2 + more) := Nat.pow_le_pow_right (by omega) (by omega)
        _ = 2 ^ m.log2 * 2 ^ more := Nat.pow_add ..
        _ ≤ m * 2 ^ more := Nat.mul_le_mul_right _ l1
    rw [Nat.pow_succ]
    rw [← hN]
    omega
  generalize hu : (i - j - more - 1 + scK k).toNat = u
  generalize hv : (-(scK k : Int) - (i - j - more - 1)).toNat = v
  have huv : u = 0 ∨ v = 0 := by omega
  have key := stick_rq (u := u) (v := v) hn' hst hNb huv
  have rat : rq (fbK k) (2 * (m * 2 ^ more) * 2 ^ u) (n * 2 ^ v) = rq (fbK k) (m * 2 ^ (i - k.format.leastPlace).toNat * 2 ^ scK k) (n * 2 ^ (j - k.format.leastPlace).toNat) := by
    refine rq_congr (Nat.mul_pos hn' (Nat.two_pow_pos _)) (Nat.mul_pos hn' (Nat.two_pow_pos _)) ?_
    rw [scK_eq] at h2 h4 ⊢
    have e5 : 1 + more + u + (j - -((scK k : Nat) : Int)).toNat = (i - -((scK k : Nat) : Int)).toNat + scK k + v := by omega
    have e6 : 2 * (m * 2 ^ more) * 2 ^ u * (n * 2 ^ (j - -((scK k : Nat) : Int)).toNat) = m * n * 2 ^ (1 + more + u + (j - -((scK k : Nat) : Int)).toNat) := by
      rw [Nat.pow_add, Nat.pow_add, Nat.pow_add, Nat.pow_one]
      generalize 2 ^ more = p1; generalize 2 ^ u = p2; generalize 2 ^ (j - -((scK k : Nat) : Int)).toNat = p3
      simp only [Nat.mul_assoc, Nat.mul_left_comm, Nat.mul_comm]
    have e7 : m * 2 ^ (i - -((scK k : Nat) : Int)).toNat * 2 ^ scK k * (n * 2 ^ v) = m * n * 2 ^ ((i - -((scK k : Nat) : Int)).toNat + scK k + v) := by
      rw [Nat.pow_add, Nat.pow_add]
      generalize 2 ^ (i - -((scK k : Nat) : Int)).toNat = p1; generalize 2 ^ scK k = p2; generalize 2 ^ v = p3
      simp only [Nat.mul_assoc, Nat.mul_left_comm, Nat.mul_comm]
    rw [e6, e7, e5]
  rw [rat] at key
  rw [key] at hlt ⊢
  refine fin_write (Nat.two_pow_pos _) ?_ hlt
  rw [hu, hv]
theorem read_neg {k : FloatKind} {x m : Nat} {s : Bool} {i : Int} (h : k.format.read x = .number s m i) : k.format.read (Op.negFloat k x) = .number (!s) m i := by
  have e1 := negFloat_mod k x
  have e2 : (Op.negFloat k x / k.format.signWeight % 2 == 1) = !(x / k.format.signWeight % 2 == 1) := by
    have t1 : ∀ y : Nat, (y / k.format.signWeight % 2 == 1) = y.testBit (k.format.exponentBits + k.format.fractionBits) := fun y => by
      rw [Nat.testBit_eq_decide_div_mod_eq]
      rfl
    rw [t1, t1]
    unfold Op.negFloat
    rw [Nat.testBit_xor, Nat.testBit_two_pow_self, Bool.xor_true]
  unfold Format.read at h ⊢
  simp only [e1, e2] at h ⊢
  split at h
  · rename_i hr
    rw [if_pos hr]; injection h with a b c; subst a b c; rfl
  · rename_i hr
    rw [if_neg hr]
    split at h
    · rename_i hr2
      rw [if_pos hr2]; injection h with a b c; subst a b c; rfl
    · split at h <;> cases h
theorem Fin.neg {k : FloatKind} {x : Nat} {a : Int} (hx : Fin k x a) : Fin k (fneg k x) (-a) := by
  have hn := hx.notNaN
  obtain ⟨s, m, i, h1, h2, rfl⟩ := hx
  unfold fneg
  rw [hn]
  refine ⟨!s, m, i, ?_, h2, (signed_not _ _ _).symm⟩
  show k.format.read (Op.negFloat k x) = _
  exact read_neg h1
end Go.Fw

/-
  Conversions, roots, comparisons of floats that are finite numbers.
-/
namespace Go.Fw
open Ieee (Datum Format Toward signed)
theorem rqN_exact {q D : Nat} (hD : 0 < D) : rqN (q * D) D = q := by
  unfold rqN
  rw [Nat.mul_mod_left, Nat.mul_div_cancel _ hD]
  have h2 : Nat.blt D (2 * 0) = false := by rw [Bool.eq_false_iff]; intro h; rw [Nat.blt_eq] at h; omega
  have h3 : Nat.beq D (2 * 0) = false := by rw [Bool.eq_false_iff]; intro h; have := Nat.eq_of_beq_eq_true h; omega
  rw [h2, h3]; rfl
theorem rq_exact {fb m p : Nat} (hm : m < 2 ^ (fb + 1)) : rq fb (m * 2 ^ p) 1 = m * 2 ^ p := by
  rcases Nat.eq_zero_or_pos m with h | h
  · subst h; rw [Nat.zero_mul, rq_zero]
  · have hl : m.log2 < fb + 1 := (Nat.log2_lt (by omega)).2 hm
    unfold rq rqS
    rw [Nat.div_one, log2_mul_pow (by omega), Nat.one_mul]
    generalize hs : m.log2 + p - fb = s
    have : m * 2 ^ p = m * 2 ^ (p - s) * 2 ^ s := by rw [Nat.mul_assoc, ← Nat.pow_add]; congr 2; omega
    rw [this, rqN_exact (Nat.two_pow_pos _)]
theorem Fin.small {k : FloatKind} {w : Nat} {n : Int} (h : Fin k w n) : ∃ m p, n.natAbs = m * 2 ^ p ∧ m < 2 ^ (fbK k + 1) := by
  obtain ⟨s, m, i, h1, h2, rfl⟩ := h
  have := (read_number h1).1
  rw [fbK_eq] at this
  exact ⟨m, _, by rw [signed_sg, sg_abs], this⟩
theorem rI_exact {k : FloatKind} {z : Int} {m p : Nat} (h : z.natAbs = m * 2 ^ p) (hm : m < 2 ^ (fbK k + 1)) : rI k z 1 = z := by
  unfold rI
  rw [h, rq_exact hm, ← h]
  unfold sg
  by_cases hz : z < 0
  · rw [decide_eq_true hz, if_pos rfl]; omega
  · rw [decide_eq_false hz, if_neg (by simp)]; omega
theorem Fin.lt_lim {k : FloatKind} {w : Nat} {n : Int} (h : Fin k w n) : n.natAbs < limK k := by
  obtain ⟨s, m, i, h1, h2, rfl⟩ := h
  rw [signed_sg, sg_abs]
  have hr : k.format.read w = .number s m i := h1
  unfold Format.read at hr
  simp only at hr
  have hbp : 0 < k.format.binade := Nat.two_pow_pos _
  have lim1 : k.format.binade ≤ limK k := by cases k <;> decide +kernel
  split at hr
  · rename_i h5
    injection hr with e1 e2 e3
    subst e2 e3
    rw [Int.sub_self]
    simp only [Int.toNat_zero, Nat.pow_zero, Nat.mul_one]
    omega
  · split at hr
    · rename_i h5 h6
      injection hr with e1 e2 e3
      subst e2 e3
      have hmod : w % k.format.signWeight % k.format.binade < k.format.binade := Nat.mod_lt _ hbp
      have hq : w % k.format.signWeight / k.format.binade < 2 ^ k.format.exponentBits - 1 := (Nat.div_lt_iff_lt_mul hbp).2 h6
      rw [show (k.format.leastPlace + ((w % k.format.signWeight / k.format.binade - 1 : Nat) : Int) - k.format.leastPlace).toNat = w % k.format.signWeight / k.format.binade - 1 by omega]
      generalize w % k.format.signWeight / k.format.binade = q at *
      generalize w % k.format.signWeight % k.format.binade = r at *
      rw [← limK_eq]
      unfold lim
      have hT : 4 ≤ 2 ^ k.format.exponentBits := Nat.pow_le_pow_right (n := 2) (by omega) (eb_le k)
      calc (k.format.binade + r) * 2 ^ (q - 1) < (k.format.binade * 2) * 2 ^ (q - 1) := Nat.mul_lt_mul_of_pos_right (by omega) (Nat.two_pow_pos _)
        _ ≤ k.format.binade * 2 * 2 ^ (2 ^ k.format.exponentBits - 3) := Nat.mul_le_mul_left _ (Nat.pow_le_pow_right (by omega) (by omega))
        _ = k.format.binade * 2 ^ (2 ^ k.format.exponentBits - 2) := by rw [Nat.mul_assoc, ← Nat.pow_succ']; congr 2; omega
    · split at hr <;> cases hr
theorem Fin.widen {x q : Nat} {n : Int} (hq : q = 925) (h : Fin .f32 x n) : Fin .f64 (fcvt .f32 .f64 x) (n * (2 ^ q : Nat)) := by
  have hs := h.small
  have hl := h.lt_lim
  obtain ⟨s, m, i, h1, h2, rfl⟩ := h
  have h1' : FloatKind.f32.decode x = .number s m i := h1
  have e : fcvt .f32 .f64 x = FloatKind.f64.format.write (.number s m i) := by
    unfold fcvt; rw [h1']; rfl
  rw [e]
  have hm := (read_number h1).1
  rw [fbK_eq] at hm
  have h2' : -149 ≤ i := h2
  rw [signed_sg] at hl ⊢
  rw [sg_abs] at hl
  have lp : FloatKind.f32.format.leastPlace = -149 := rfl
  rw [lp] at hl ⊢
  have ev : (m * 2 ^ (i - -149).toNat) * 2 ^ q = m * 2 ^ (i + 1074).toNat := by rw [Nat.mul_assoc, pow_split (show (i - -149).toNat + q = (i + 1074).toNat by omega)]
  have ex : rq (fbK .f64) (m * 2 ^ (i + 1074).toNat) 1 = m * 2 ^ (i + 1074).toNat := rq_exact (Nat.lt_of_lt_of_le hm (by decide))
  have := fin_write (k := .f64) (s := s) (m := m) (i := i) (A := m * 2 ^ (i + 1074).toNat) (B := 1) (by omega) (by
    show m * 2 ^ (i + 1074).toNat * 1 = m * 2 ^ (i + 1074).toNat * 2 ^ (-1074 - i).toNat
    rw [show (-1074 - i).toNat = 0 by omega]) (by
    rw [ex, ← ev]
    rw [limK_pow] at hl ⊢
    calc m * 2 ^ (i - -149).toNat * 2 ^ q < 2 ^ limE .f32 * 2 ^ q := Nat.mul_lt_mul_of_pos_right hl (Nat.two_pow_pos _)
      _ = 2 ^ (limE .f32 + q) := (Nat.pow_add ..).symm
      _ ≤ 2 ^ limE .f64 := Nat.pow_le_pow_right (by omega) (by rw [hq]; decide))
  rw [ex, ← ev] at this
  have e2 : sg s (m * 2 ^ (i - -149).toNat) * (2 ^ q : Nat) = sg s (m * 2 ^ (i - -149).toNat * 2 ^ q) := by
    generalize m * 2 ^ (i - -149).toNat = z
    generalize (2 ^ q : Nat) = p at *
    unfold sg
    cases s
    · simp
    · simp [Int.neg_mul]
  rw [e2]
  exact this
theorem Fin.narrow {x q : Nat} {n : Int} (hq : q = 925) (h : Fin .f64 x n) (hlt : (rI .f32 n (2 ^ q)).natAbs < limK .f32) : Fin .f32 (fcvt .f64 .f32 x) (rI .f32 n (2 ^ q)) ∧ fcvtOk .f64 .f32 x = true := by
  obtain ⟨s, m, i, h1, h2, rfl⟩ := h
  have h1' : FloatKind.f64.decode x = .number s m i := h1
  have e : fcvt .f64 .f32 x = FloatKind.f32.format.write (.number s m i) := by
    unfold fcvt; rw [h1']; rfl
  have h2' : -1074 ≤ i := h2
  have lp : FloatKind.f64.format.leastPlace = -1074 := rfl
  rw [signed_sg, rI_sg] at hlt ⊢
  rw [sg_abs] at hlt
  rw [lp] at hlt ⊢
  have fw := fin_write (k := .f32) (s := s) (m := m) (i := i) (A := m * 2 ^ (i - -1074).toNat) (B := 2 ^ q) (Nat.two_pow_pos _) (by
    show m * 2 ^ (i + 149).toNat * 2 ^ q = m * 2 ^ (i - -1074).toNat * 2 ^ (-149 - i).toNat
    rw [Nat.mul_assoc, Nat.mul_assoc, pow_split (show (i + 149).toNat + q = (i - -1074).toNat + (-149 - i).toNat by omega), pow_split rfl]) hlt
  refine ⟨by rw [e]; exact fw, ?_⟩
  unfold fcvtOk
  rw [h1']
  show (!(FloatKind.f32.format.read (FloatKind.f32.format.write (.number s m i))).isInfinity) = true
  obtain ⟨s', m', i', h5, _⟩ := fw
  rw [h5]; rfl
def scD : Nat := 925
theorem scD_eq : scD = 925 := rfl
theorem Fin.ofInt {k : FloatKind} (z : Int) (hlt : (rI k (z * (2 ^ scK k : Nat)) 1).natAbs < limK k) : Fin k (fofInt k z) (rI k (z * (2 ^ scK k : Nat)) 1) := by
  have e := rI_units k z (scK k) (b := decide (z < 0)) (.inr rfl)
  rw [e] at hlt ⊢
  rw [sg_abs] at hlt
  show Fin k (k.format.write (.number (decide (z < 0)) z.natAbs 0)) _
  refine fin_write (by omega) ?_ hlt
  rw [Int.zero_add, Int.toNat_natCast, Nat.mul_one, show (-(scK k : Int) - 0).toNat = 0 by omega, Nat.pow_zero, Nat.mul_one]
theorem compare_scale {a b p : Int} (hp : 0 < p) : compare (a * p) (b * p) = compare a b := by
  show compareOfLessAndEq _ _ = compareOfLessAndEq _ _
  unfold compareOfLessAndEq
  have h1 : a * p < b * p ↔ a < b := Int.mul_lt_mul_right hp
  have h2 : a * p = b * p ↔ a = b := ⟨fun h => Int.eq_of_mul_eq_mul_right (by omega) h, fun h => by rw [h]⟩
  simp only [h1, h2]
theorem Fin.order {k : FloatKind} {x y : Nat} {a b : Int} (hx : Fin k x a) (hy : Fin k y b) : forder k x y = some (compare a b) := by
  obtain ⟨s, m, i, h1, h2, rfl⟩ := hx
  obtain ⟨t, n, j, h3, h4, rfl⟩ := hy
  have hu : ∀ (s : Bool) (m : Nat) (i b : Int), k.format.leastPlace ≤ b → b ≤ i → signed s m (i - b).toNat * (2 ^ (b - k.format.leastPlace).toNat : Nat) = signed s m (i - k.format.leastPlace).toNat := fun s m i b h1 h2 => by
    rw [signed_sg, signed_sg, show (i - k.format.leastPlace).toNat = (i - b).toNat + (b - k.format.leastPlace).toNat by omega, Nat.pow_add, ← Nat.mul_assoc]
    unfold sg
    cases s
    · simp
    · simp [Int.neg_mul]
  show (k.format.read x).order (k.format.read y) = _
  rw [h1, h3]
  show some (compare (signed s m (i - min i j).toNat) (signed t n (j - min i j).toNat)) = _
  rw [← hu s m i (min i j) (by omega) (by omega), ← hu t n j (min i j) (by omega) (by omega), compare_scale (by exact_mod_cast Nat.two_pow_pos _)]
theorem rootFrom_sq (n : Nat) : ∀ (todo root : Nat), root * root ≤ n → n < (root + 2 ^ todo) * (root + 2 ^ todo) →
    Datum.rootFrom n todo root * Datum.rootFrom n todo root ≤ n ∧ n < (Datum.rootFrom n todo root + 1) * (Datum.rootFrom n todo root + 1)
  | 0, root, h1, h2 => ⟨h1, h2⟩
  | todo + 1, root, h1, h2 => by
    simp only [Datum.rootFrom]
    rw [shl_eq, Nat.one_mul]
    split
    · rename_i h
      refine rootFrom_sq n todo _ h ?_
      rw [Nat.add_assoc, ← Nat.two_mul, ← Nat.pow_succ']
      exact h2
    · rename_i h
      exact rootFrom_sq n todo _ h1 (by omega)
theorem rootFrom_ok (n : Nat) : Datum.rootFrom n (n.log2 / 2 + 1) 0 * Datum.rootFrom n (n.log2 / 2 + 1) 0 ≤ n ∧ n < (Datum.rootFrom n (n.log2 / 2 + 1) 0 + 1) * (Datum.rootFrom n (n.log2 / 2 + 1) 0 + 1) := by
  refine rootFrom_sq n _ 0 (by omega) ?_
  rw [Nat.zero_add, ← Nat.pow_add]
  exact Nat.lt_of_lt_of_le (log2_lt2 (m := n)) (Nat.pow_le_pow_right (by omega) (by omega))
theorem root_stick {X S W e : Nat} (hS : S * S ≤ X) (hS' : X < (S + 1) * (S + 1)) (hW : W * W * (2 ^ e * 2 ^ e) ≤ X) (hW' : X < (W + 1) * (W + 1) * (2 ^ e * 2 ^ e)) :
    Stick (2 * W + (W * W * (2 ^ e * 2 ^ e) != X).toNat) (2 * S + (S * S != X).toNat) (2 ^ e) := by
  have hp : 0 < 2 ^ e := Nat.two_pow_pos _
  generalize 2 ^ e = p at *
  have sq : ∀ a b : Nat, a * a < b * b → a < b := fun a b h => by
    rcases Nat.lt_or_ge a b with h1 | h1
    · exact h1
    · exact absurd (Nat.mul_le_mul h1 h1) (by omega)
  have sqe : ∀ a b : Nat, a * a = b * b → a = b := fun a b h => by
    rcases Nat.lt_trichotomy a b with h1 | h1 | h1
    · have := Nat.mul_lt_mul'' h1 h1; omega
    · exact h1
    · have := Nat.mul_lt_mul'' h1 h1; omega
  have re : W * W * (p * p) = (W * p) * (W * p) := by rw [Nat.mul_mul_mul_comm]
  have re' : (W + 1) * (W + 1) * (p * p) = ((W + 1) * p) * ((W + 1) * p) := by rw [Nat.mul_mul_mul_comm]
  rw [re] at hW ⊢
  rw [re'] at hW'
  have h1 : W * p < S + 1 := sq _ _ (by omega)
  have h2 : S < (W + 1) * p := sq _ _ (by omega)
  by_cases hx : W * p * (W * p) = X
  · left
    have : S = W * p := by
      have a : S < W * p + 1 := sq _ _ (by have : (W * p + 1) * (W * p + 1) = W * p * (W * p) + 2 * (W * p) + 1 := by rw [Nat.add_mul, Nat.mul_add]; omega
                                           omega)
      omega
    rw [this, hx]
    simp [Nat.mul_assoc]
  · right
    have e1 : (W * p * (W * p) != X).toNat = 1 := by simp [hx]
    rw [e1]
    refine ⟨by omega, ?_, ?_⟩
    · rw [Nat.add_sub_cancel, Nat.mul_assoc]
      by_cases hs : S * S = X
      · have hne : W * p ≠ S := fun h => hx (by rw [h, hs])
        omega
      · have : (S * S != X).toNat = 1 := by simp [hs]
        omega
    · have e2 : (2 * W + 1 + 1) * p = 2 * ((W + 1) * p) := by rw [← Nat.mul_assoc]; congr 1
      rw [e2]
      have : (S * S != X).toNat ≤ 1 := by cases (S * S != X) <;> decide
      omega
theorem Fin.sqrt {x n S X : Nat} (h : Fin .f64 x (n : Int)) (hX0 : X = n * 2 ^ scK .f64) (hS : S * S ≤ X) (hS' : X < (S + 1) * (S + 1)) :
    Fin .f64 (fsqrt x) ((rq 52 (2 * S + (S * S != X).toNat) 2 : Nat) : Int) := by
  have hl := h.lt_lim
  rw [Int.natAbs_natCast] at hl
  obtain ⟨s, m, i, h1, h2, h3⟩ := h
  have h2' : -1074 ≤ i := h2
  have lp : FloatKind.f64.format.leastPlace = -1074 := rfl
  rw [lp, signed_sg] at h3
  have hm := (read_number h1).1
  rcases Nat.eq_zero_or_pos m with h0 | h0
  · subst h0
    rw [Nat.zero_mul, sg_zero] at h3
    have hn : n = 0 := by omega
    subst hn
    rw [Nat.zero_mul] at hX0
    subst hX0
    have : S = 0 := by
      rcases Nat.eq_zero_or_pos S with h | h
      · exact h
      · have := Nat.mul_pos h h; omega
    subst this
    have e : fsqrt x = FloatKind.f64.format.write (.number s 0 i) := by
      have : FloatKind.f64.format.sqrt x = some (FloatKind.f64.format.write (.number s 0 i)) := by
        show ((FloatKind.f64.format.read x).root 54).map FloatKind.f64.format.write = _
        rw [h1]; rfl
      unfold fsqrt; rw [this]
    rw [e]
    have := fin_write (k := .f64) (s := s) (m := 0) (i := i) (A := 0) (B := 1) (by omega) (by rw [Nat.zero_mul, Nat.zero_mul, Nat.zero_mul]) (by rw [rq_zero]; exact limK_pos _)
    rw [rq_zero, sg_zero] at this
    have key : rq 52 (2 * 0 + (0 * 0 != 0).toNat) 2 = 0 := rq_zero _ _
    rw [key]
    exact this
  · have hs : s = false := by
      cases s
      · rfl
      · exfalso
        have : (0 : Int) < (m * 2 ^ (i - -1074).toNat : Nat) := by exact Int.natCast_pos.2 (Nat.mul_pos h0 (Nat.two_pow_pos _))
        unfold sg at h3
        rw [if_pos rfl] at h3
        omega
    subst hs
    have hn : n = m * 2 ^ (i + 1074).toNat := by
      have : sg false (m * 2 ^ (i - -1074).toNat) = ((m * 2 ^ (i - -1074).toNat : Nat) : Int) := rfl
      rw [this, show i - -1074 = i + 1074 by omega] at h3
      exact Int.ofNat.inj h3
    generalize hmore : 2 * 54 - m.log2 + ((i - ((2 * 54 - m.log2 : Nat) : Int)) % 2).toNat = more
    generalize hW : Datum.rootFrom (m <<< more) ((m <<< more).log2 / 2 + 1) 0 = W
    have e : fsqrt x = FloatKind.f64.format.write (.number false (2 * W + (W * W != m <<< more).toNat) ((i - more) / 2 - 1)) := by
      have : FloatKind.f64.format.sqrt x = some (FloatKind.f64.format.write (.number false (2 * W + (W * W != m <<< more).toNat) ((i - more) / 2 - 1))) := by
        show ((FloatKind.f64.format.read x).root 54).map FloatKind.f64.format.write = _
        rw [h1]
        unfold Datum.root
        simp only
        rw [if_neg (by omega), hmore, hW]
        rfl
      unfold fsqrt; rw [this]
    rw [e]
    have hr := rootFrom_ok (m <<< more)
    rw [hW, shl_eq] at hr
    rw [shl_eq]
    have hml : m.log2 < 53 := (Nat.log2_lt (by omega)).2 hm
    have heven : (i - more) % 2 = 0 := by omega
    have hmo : 108 ≤ m.log2 + more ∧ more ≤ 109 := by omega
    obtain ⟨E, hE⟩ : ∃ E : Nat, 2 * (E : Int) = 2148 + i - more := ⟨((2148 + i - more) / 2).toNat, by omega⟩
    have hX : X = m * 2 ^ more * (2 ^ E * 2 ^ E) := by
      have hsc : scK .f64 = 1074 := rfl
      rw [hX0, hn, Nat.mul_assoc, Nat.mul_assoc, ← Nat.pow_add, ← Nat.pow_add, ← Nat.pow_add]
      congr 2
      omega
    have hpE : 0 < 2 ^ E * 2 ^ E := Nat.mul_pos (Nat.two_pow_pos _) (Nat.two_pow_pos _)
    have hne : (W * W != m * 2 ^ more) = (W * W * (2 ^ E * 2 ^ E) != X) := by
      rw [hX]
      rw [Bool.eq_iff_iff, bne_iff_ne, bne_iff_ne]
      exact ⟨fun h h' => h (Nat.eq_of_mul_eq_mul_right hpE h'), fun h h' => h (by rw [h'])⟩
    rw [hne]
    have st := root_stick (e := E) hS hS' (by rw [hX]; exact Nat.mul_le_mul_right _ hr.1) (by rw [hX]; exact Nat.mul_lt_mul_of_pos_right hr.2 hpE)
    generalize hN : 2 * W + (W * W * (2 ^ E * 2 ^ E) != X).toNat = N at *
    generalize hY : 2 * S + (S * S != X).toNat = Y at *
    have hWb : 2 ^ 53 ≤ W := by
      rcases Nat.lt_or_ge W (2 ^ 53) with h | h
      · exfalso
        have h5 : (W + 1) * (W + 1) ≤ 2 ^ 53 * 2 ^ 53 := Nat.mul_le_mul h h
        have h6 : 2 ^ 108 ≤ m * 2 ^ more := by
          calc 2 ^ 108 ≤ 2 ^ (m.log2 + more) := Nat.pow_le_pow_right (by omega) (by omega)
            _ = 2 ^ m.log2 * 2 ^ more := Nat.pow_add ..
            _ ≤ m * 2 ^ more := Nat.mul_le_mul_right _ (le_log22 (by omega))
        have h7 : (2 : Nat) ^ 53 * 2 ^ 53 < 2 ^ 108 := by decide
        omega
      · exact h
    have hNb : 2 ^ (52 + 2) ≤ N := by rw [← hN]; omega
    have hE1 : 1 ≤ E := by omega
    have key := stick_rq (fb := 52) (u := E - 1) (v := 0) (Nat.two_pow_pos E) st hNb (.inr rfl)
    rw [Nat.pow_zero, Nat.mul_one] at key
    have rat : rq 52 (Y * 2 ^ (E - 1)) (2 ^ E) = rq 52 Y 2 := by
      obtain ⟨F, rfl⟩ : ∃ F, E = F + 1 := ⟨E - 1, by omega⟩
      rw [Nat.add_sub_cancel, Nat.pow_succ', rq_scale (Nat.two_pow_pos _)]
    rw [rat] at key
    have hlt : rq 52 (N * 2 ^ (E - 1)) 1 < limK .f64 := by
      rw [limK_pow]
      have hb : N * 2 ^ (E - 1) < 2 ^ 1700 := by
        have hW2 : W < 2 ^ 82 := by
          rcases Nat.lt_or_ge W (2 ^ 82) with h | h
          · exact h
          · exfalso
            have a1 := Nat.mul_le_mul h h
            have a2 : m * 2 ^ more < 2 ^ 53 * 2 ^ 109 := by
              calc m * 2 ^ more < 2 ^ 53 * 2 ^ more := Nat.mul_lt_mul_of_pos_right hm (Nat.two_pow_pos _)
                _ ≤ 2 ^ 53 * 2 ^ 109 := Nat.mul_le_mul_left _ (Nat.pow_le_pow_right (by omega) hmo.2)
            have a3 : (2 : Nat) ^ 53 * 2 ^ 109 < 2 ^ 82 * 2 ^ 82 := by decide +kernel
            omega
        have hNlt : N < 2 ^ 84 := by
          have : (W * W * (2 ^ E * 2 ^ E) != X).toNat ≤ 1 := by cases (W * W * (2 ^ E * 2 ^ E) != X) <;> decide
          have a4 : (2 : Nat) ^ 84 = 4 * 2 ^ 82 := by decide +kernel
          omega
        have hi : i ≤ 1000 := by
          rcases Int.lt_or_le 1000 i with h | h
          · have hi2 := (read_number h1).2.2
            have : (FloatKind.f64.format.infRung / FloatKind.f64.format.binade : Nat) = 2047 := by decide +kernel
            rw [this, lp] at hi2
            omega
          · exact h
        calc N * 2 ^ (E - 1) < 2 ^ 84 * 2 ^ (E - 1) := Nat.mul_lt_mul_of_pos_right hNlt (Nat.two_pow_pos _)
          _ = 2 ^ (84 + (E - 1)) := (Nat.pow_add ..).symm
          _ ≤ 2 ^ 1700 := Nat.pow_le_pow_right (by omega) (by omega)
      have h5 : rq 52 (N * 2 ^ (E - 1)) 1 ≤ 2 * (N * 2 ^ (E - 1)) + 2 ^ 53 := by
        generalize N * 2 ^ (E - 1) = A
        unfold rq
        rw [Nat.one_mul]
        have a1 := rqN_le A (2 ^ rqS 52 A 1)
        have a2 := Nat.mul_le_mul_right (2 ^ rqS 52 A 1) a1
        rw [Nat.add_mul, Nat.one_mul] at a2
        have a3 := Nat.div_mul_le_self A (2 ^ rqS 52 A 1)
        have a4 : 2 ^ rqS 52 A 1 ≤ A + 1 := by
          unfold rqS
          rw [Nat.div_one]
          rcases Nat.eq_zero_or_pos A with h | h
          · subst h; decide
          · exact Nat.le_trans (Nat.pow_le_pow_right (by omega) (Nat.sub_le _ _)) (Nat.le_trans (le_log22 (by omega)) (Nat.le_succ _))
        omega
      have h6 : (2 : Nat) ^ 1700 * 2 + 2 ^ 53 < 2 ^ limE .f64 := by decide +kernel
      generalize 2 ^ limE .f64 = l at *
      generalize 2 ^ 1700 = l' at *
      omega
    have hfw := fin_write (k := .f64) (s := false) (m := N) (i := (i - more) / 2 - 1) (A := N * 2 ^ (E - 1)) (B := 1) (by omega) (by
      show N * 2 ^ ((i - more) / 2 - 1 + 1074).toNat * 1 = N * 2 ^ (E - 1) * 2 ^ (-1074 - ((i - more) / 2 - 1)).toNat
      rw [show ((i - more) / 2 - 1 + 1074).toNat = E - 1 by omega, show (-1074 - ((i - more) / 2 - 1)).toNat = 0 by omega]) hlt
    rw [key]
    exact hfw
end Go.Fw

/-
  Floats evaluated by the kernel: mantissas and exponents as natural numbers; 'bad': nothing is said.
-/
namespace Go.Fw
open Ieee (Datum Format Toward signed)
inductive V where
  | zero
  | num (b : Bool) (m s : Nat)
  | bad
def Rep (k : FloatKind) (w : Nat) : V → Prop
  | .zero => Fin k w 0
  | .num b m s => Fin k w (sg b (m * 2 ^ s))
  | .bad => True
noncomputable def bx (b c : Bool) : Bool := Bool.rec c (Bool.rec true false c) b
theorem rI_0 {k : FloatKind} (D : Nat) : rI k 0 D = 0 := by unfold rI; rw [Int.natAbs_zero, rq_zero, sg_zero]
end Go.Fw

/-
  Floats evaluated by the kernel: sums, roots, conversions, comparisons.
-/
namespace Go.Fw
open Ieee (Datum Format Toward signed)
def RR (k : FloatKind) (w : Nat) (b : Bool) (A : Nat) : Prop := rq (fbK k) A 1 < limK k → Fin k w (sg b (rq (fbK k) A 1))
def RI (k : FloatKind) (w : Nat) (z : Int) : Prop := (rI k z 1).natAbs < limK k → Fin k w (rI k z 1)
theorem RI.sg {k : FloatKind} {w A : Nat} {b : Bool} (h : RI k w (sg b A)) : RR k w b A := fun hl => by
  unfold RI at h
  rw [rI_sg, sg_abs] at h
  exact h hl
theorem Fin.exact {k : FloatKind} {w : Nat} {n : Int} (h : Fin k w n) : rI k n 1 = n := by
  obtain ⟨m, p, h1, h2⟩ := h.small
  exact rI_exact h1 h2
end Go.Fw

/-
  Floats evaluated by the kernel: conversions, roots, comparisons; the operations of 32 and of 64 bits.
-/
namespace Go.Fw
open Ieee (Datum Format Toward signed)
noncomputable def vgood (x : V) : Bool := V.rec true (fun _ _ _ => true) false x
theorem exists_root (X : Nat) : ∃ S, S * S ≤ X ∧ X < (S + 1) * (S + 1) := ⟨_, rootFrom_ok X⟩
noncomputable def vmag (x : V) : Nat := V.rec 0 (fun _ m s => Nat.mul m (Nat.pow 2 s)) 0 x
noncomputable def vlow (x : V) : Bool := V.rec false (fun b _ _ => b) false x
theorem rep_val {k : FloatKind} {x : Nat} {a : V} (hx : Rep k x a) (h : vgood a = true) : Fin k x (sg (vlow a) (vmag a)) := by
  cases a with
  | bad => cases h
  | zero => exact hx
  | num b m s => exact hx
def vofD (k : FloatKind) : Datum → V
  | .number s m i => if m = 0 then .zero else .num s m (i - k.format.leastPlace).toNat
  | _ => .bad
def vof (k : FloatKind) (w : Nat) : V := vofD k (k.format.read w)
theorem rep_of (k : FloatKind) (w : Nat) : Rep k w (vof k w) := by
  unfold vof
  cases h : k.format.read w with
  | nan s t => trivial
  | infinity s => trivial
  | number s m i =>
    have hl : k.format.leastPlace ≤ i := by
      rcases (read_number h).2.1 with h1 | h1
      · omega
      · exact h1.2
    unfold vofD
    simp only
    by_cases h0 : m = 0
    · subst h0
      rw [if_pos rfl]
      exact ⟨s, 0, i, h, hl, by rw [signed_sg, Nat.zero_mul, sg_zero]⟩
    · rw [if_neg h0]
      exact ⟨s, m, i, h, hl, by rw [signed_sg]⟩
end Go.Fw

/-
  Floats that are finite numbers, told as fractions; how far from the exact results the operations' are.
-/
namespace Go.Fw
def Near (d e : Rat) : Prop := -e ≤ d ∧ d ≤ e
theorem Near.nonneg {d e : Rat} (h : Near d e) : 0 ≤ e := by unfold Near at h; grind
theorem Near.add {a b A B : Rat} (h : Near a A) (h' : Near b B) : Near (a + b) (A + B) := by unfold Near at *; grind
theorem Near.sub {a b A B : Rat} (h : Near a A) (h' : Near b B) : Near (a - b) (A + B) := by unfold Near at *; grind
theorem Near.neg {a A : Rat} (h : Near a A) : Near (-a) A := by unfold Near at *; grind
theorem Near.mono {a A B : Rat} (h : Near a A) (h' : A ≤ B) : Near a B := by unfold Near at *; grind
theorem Near.zero {A : Rat} (h : 0 ≤ A) : Near 0 A := by unfold Near; grind
theorem Near.mul {a b A B : Rat} (h : Near a A) (h' : Near b B) : Near (a * b) (A * B) := by
  have hA := h.nonneg
  have hB := h'.nonneg
  unfold Near at *
  have h1 := Rat.mul_nonneg (show 0 ≤ A - a by grind) (show 0 ≤ B + b by grind)
  have h2 := Rat.mul_nonneg (show 0 ≤ A + a by grind) (show 0 ≤ B - b by grind)
  have h3 := Rat.mul_nonneg (show 0 ≤ A - a by grind) (show 0 ≤ B - b by grind)
  have h4 := Rat.mul_nonneg (show 0 ≤ A + a by grind) (show 0 ≤ B + b by grind)
  constructor <;> grind
theorem rqN_near {A D : Nat} (hD : 0 < D) : 2 * (rqN A D * D) ≤ 2 * A + D ∧ 2 * A ≤ 2 * (rqN A D * D) + D := by
  unfold rqN
  have h1 := Nat.div_add_mod A D
  have h2 := Nat.mod_lt A hD
  generalize A / D = q at *
  generalize A % D = r at *
  cases h : (Nat.blt D (2 * r) || (Nat.beq D (2 * r) && Nat.beq (q % 2) 1))
  · have : ¬ D < 2 * r := fun h' => by
      rw [show Nat.blt D (2 * r) = true by rw [Nat.blt_eq]; exact h'] at h; cases h
    rw [cond_false, Nat.mul_comm q D]
    show 2 * (D * q) ≤ _ ∧ _ ≤ 2 * (D * q) + D
    omega
  · have : D ≤ 2 * r := by
      simp only [Bool.or_eq_true, Bool.and_eq_true, Nat.blt_eq, Nat.beq_eq] at h
      omega
    rw [cond_true, Nat.add_mul, Nat.mul_comm q D]; omega
theorem rq_near {fb A B : Nat} (hB : 0 < B) : rq fb A B * B * 2 ^ (fb + 1) ≤ A * 2 ^ (fb + 1) + (A + B * 2 ^ fb) ∧ A * 2 ^ (fb + 1) ≤ rq fb A B * B * 2 ^ (fb + 1) + (A + B * 2 ^ fb) := by
  have hp := Nat.two_pow_pos (rqS fb A B)
  have hD : 0 < B * 2 ^ rqS fb A B := Nat.mul_pos hB hp
  obtain ⟨h1, h2⟩ := rqN_near (A := A) hD
  have e : rq fb A B * B = rqN A (B * 2 ^ rqS fb A B) * (B * 2 ^ rqS fb A B) := by
    unfold rq
    rw [Nat.mul_assoc, Nat.mul_comm (2 ^ rqS fb A B) B]
  rw [e]
  have h3 : B * 2 ^ rqS fb A B * 2 ^ fb ≤ A + B * 2 ^ fb := by
    rcases Nat.eq_zero_or_pos (rqS fb A B) with h | h
    · rw [h, Nat.pow_zero, Nat.mul_one]; omega
    · have := rqS_lo h
      have := (Nat.le_div_iff_mul_le hD).1 this
      rw [Nat.mul_comm] at this
      omega
  generalize rqN A (B * 2 ^ rqS fb A B) * (B * 2 ^ rqS fb A B) = N at *
  generalize B * 2 ^ rqS fb A B = D at *
  rw [Nat.pow_succ]
  have a1 := Nat.mul_le_mul_right (2 ^ fb) h1
  have a2 := Nat.mul_le_mul_right (2 ^ fb) h2
  rw [Nat.add_mul] at a1 a2
  have e1 : N * (2 ^ fb * 2) = 2 * N * 2 ^ fb := by rw [Nat.mul_comm (2 ^ fb) 2, ← Nat.mul_assoc, Nat.mul_comm N 2]
  have e2 : A * (2 ^ fb * 2) = 2 * A * 2 ^ fb := by rw [Nat.mul_comm (2 ^ fb) 2, ← Nat.mul_assoc, Nat.mul_comm A 2]
  rw [e1, e2]
  omega
def ur (k : FloatKind) : Rat := 1 / ((2 ^ (fbK k + 1) : Nat) : Rat)
def hf : Rat := 1 / 2
theorem hf2 : hf + hf = 1 := by decide +kernel
def unit (k : FloatKind) : Rat := ((2 ^ scK k : Nat) : Rat)
def tiny (k : FloatKind) : Rat := 1 / (2 * unit k)
theorem unit_pos (k : FloatKind) : 0 < unit k := Rat.natCast_pos.2 (Nat.two_pow_pos _)
theorem ur_pos (k : FloatKind) : 0 < ur k := by
  unfold ur
  rw [Rat.lt_div_iff (Rat.natCast_pos.2 (Nat.two_pow_pos _)), Rat.zero_mul]; decide
theorem tiny_unit (k : FloatKind) : tiny k * unit k = hf := by
  unfold tiny
  have := unit_pos k
  have h : (2 * unit k) ≠ 0 := by grind
  have := Rat.div_mul_cancel (a := 1) h
  have := hf2
  grind
theorem tiny_pos (k : FloatKind) : 0 < tiny k := by
  have h1 := unit_pos k
  have h2 := tiny_unit k
  by_cases h : 0 < tiny k
  · exact h
  · have := Rat.mul_le_mul_of_nonneg_right (show tiny k ≤ 0 by grind) (show 0 ≤ unit k by grind)
    have := hf2
    grind
def Val (k : FloatKind) (w : Nat) (q : Rat) : Prop := ∃ n : Int, Fin k w n ∧ (n : Rat) = q * unit k
theorem Val.unique {k : FloatKind} {w : Nat} {a b : Rat} (h : Val k w a) (h' : Val k w b) : a = b := by
  obtain ⟨n, h1, h2⟩ := h
  obtain ⟨m, h3, h4⟩ := h'
  rw [h1.unique h3, h4] at h2
  have := unit_pos k
  have h5 : (a - b) * unit k = 0 := by grind
  rcases Rat.mul_eq_zero.1 h5 with h | h <;> grind
theorem Fin.val {k : FloatKind} {w : Nat} {n : Int} (h : Fin k w n) : Val k w ((n : Rat) / unit k) := ⟨n, h, by
  have := unit_pos k
  rw [Rat.div_mul_cancel (by grind)]⟩
theorem rI_near {k : FloatKind} {z : Int} {D : Nat} {x X : Rat} (hD : 0 < D) (hx : x * (D : Rat) = (z : Rat)) (hX : Near x X) : Near ((rI k z D : Rat) - x) (X * ur k + hf) := by
  have hd : (0 : Rat) < (D : Rat) := Rat.natCast_pos.2 hD
  obtain ⟨h1, h2⟩ := rq_near (fb := fbK k) (A := z.natAbs) hD
  have h1 := Rat.natCast_le_natCast.2 h1
  have h2 := Rat.natCast_le_natCast.2 h2
  simp only [Rat.natCast_mul, Rat.natCast_add] at h1 h2
  have hP : (0 : Rat) < ((2 ^ fbK k : Nat) : Rat) := Rat.natCast_pos.2 (Nat.two_pow_pos _)
  have hP1 : ((2 ^ (fbK k + 1) : Nat) : Rat) = 2 * ((2 ^ fbK k : Nat) : Rat) := by
    rw [Nat.pow_succ', Rat.natCast_mul]; rfl
  have hu : ur k * (2 * ((2 ^ fbK k : Nat) : Rat)) = 1 := by
    unfold ur
    rw [hP1, Rat.div_mul_cancel (by grind)]
  rw [hP1] at h1 h2
  have hh := hf2
  have main : ∀ y : Rat, y * (D : Rat) = (z.natAbs : Rat) → y ≤ X → Near ((rq (fbK k) z.natAbs D : Rat) - y) (X * ur k + hf) := fun y hy hyX => by
    rw [← hy] at h1 h2
    generalize (rq (fbK k) z.natAbs D : Rat) = r at *
    generalize ((2 ^ fbK k : Nat) : Rat) = P at *
    generalize (D : Rat) = d at *
    have hX0 := hX.nonneg
    have a1 : (d * P) * (2 * r) ≤ (d * P) * (2 * y + y * (ur k * 2) + 1) := by
      have : y * d = y * d * (ur k * (2 * P)) := by rw [hu, Rat.mul_one]
      grind
    have a2 : (d * P) * (2 * y) ≤ (d * P) * (2 * r + y * (ur k * 2) + 1) := by
      have : y * d = y * d * (ur k * (2 * P)) := by rw [hu, Rat.mul_one]
      grind
    have hdP := Rat.mul_pos hd hP
    have a1 := Rat.le_of_mul_le_mul_left a1 hdP
    have a2 := Rat.le_of_mul_le_mul_left a2 hdP
    have hur := ur_pos k
    have := Rat.mul_le_mul_of_nonneg_right hyX (Rat.le_of_lt hur)
    unfold Near
    constructor <;> grind
  unfold Near at hX
  by_cases hz : z < 0
  · have hn : (z.natAbs : Rat) = -(z : Rat) := by
      have e : (z.natAbs : Int) = -z := by omega
      rw [← Rat.intCast_natCast, e, Rat.intCast_neg]
    have := main (-x) (by rw [hn]; grind) (by grind)
    unfold rI sg
    rw [decide_eq_true hz, if_pos rfl, Rat.intCast_neg, Rat.intCast_natCast]
    unfold Near at *
    constructor <;> grind
  · have hn : (z.natAbs : Rat) = (z : Rat) := by
      have e : (z.natAbs : Int) = z := by omega
      rw [← Rat.intCast_natCast, e]
    have := main x (by rw [hn]; grind) (by grind)
    unfold rI sg
    rw [decide_eq_false hz, if_neg (by decide), Rat.intCast_natCast]
    exact this
def most : Rat := 2 ^ 100
theorem lim_most (k : FloatKind) : most * 2 * unit k + 1 ≤ ((limK k : Nat) : Rat) := by cases k <;> decide +kernel
theorem ur_half (k : FloatKind) : ur k ≤ hf := by cases k <;> decide +kernel
theorem rI_lim {k : FloatKind} {z : Int} {D : Nat} {x X : Rat} (hD : 0 < D) (hx : x * (D : Rat) = (z : Rat)) (hX : Near x (X * unit k)) (hm : X ≤ most) : (rI k z D).natAbs < limK k := by
  have h := rI_near (k := k) hD hx hX
  have hu := unit_pos k
  have h0 := hX.nonneg
  have h1 := lim_most k
  have h2 := ur_half k
  have h4 := Rat.mul_le_mul_of_nonneg_left h2 h0
  have h5 := Rat.mul_le_mul_of_nonneg_right hm (Rat.le_of_lt hu)
  have hh := hf2
  have h6 : (0 : Rat) ≤ most := by decide
  have h7 := Rat.mul_nonneg h6 (Rat.le_of_lt hu)
  have h8 : X * unit k * hf + X * unit k * hf = X * unit k := by rw [← Rat.mul_add, hh, Rat.mul_one]
  unfold Near at *
  have k1 : (rI k z D : Rat) < ((limK k : Nat) : Rat) := by grind
  have k2 : -((limK k : Nat) : Rat) < (rI k z D : Rat) := by grind
  rw [← Rat.intCast_natCast] at k1 k2
  rw [← Rat.intCast_neg] at k2
  have k1 := Rat.intCast_lt_intCast.1 k1
  have k2 := Rat.intCast_lt_intCast.1 k2
  omega
theorem rI_val {k : FloatKind} {w : Nat} {z : Int} {D : Nat} {x X : Rat} (hD : 0 < D) (hx : x * unit k * (D : Rat) = (z : Rat)) (hX : Near x X) (hm : X ≤ most) (h : (rI k z D).natAbs < limK k → Fin k w (rI k z D)) : ∃ c, Val k w c ∧ Near (c - x) (X * ur k + tiny k) := by
  have hu := unit_pos k
  have hXu : Near (x * unit k) (X * unit k) := by
    unfold Near at *
    have := Rat.mul_le_mul_of_nonneg_right hX.1 (Rat.le_of_lt hu)
    have := Rat.mul_le_mul_of_nonneg_right hX.2 (Rat.le_of_lt hu)
    grind
  refine ⟨_, (h (rI_lim hD hx hXu hm)).val, ?_⟩
  have hn := rI_near (k := k) hD hx hXu
  have ht := tiny_unit k
  have hh := hf2
  have hc : (rI k z D : Rat) / unit k * unit k = (rI k z D : Rat) := Rat.div_mul_cancel (by grind)
  generalize (rI k z D : Rat) / unit k = c at *
  rw [← hc] at hn
  unfold Near at *
  constructor
  · refine Rat.le_of_mul_le_mul_right (c := unit k) ?_ hu; grind
  · refine Rat.le_of_mul_le_mul_right (c := unit k) ?_ hu; grind
theorem Val.add {k : FloatKind} {x y : Nat} {a b X : Rat} (hx : Val k x a) (hy : Val k y b) (hX : Near (a + b) X) (hm : X ≤ most) : ∃ c, Val k (fop .add k x y) c ∧ Near (c - (a + b)) (X * ur k + tiny k) := by
  obtain ⟨n, h1, h2⟩ := hx
  obtain ⟨m, h3, h4⟩ := hy
  exact rI_val (z := n + m) (D := 1) (by omega) (by rw [Rat.intCast_add, h2, h4]; grind) hX hm (Fin.add h1 h3)
theorem Val.sub {k : FloatKind} {x y : Nat} {a b X : Rat} (hx : Val k x a) (hy : Val k y b) (hX : Near (a - b) X) (hm : X ≤ most) : ∃ c, Val k (fop .sub k x y) c ∧ Near (c - (a - b)) (X * ur k + tiny k) := by
  obtain ⟨n, h1, h2⟩ := hx
  obtain ⟨m, h3, h4⟩ := hy
  exact rI_val (z := n - m) (D := 1) (by omega) (by rw [Rat.intCast_sub, h2, h4]; grind) hX hm (Fin.sub h1 h3)
theorem Val.mul {k : FloatKind} {x y : Nat} {a b X : Rat} (hx : Val k x a) (hy : Val k y b) (hX : Near (a * b) X) (hm : X ≤ most) : ∃ c, Val k (fop .mul k x y) c ∧ Near (c - (a * b)) (X * ur k + tiny k) := by
  obtain ⟨n, h1, h2⟩ := hx
  obtain ⟨m, h3, h4⟩ := hy
  exact rI_val (z := n * m) (D := 2 ^ scK k) (Nat.two_pow_pos _) (by rw [Rat.intCast_mul, h2, h4]; show a * b * unit k * unit k = _; grind) hX hm (Fin.mul h1 h3)
theorem Val.neg {k : FloatKind} {x : Nat} {a : Rat} (hx : Val k x a) : Val k (fneg k x) (-a) := by
  obtain ⟨n, h1, h2⟩ := hx
  exact ⟨-n, h1.neg, by rw [Rat.intCast_neg, h2]; grind⟩
end Go.Fw

/-
  Roots, widening and narrowing as fractions.
-/
namespace Go.Fw
theorem sc_add : scK .f64 = scK .f32 + scD := by rw [scD_eq]; rfl
theorem unit_64 : unit .f64 = unit .f32 * ((2 ^ scD : Nat) : Rat) := by
  unfold unit
  rw [← Rat.natCast_mul, ← Nat.pow_add, sc_add]
theorem Val.widen {x : Nat} {a : Rat} (hx : Val .f32 x a) : Val .f64 (fcvt .f32 .f64 x) a := by
  obtain ⟨n, h1, h2⟩ := hx
  refine ⟨_, Fin.widen scD_eq h1, ?_⟩
  rw [Rat.intCast_mul, h2, Rat.intCast_natCast]
  rw [unit_64]
  grind
theorem Val.narrow {x : Nat} {a X : Rat} (hx : Val .f64 x a) (hX : Near a X) (hm : X ≤ most) : (∃ c, Val .f32 (fcvt .f64 .f32 x) c ∧ Near (c - a) (X * ur .f32 + tiny .f32)) ∧ fcvtOk .f64 .f32 x = true := by
  obtain ⟨n, h1, h2⟩ := hx
  have e := unit_64
  have hz : a * unit .f32 * ((2 ^ scD : Nat) : Rat) = (n : Rat) := by rw [h2, e]; grind
  refine ⟨rI_val (Nat.two_pow_pos _) hz hX hm fun hl => (Fin.narrow scD_eq h1 hl).1, (Fin.narrow scD_eq h1 ?_).2⟩
  refine rI_lim (Nat.two_pow_pos _) hz ?_ hm
  unfold Near at *
  have hu := unit_pos .f32
  have := Rat.mul_le_mul_of_nonneg_right hX.1 (Rat.le_of_lt hu)
  have := Rat.mul_le_mul_of_nonneg_right hX.2 (Rat.le_of_lt hu)
  grind
def e53 : Rat := 1 / 9007199254740992
theorem e53_pos : 0 < e53 := by decide +kernel
theorem e53_small : e53 * 1024 ≤ 1 := by decide +kernel
theorem sq_mono {a b : Rat} (h : 0 ≤ a) (h' : a ≤ b) : a * a ≤ b * b := by
  have h1 := Rat.mul_le_mul_of_nonneg_right h' h
  have h2 := Rat.mul_le_mul_of_nonneg_left h' (Rat.le_trans h h')
  exact Rat.le_trans h1 h2
theorem root_core {r S X e : Rat} (he : 0 < e) (hs : e * 1024 ≤ 1) (hS : 1 ≤ S * e) (h1 : S * S ≤ X) (h2 : X ≤ (S + 1) * (S + 1)) (h3 : r ≤ S * (1 + e) + 2) (h4 : S * (1 - e) - 1 ≤ r) (hS0 : 0 < S) : Near (r * r - X) (X * (8 * e)) := by
  have a1 : r ≤ S * (1 + 3 * e) := by grind
  have a2 : S * (1 - 2 * e) ≤ r := by grind
  have hSe := Rat.mul_pos hS0 he
  have hS2e : 2 * e ≤ 1 := by grind
  have hlow : 0 ≤ S * (1 - 2 * e) := Rat.mul_nonneg (Rat.le_of_lt hS0) (by grind)
  have a3 := sq_mono (Rat.le_trans hlow a2) a1
  have a4 := sq_mono hlow a2
  have hSS := Rat.mul_pos hS0 hS0
  have hSSe := Rat.mul_pos hSS he
  have ee : (S * S * e) * (e * 1024) ≤ (S * S * e) * 1 := Rat.mul_le_mul_of_nonneg_left hs (Rat.le_of_lt hSSe)
  have b1 : r * r ≤ S * S + 7 * (S * S * e) := by grind
  have b2 : S * S - 4 * (S * S * e) ≤ r * r := by
    have : 0 ≤ S * S * e * e := Rat.le_of_lt (Rat.mul_pos hSSe he)
    grind
  have hXe : S * S * e ≤ X * e := Rat.mul_le_mul_of_nonneg_right h1 (Rat.le_of_lt he)
  have c1 : X ≤ S * S + 3 * (S * S * e) := by
    have k1 : S ≤ S * S * e := by
      have := Rat.mul_le_mul_of_nonneg_left hS (Rat.le_of_lt hS0)
      grind
    have k2 : 1 ≤ S := by
      have : S * e * 1024 ≤ S := by
        have := Rat.mul_le_mul_of_nonneg_left hs (Rat.le_of_lt hS0)
        grind
      grind
    grind
  unfold Near
  constructor <;> grind
theorem Val.root64 {x : Nat} {a : Rat} (hx : Val .f64 x a) (h0 : a = 0 ∨ (1 : Rat) / 2 ^ 200 ≤ a) : ∃ s, Val .f64 (fsqrt x) s ∧ 0 ≤ s ∧ Near (s * s - a) (a * (8 * e53)) := by
  obtain ⟨n, h1, h2⟩ := hx
  have hu := unit_pos .f64
  rcases h0 with h0 | h0
  · subst h0
    rw [Rat.zero_mul] at h2
    have hn : n = 0 := Rat.intCast_eq_zero_iff.1 h2
    subst hn
    have h0 := Fin.sqrt (x := x) (n := 0) (X := 0) (S := 0) h1 (by rw [Nat.zero_mul]) (by omega) (by omega)
    have e0 : (rq 52 (2 * 0 + (0 * 0 != 0).toNat) 2 : Nat) = 0 := rq_zero _ _
    rw [e0] at h0
    exact ⟨0, ⟨0, h0, by rw [Rat.zero_mul]; rfl⟩, by decide, by unfold Near; constructor <;> grind⟩
  · have hpos : (0 : Rat) < (n : Rat) := by
      rw [h2]
      exact Rat.mul_pos (by have : (0 : Rat) < 1 / 2 ^ 200 := by decide +kernel
                            grind) hu
    have hn0 : 0 < n := Rat.intCast_pos.1 hpos
    obtain ⟨m, rfl⟩ : ∃ m : Nat, n = (m : Int) := ⟨n.toNat, (Int.toNat_of_nonneg (by omega)).symm⟩
    obtain ⟨S, hS, hS'⟩ := exists_root (m * 2 ^ scK .f64)
    have hq := Fin.sqrt h1 rfl hS hS'
    generalize hd : (S * S != m * 2 ^ scK .f64).toNat = d at hq
    have hd1 : d ≤ 1 := by rw [← hd]; cases (S * S != m * 2 ^ scK .f64) <;> decide
    obtain ⟨q1, q2⟩ := rq_near (fb := 52) (A := 2 * S + d) (B := 2) (by omega)
    generalize rq 52 (2 * S + d) 2 = r at *
    have hXr : ((m * 2 ^ scK .f64 : Nat) : Rat) = a * unit .f64 * unit .f64 := by
      rw [Rat.natCast_mul, ← Rat.intCast_natCast m, h2]; rfl
    have big : (2 : Rat) ^ 120 ≤ (S : Rat) := by
      by_cases hb : (2 : Rat) ^ 120 ≤ (S : Rat)
      · exact hb
      · exfalso
        have hlt : (S : Rat) < 2 ^ 120 := by grind
        have hlt' : S < 2 ^ 120 := by
          have : (S : Rat) < ((2 ^ 120 : Nat) : Rat) := by
            rw [show ((2 ^ 120 : Nat) : Rat) = 2 ^ 120 by decide +kernel]; exact hlt
          exact Rat.natCast_lt_natCast.1 this
        have : (S + 1) * (S + 1) ≤ 2 ^ 120 * 2 ^ 120 := Nat.mul_le_mul hlt' hlt'
        have h5 : m * 2 ^ scK .f64 < 2 ^ 240 := Nat.lt_of_lt_of_le hS' (by rw [← Nat.pow_add] at this; exact this)
        have h6 := Rat.natCast_lt_natCast.2 h5
        rw [hXr] at h6
        have k1 := Rat.mul_le_mul_of_nonneg_right h0 (Rat.le_of_lt (Rat.mul_pos hu hu))
        have k2 : ((2 ^ 240 : Nat) : Rat) ≤ 1 / 2 ^ 200 * (unit .f64 * unit .f64) := by decide +kernel
        grind
    have hS0 : (0 : Rat) < (S : Rat) := by
      have : (0 : Rat) < 2 ^ 120 := by decide +kernel
      grind
    have core : Near ((r : Rat) * r - ((m * 2 ^ scK .f64 : Nat) : Rat)) (((m * 2 ^ scK .f64 : Nat) : Rat) * (8 * e53)) := by
      refine root_core (S := (S : Rat)) e53_pos e53_small ?_ ?_ ?_ ?_ ?_ hS0
      · have := Rat.mul_le_mul_of_nonneg_right big (Rat.le_of_lt e53_pos)
        have k : (1 : Rat) ≤ 2 ^ 120 * e53 := by decide +kernel
        grind
      · have := Rat.natCast_le_natCast.2 hS
        rw [Rat.natCast_mul] at this
        exact this
      · have := Rat.natCast_le_natCast.2 (Nat.le_of_lt hS')
        rw [Rat.natCast_mul (S + 1), Rat.natCast_add] at this
        exact this
      · have q1 := Rat.natCast_le_natCast.2 q1
        have hdr := Rat.natCast_le_natCast.2 hd1
        simp only [Rat.natCast_mul, Rat.natCast_add] at q1
        have p1 : ((2 ^ (52 + 1) : Nat) : Rat) * e53 = 1 := by decide +kernel
        have p2 : ((2 ^ 52 : Nat) : Rat) * e53 = hf := by decide +kernel
        have hh := hf2
        have k1 := Rat.mul_le_mul_of_nonneg_right q1 (Rat.le_of_lt e53_pos)
        have d0 : (0 : Rat) ≤ (d : Rat) := Rat.natCast_nonneg
        have l1 : ((2 : Nat) : Rat) = 2 := rfl
        have l2 : ((1 : Nat) : Rat) = 1 := rfl
        rw [l1] at k1
        rw [l2] at hdr
        generalize ((2 ^ (52 + 1) : Nat) : Rat) = P at *
        generalize ((2 ^ 52 : Nat) : Rat) = Q at *
        have es := e53_small
        have ep := e53_pos
        have g1 : (r : Rat) * 2 * P * e53 = (r : Rat) * 2 := by rw [Rat.mul_assoc, p1, Rat.mul_one]
        have g2 : (2 * (S : Rat) + (d : Rat)) * P * e53 = 2 * (S : Rat) + (d : Rat) := by rw [Rat.mul_assoc, p1, Rat.mul_one]
        have g3 : 2 * Q * e53 = 1 := by rw [Rat.mul_assoc, p2]; grind
        have g4 : (d : Rat) * e53 ≤ 1 * e53 := Rat.mul_le_mul_of_nonneg_right hdr (Rat.le_of_lt ep)
        grind
      · have q2 := Rat.natCast_le_natCast.2 q2
        have hdr := Rat.natCast_le_natCast.2 hd1
        simp only [Rat.natCast_mul, Rat.natCast_add] at q2
        have p1 : ((2 ^ (52 + 1) : Nat) : Rat) * e53 = 1 := by decide +kernel
        have p2 : ((2 ^ 52 : Nat) : Rat) * e53 = hf := by decide +kernel
        have hh := hf2
        have k1 := Rat.mul_le_mul_of_nonneg_right q2 (Rat.le_of_lt e53_pos)
        have d0 : (0 : Rat) ≤ (d : Rat) := Rat.natCast_nonneg
        have l1 : ((2 : Nat) : Rat) = 2 := rfl
        have l2 : ((1 : Nat) : Rat) = 1 := rfl
        rw [l1] at k1
        rw [l2] at hdr
        generalize ((2 ^ (52 + 1) : Nat) : Rat) = P at *
        generalize ((2 ^ 52 : Nat) : Rat) = Q at *
        have es := e53_small
        have ep := e53_pos
        have g1 : (r : Rat) * 2 * P * e53 = (r : Rat) * 2 := by rw [Rat.mul_assoc, p1, Rat.mul_one]
        have g2 : (2 * (S : Rat) + (d : Rat)) * P * e53 = 2 * (S : Rat) + (d : Rat) := by rw [Rat.mul_assoc, p1, Rat.mul_one]
        have g3 : 2 * Q * e53 = 1 := by rw [Rat.mul_assoc, p2]; grind
        have g4 : (d : Rat) * e53 ≤ 1 * e53 := Rat.mul_le_mul_of_nonneg_right hdr (Rat.le_of_lt ep)
        grind
    refine ⟨_, hq.val, ?_, ?_⟩
    · rw [Rat.intCast_natCast]
      refine Rat.le_of_mul_le_mul_right (c := unit .f64) ?_ hu
      rw [Rat.div_mul_cancel (by grind), Rat.zero_mul]
      exact Rat.natCast_nonneg
    · rw [Rat.intCast_natCast]
      have hc : (r : Rat) / unit .f64 * unit .f64 = (r : Rat) := Rat.div_mul_cancel (by grind)
      generalize (r : Rat) / unit .f64 = c at *
      rw [hXr, ← hc] at core
      have huu := Rat.mul_pos hu hu
      unfold Near at *
      constructor
      · refine Rat.le_of_mul_le_mul_right (c := unit .f64 * unit .f64) ?_ huu; grind
      · refine Rat.le_of_mul_le_mul_right (c := unit .f64 * unit .f64) ?_ huu; grind
end Go.Fw

/-
  32-bit numbers near exact fractions: bounds in parts of 2 ^ 60, which the kernel computes.
-/
namespace Go.Fw
def e22 : Rat := 1 / 4194304
theorem e22_pos : 0 < e22 := by decide +kernel
theorem ur32 : ur .f32 * 4 = e22 := by decide +kernel
theorem val_pos {w : Nat} {a : Rat} (h : Val .f32 w a) (h0 : 0 < a) : (1 : Rat) / 2 ^ 149 ≤ a := by
  obtain ⟨n, _, h2⟩ := h
  have hu := unit_pos .f32
  have : (0 : Rat) < (n : Rat) := by rw [h2]; exact Rat.mul_pos h0 hu
  have hn := Rat.intCast_pos.1 this
  have h1 : ((1 : Int) : Rat) ≤ (n : Rat) := Rat.intCast_le_intCast.2 hn
  rw [h2] at h1
  refine Rat.le_of_mul_le_mul_right (c := unit .f32) ?_ hu
  have e : (1 : Rat) / 2 ^ 149 * unit .f32 = ((1 : Int) : Rat) := by decide +kernel
  rw [e]; exact h1
theorem lt_of_sq {a b : Rat} (hb : 0 ≤ b) (h : a * a < b * b) : a < b := by
  by_cases h' : a < b
  · exact h'
  · have := sq_mono hb (show b ≤ a by grind)
    grind
theorem le_of_sq {a b : Rat} (hb : 0 ≤ b) (h : a * a ≤ b * b) : a ≤ b := by
  by_cases h' : a ≤ b
  · exact h'
  · have h1 : b < a := by grind
    have h2 := Rat.mul_lt_mul_of_pos_right h1 (show 0 < a by grind)
    have h3 := Rat.mul_le_mul_of_nonneg_left (Rat.le_of_lt h1) hb
    grind
theorem root_nar {a t c u y e : Rat} (ha : 0 < a) (ht : 0 < t) (hu : 0 < u) (he : 4 * u = e) (hs : e * 1024 ≤ 1) (hy : y ≤ t * (u * (1 / 64))) (hy0 : 0 < y) (h1 : Near (t * t - a) (a * (e * (1 / 64)))) (h2 : Near (c - t) (t * u + y)) : Near (c * c - a) (a * e) := by
  have q : (1 / 64 : Rat) * 64 = 1 := by decide +kernel
  have q0 : (0 : Rat) < 1 / 64 := by decide +kernel
  generalize (1 / 64 : Rat) = k at *
  have htu := Rat.mul_pos ht hu
  have hk1 : 64 * y ≤ t * u := by
    have : t * (u * k) * 64 = t * u * (k * 64) := by grind
    rw [q, Rat.mul_one] at this
    grind
  have a1 : c ≤ t + t * u + y := by unfold Near at h2; grind
  have a2 : t - t * u - y ≤ c := by unfold Near at h2; grind
  have hlow : 0 ≤ t - t * u - y := by
    have : t * (e * 1024) ≤ t * 1 := Rat.mul_le_mul_of_nonneg_left hs (Rat.le_of_lt ht)
    subst he
    grind
  have b1 := sq_mono (Rat.le_trans hlow a2) a1
  have b2 := sq_mono hlow a2
  have htt := Rat.mul_pos ht ht
  have httu := Rat.mul_pos htt hu
  have m1 : t * (64 * y) ≤ t * (t * u) := Rat.mul_le_mul_of_nonneg_left hk1 (Rat.le_of_lt ht)
  have m2 : (t * u) * (64 * y) ≤ (t * u) * (t * u) := Rat.mul_le_mul_of_nonneg_left hk1 (Rat.le_of_lt htu)
  have m3 : (64 * y) * (64 * y) ≤ (t * u) * (t * u) := sq_mono (by grind) hk1
  have m4 : (t * t * u) * (e * 1024) ≤ (t * t * u) * 1 := Rat.mul_le_mul_of_nonneg_left hs (Rat.le_of_lt httu)
  have c1 : c * c ≤ t * t + (t * t * u) * 3 := by subst he; grind
  have c2 : t * t - (t * t * u) * 3 ≤ c * c := by
    have : 0 ≤ (t * u + y) * (t * u + y) := Rat.mul_nonneg (by grind) (by grind)
    subst he; grind
  unfold Near at h1
  have hae := Rat.mul_pos ha (show 0 < e by grind)
  have n1 : a * (e * k) * 64 = a * e := by
    have : a * (e * k) * 64 = a * e * (k * 64) := by grind
    rw [this, q, Rat.mul_one]
  have n2 : t * t * u ≤ (a + a * (e * k)) * u := Rat.mul_le_mul_of_nonneg_right (by grind) (Rat.le_of_lt hu)
  have n3 : a * (e * k) * u * 64 = a * e * u := by
    have : a * (e * k) * u * 64 = a * e * u * (k * 64) := by grind
    rw [this, q, Rat.mul_one]
  have n4 : (a * e) * u * 4096 ≤ (a * e) * 1 := by
    have : (a * e) * (e * 1024) ≤ (a * e) * 1 := Rat.mul_le_mul_of_nonneg_left hs (Rat.le_of_lt hae)
    subst he; grind
  unfold Near
  constructor <;> (subst he; grind)
theorem Val.root {x : Nat} {a : Rat} (hx : Val .f32 x a) (h0 : 0 ≤ a) (hm : a ≤ most) : ∃ s, Val .f32 (fcvt .f64 .f32 (fsqrt (fcvt .f32 .f64 x))) s ∧ 0 ≤ s ∧ Near (s * s - a) (a * e22) ∧ fcvtOk .f64 .f32 (fsqrt (fcvt .f32 .f64 x)) = true := by
  have hw := hx.widen
  by_cases hz : a = 0
  · subst hz
    obtain ⟨t, h1, h2, h3⟩ := hw.root64 (.inl rfl)
    have ht : t * t = 0 := by unfold Near at h3; grind
    have ht : t = 0 := by rcases Rat.mul_eq_zero.1 ht with h | h <;> exact h
    subst ht
    obtain ⟨⟨c, h4, h5⟩, h6⟩ := h1.narrow (X := 0) (by unfold Near; grind) (by decide +kernel)
    have hn : c = 0 := by
      by_cases hc : 0 < c
      · have := val_pos h4 hc
        have h7 : tiny .f32 < 1 / 2 ^ 149 := by decide +kernel
        unfold Near at h5; grind
      · by_cases hc : 0 < -c
        · have := val_pos h4.neg hc
          have h7 : tiny .f32 < 1 / 2 ^ 149 := by decide +kernel
          unfold Near at h5; grind
        · grind
    subst hn
    exact ⟨0, h4, by decide, by unfold Near; grind, h6⟩
  · have hp : 0 < a := by grind
    have hl := val_pos hx hp
    obtain ⟨t, h1, h2, h3⟩ := hw.root64 (.inr (by
      have : (1 : Rat) / 2 ^ 200 ≤ 1 / 2 ^ 149 := by decide +kernel
      grind))
    have es : e53 * 16 ≤ 1 := by decide +kernel
    have hae := Rat.mul_le_mul_of_nonneg_left es h0
    have hlow : (1 : Rat) / 2 ^ 76 < t := by
      refine lt_of_sq h2 ?_
      have k : (1 : Rat) / 2 ^ 76 * (1 / 2 ^ 76) * 4 ≤ 1 / 2 ^ 149 := by decide +kernel
      have : (0 : Rat) < 1 / 2 ^ 149 := by decide +kernel
      unfold Near at h3; grind
    have ht : 0 < t := by
      have : (0 : Rat) < 1 / 2 ^ 76 := by decide +kernel
      grind
    have hhi : t ≤ most := by
      refine le_of_sq (by decide +kernel) ?_
      have k : most * 2 ≤ most * most := by decide +kernel
      unfold Near at h3; grind
    obtain ⟨⟨c, h4, h5⟩, h6⟩ := h1.narrow (X := t) (by unfold Near; grind) hhi
    have hurp := ur_pos .f32
    have hy : tiny .f32 ≤ t * (ur .f32 * (1 / 64)) := by
      have k1 : tiny .f32 ≤ 1 / 2 ^ 76 * (ur .f32 * (1 / 64)) := by decide +kernel
      have k2 : (0 : Rat) ≤ ur .f32 * (1 / 64) := by decide +kernel
      have := Rat.mul_le_mul_of_nonneg_right (Rat.le_of_lt hlow) k2
      grind
    have hc0 : 0 ≤ c := by
      have k1 : ur .f32 * 4 ≤ 1 := by decide +kernel
      have k3 : ur .f32 * (1 / 64) * 4 ≤ 1 := by decide +kernel
      have := Rat.mul_le_mul_of_nonneg_left k1 (Rat.le_of_lt ht)
      have := Rat.mul_le_mul_of_nonneg_left k3 (Rat.le_of_lt ht)
      unfold Near at h5; grind
    refine ⟨c, h4, hc0, root_nar hp ht hurp (by rw [Rat.mul_comm]; exact ur32) (by decide +kernel) hy (tiny_pos _) ?_ h5, h6⟩
    refine h3.mono ?_
    have k : 8 * e53 ≤ e22 * (1 / 64) := by decide +kernel
    exact Rat.mul_le_mul_of_nonneg_left k h0
def scl (n : Nat) : Rat := (n : Rat) * (1 / 1152921504606846976)
theorem scl_nonneg (n : Nat) : 0 ≤ scl n := Rat.mul_nonneg Rat.natCast_nonneg (by decide +kernel)
theorem scl_add (a b : Nat) : scl (a + b) = scl a + scl b := by unfold scl; rw [Rat.natCast_add, Rat.add_mul]
theorem scl_mono {a b : Nat} (h : a ≤ b) : scl a ≤ scl b := Rat.mul_le_mul_of_nonneg_right (Rat.natCast_le_natCast.2 h) (by decide +kernel)
theorem scl_mul (a b : Nat) : scl a * scl b ≤ scl (a * b / 1152921504606846976 + 1) := by
  have h := Nat.div_add_mod (a * b) 1152921504606846976
  have h2 := Nat.mod_lt (a * b) (show 0 < 1152921504606846976 by omega)
  have h3 : a * b ≤ (a * b / 1152921504606846976 + 1) * 1152921504606846976 := by omega
  have h4 := Rat.natCast_le_natCast.2 h3
  rw [Rat.natCast_mul, Rat.natCast_mul] at h4
  generalize a * b / 1152921504606846976 + 1 = q at *
  unfold scl
  have e : ((1152921504606846976 : Nat) : Rat) * (1 / 1152921504606846976) = 1 := by decide +kernel
  have p : (0 : Rat) ≤ (1 / 1152921504606846976) * (1 / 1152921504606846976) := by decide +kernel
  have h5 := Rat.mul_le_mul_of_nonneg_right h4 p
  generalize ((1152921504606846976 : Nat) : Rat) = P at *
  generalize (1 / 1152921504606846976 : Rat) = k at *
  have e2 : (q : Rat) * P * (k * k) = (q : Rat) * k * (P * k) := by grind
  rw [e2, e, Rat.mul_one] at h5
  grind
theorem scl_rnd (N : Nat) : scl N * ur .f32 + tiny .f32 ≤ scl (N / 16777216 + 1) := by
  have h := Nat.div_add_mod N 16777216
  have h2 := Nat.mod_lt N (show 0 < 16777216 by omega)
  have h3 : N + 1 ≤ (N / 16777216 + 1) * 16777216 := by omega
  have h4 := Rat.natCast_le_natCast.2 h3
  rw [Rat.natCast_mul, Rat.natCast_add] at h4
  generalize N / 16777216 + 1 = q at *
  unfold scl
  have e : ((16777216 : Nat) : Rat) * ur .f32 = 1 := by decide +kernel
  have p : (0 : Rat) ≤ (1 / 1152921504606846976) * ur .f32 := by decide +kernel
  have t : tiny .f32 ≤ ((1 : Nat) : Rat) * ((1 / 1152921504606846976) * ur .f32) := by decide +kernel
  have h5 := Rat.mul_le_mul_of_nonneg_right h4 p
  generalize ((16777216 : Nat) : Rat) = P at *
  generalize (1 / 1152921504606846976 : Rat) = k at *
  generalize ur .f32 = u at *
  have e2 : (q : Rat) * P * (k * u) = (q : Rat) * k * (P * u) := by grind
  rw [e2, e, Rat.mul_one] at h5
  grind
def Ap (w : Nat) (X : Rat) (B E : Nat) : Prop := ∃ v, Val .f32 w v ∧ Near (v - X) (scl E) ∧ Near X (scl B)
theorem Ap.val {w : Nat} {v : Rat} {B : Nat} (h : Val .f32 w v) (hB : Near v (scl B)) : Ap w v B 0 := ⟨v, h, by unfold Near; have := scl_nonneg 0; grind, hB⟩
theorem Ap.out {w : Nat} {X : Rat} {B E : Nat} (h : Ap w X B E) : ∃ v, Val .f32 w v ∧ Near (v - X) (scl E) ∧ Near v (scl (B + E)) := by
  obtain ⟨v, h1, h2, h3⟩ := h
  refine ⟨v, h1, h2, ?_⟩
  rw [scl_add]
  unfold Near at *
  grind
theorem Ap.congr {w : Nat} {X Y : Rat} {B E : Nat} (h : Ap w X B E) (e : X = Y) : Ap w Y B E := e ▸ h
theorem Ap.self {w : Nat} {X : Rat} {B E : Nat} (h : Ap w X B E) : ∃ v, Ap w v (B + E) 0 := by
  obtain ⟨v, h1, _, h3⟩ := h.out
  exact ⟨v, .val h1 h3⟩
def apMost : Nat := 2 ^ 150
theorem scl_most {N : Nat} (h : N ≤ apMost) : scl N ≤ most := Rat.le_trans (scl_mono h) (by decide +kernel)
def addE (B E C F : Nat) : Nat := E + F + ((B + E + (C + F)) / 16777216 + 1)
theorem Ap.add {x y : Nat} {X Y : Rat} {B C E F : Nat} (hx : Ap x X B E) (hy : Ap y Y C F) (hm : B + E + (C + F) ≤ apMost) : Ap (fop .add .f32 x y) (X + Y) (B + C) (addE B E C F) := by
  obtain ⟨a, h1, h2, h3⟩ := hx.out
  obtain ⟨b, h4, h5, h6⟩ := hy.out
  obtain ⟨_, _, _, h7⟩ := hx
  obtain ⟨_, _, _, h8⟩ := hy
  have hs := h3.add h6
  rw [← scl_add] at hs
  obtain ⟨c, k1, k2⟩ := Val.add h1 h4 hs (scl_most hm)
  refine ⟨c, k1, ?_, by rw [scl_add]; exact h7.add h8⟩
  have := scl_rnd (B + E + (C + F))
  unfold addE
  rw [scl_add (E + F), scl_add E F]
  unfold Near at *
  constructor <;> grind
theorem Ap.sub {x y : Nat} {X Y : Rat} {B C E F : Nat} (hx : Ap x X B E) (hy : Ap y Y C F) (hm : B + E + (C + F) ≤ apMost) : Ap (fop .sub .f32 x y) (X - Y) (B + C) (addE B E C F) := by
  obtain ⟨a, h1, h2, h3⟩ := hx.out
  obtain ⟨b, h4, h5, h6⟩ := hy.out
  obtain ⟨_, _, _, h7⟩ := hx
  obtain ⟨_, _, _, h8⟩ := hy
  have hs := h3.sub h6
  rw [← scl_add] at hs
  obtain ⟨c, k1, k2⟩ := Val.sub h1 h4 hs (scl_most hm)
  refine ⟨c, k1, ?_, by rw [scl_add]; exact h7.sub h8⟩
  have := scl_rnd (B + E + (C + F))
  unfold addE
  rw [scl_add (E + F), scl_add E F]
  unfold Near at *
  constructor <;> grind
def mulB (B C : Nat) : Nat := B * C / 1152921504606846976 + 1
def mulE (B E C F : Nat) : Nat := mulB E (C + F) + mulB B F + (mulB (B + E) (C + F) / 16777216 + 1)
theorem Near.mulS {a b : Rat} {A B : Nat} (h : Near a (scl A)) (h' : Near b (scl B)) : Near (a * b) (scl (mulB A B)) := (h.mul h').mono (scl_mul A B)
theorem Ap.mul {x y : Nat} {X Y : Rat} {B C E F : Nat} (hx : Ap x X B E) (hy : Ap y Y C F) (hm : mulB (B + E) (C + F) ≤ apMost) : Ap (fop .mul .f32 x y) (X * Y) (mulB B C) (mulE B E C F) := by
  obtain ⟨a, h1, h2, h3⟩ := hx.out
  obtain ⟨b, h4, h5, h6⟩ := hy.out
  obtain ⟨_, _, _, h7⟩ := hx
  obtain ⟨_, _, _, h8⟩ := hy
  have hs := h3.mulS h6
  obtain ⟨c, k1, k2⟩ := Val.mul h1 h4 hs (scl_most hm)
  refine ⟨c, k1, ?_, h7.mulS h8⟩
  have := scl_rnd (mulB (B + E) (C + F))
  have m1 := h2.mulS h6
  have m2 := h7.mulS h5
  unfold mulE
  rw [scl_add (mulB E (C + F) + mulB B F), scl_add (mulB E (C + F))]
  unfold Near at *
  constructor <;> grind
theorem Ap.neg {x : Nat} {X : Rat} {B E : Nat} (hx : Ap x X B E) : Ap (fneg .f32 x) (-X) B E := by
  obtain ⟨a, h1, h2, h3⟩ := hx
  refine ⟨-a, h1.neg, ?_, h3.neg⟩
  unfold Near at *
  constructor <;> grind
end Go.Fw

/-
  Quarters: numbers that are exact; words told by their values.
-/
namespace Go.Fw
noncomputable def isV (k : FloatKind) (v : V) (q : Rat) : Bool := vgood v && decide (((sg (vlow v) (vmag v) : Int) : Rat) = q * unit k)
theorem Val.of_rep {k : FloatKind} {w : Nat} {v : V} {q : Rat} (hr : Rep k w v) (h : isV k v q = true) : Val k w q := by
  unfold isV at h
  simp only [Bool.and_eq_true, decide_eq_true_eq] at h
  exact ⟨_, rep_val hr h.1, h.2⟩
theorem Val.of_vof {k : FloatKind} {w : Nat} {q : Rat} (h : isV k (vof k w) q = true) : Val k w q := .of_rep (rep_of k w) h
theorem Val.rep {k : FloatKind} {w : Nat} {v : V} {q : Rat} (hw : Val k w q) (h : isV k v q = true) : Rep k w v := by
  unfold isV at h
  simp only [Bool.and_eq_true, decide_eq_true_eq] at h
  obtain ⟨n, h1, h2⟩ := hw
  have e : n = sg (vlow v) (vmag v) := Rat.intCast_inj.1 (by rw [h2, h.2])
  subst e
  cases v with
  | bad => cases h.1
  | zero => exact h1
  | num b m s => exact h1
theorem Val.rI_exact {k : FloatKind} {w : Nat} {z m : Int} {a : Rat} {e : Nat} (hz : (z : Rat) = a * unit k) (hm : a * ((2 ^ e : Nat) : Rat) = (m : Rat)) (hm2 : m.natAbs < 2 ^ (fbK k + 1)) (he : e ≤ scK k) (h : (rI k z 1).natAbs < limK k → Fin k w (rI k z 1)) (ha : Near a most) : Val k w a := by
  have hp : (0 : Rat) < ((2 ^ e : Nat) : Rat) := Rat.natCast_pos.2 (Nat.two_pow_pos _)
  have hu : unit k = ((2 ^ e : Nat) : Rat) * ((2 ^ (scK k - e) : Nat) : Rat) := by
    unfold unit
    rw [← Rat.natCast_mul, ← Nat.pow_add, Nat.add_sub_cancel' he]
  have e1 : z = m * ((2 ^ (scK k - e) : Nat) : Int) := by
    apply Rat.intCast_inj.1
    rw [hz, Rat.intCast_mul, ← hm, Rat.intCast_natCast, hu]
    grind
  have hx : rI k z 1 = z := Go.Fw.rI_exact (m := m.natAbs) (p := scK k - e) (by rw [e1, Int.natAbs_mul, Int.natAbs_natCast]) hm2
  have hl := rI_lim (k := k) (z := z) (D := 1) (x := a * unit k) (X := most) (by omega) (by rw [hz]; show _ * ((1 : Nat) : Rat) = _; exact Rat.mul_one _) (by
    unfold Near at *
    have hu := unit_pos k
    have := Rat.mul_le_mul_of_nonneg_right ha.1 (Rat.le_of_lt hu)
    have := Rat.mul_le_mul_of_nonneg_right ha.2 (Rat.le_of_lt hu)
    grind) Rat.le_refl
  have hF := h hl
  rw [hx] at hF
  exact ⟨z, hF, hz⟩
theorem Val.add_exact {k : FloatKind} {x y : Nat} {a b : Rat} {m : Int} {e : Nat} (hx : Val k x a) (hy : Val k y b) (hm : (a + b) * ((2 ^ e : Nat) : Rat) = (m : Rat)) (hm2 : m.natAbs < 2 ^ (fbK k + 1)) (he : e ≤ scK k) (ha : Near (a + b) most) : Val k (fop .add k x y) (a + b) := by
  obtain ⟨n1, h1, h2⟩ := hx
  obtain ⟨n2, h3, h4⟩ := hy
  exact Val.rI_exact (z := n1 + n2) (by rw [Rat.intCast_add, h2, h4]; grind) hm hm2 he (Fin.add h1 h3) ha
theorem Val.sub_exact {k : FloatKind} {x y : Nat} {a b : Rat} {m : Int} {e : Nat} (hx : Val k x a) (hy : Val k y b) (hm : (a - b) * ((2 ^ e : Nat) : Rat) = (m : Rat)) (hm2 : m.natAbs < 2 ^ (fbK k + 1)) (he : e ≤ scK k) (ha : Near (a - b) most) : Val k (fop .sub k x y) (a - b) := by
  obtain ⟨n1, h1, h2⟩ := hx
  obtain ⟨n2, h3, h4⟩ := hy
  exact Val.rI_exact (z := n1 - n2) (by rw [Rat.intCast_sub, h2, h4]; grind) hm hm2 he (Fin.sub h1 h3) ha
def Qt (w : Nat) (z : Int) : Prop := Val .f32 w ((z : Rat) * (1 / 4))
theorem qt4 : (1 / 4 : Rat) * ((2 ^ 2 : Nat) : Rat) = 1 := by decide +kernel
theorem near_most {z : Int} (h : z.natAbs < 2 ^ 24) : Near ((z : Rat) * (1 / 4)) most := by
  have h1 : z ≤ 16777216 := by omega
  have h2 : -16777216 ≤ z := by omega
  have h1 := Rat.intCast_le_intCast.2 h1
  have h2 := Rat.intCast_le_intCast.2 h2
  have k : ((16777216 : Int) : Rat) * (1 / 4) ≤ most := by decide +kernel
  have k2 : ((-16777216 : Int) : Rat) = -((16777216 : Int) : Rat) := by decide +kernel
  rw [k2] at h2
  have q0 : (0 : Rat) ≤ 1 / 4 := by decide +kernel
  have := Rat.mul_le_mul_of_nonneg_right h1 q0
  have := Rat.mul_le_mul_of_nonneg_right h2 q0
  unfold Near
  constructor <;> grind
theorem Qt.add {x y : Nat} {a b : Int} (hx : Qt x a) (hy : Qt y b) (h : (a + b).natAbs < 2 ^ 24) : Qt (fop .add .f32 x y) (a + b) := by
  have := near_most h
  rw [Rat.intCast_add] at this
  have e : ((a + b : Int) : Rat) * (1 / 4) = (a : Rat) * (1 / 4) + (b : Rat) * (1 / 4) := by rw [Rat.intCast_add]; grind
  unfold Qt
  rw [e]
  refine Val.add_exact (e := 2) (m := a + b) hx hy ?_ h (by decide) ?_
  · rw [← e, Rat.mul_assoc, qt4, Rat.mul_one]
  · rw [← e, Rat.intCast_add]; exact this
theorem Qt.sub {x y : Nat} {a b : Int} (hx : Qt x a) (hy : Qt y b) (h : (a - b).natAbs < 2 ^ 24) : Qt (fop .sub .f32 x y) (a - b) := by
  have := near_most h
  rw [Rat.intCast_sub] at this
  have e : ((a - b : Int) : Rat) * (1 / 4) = (a : Rat) * (1 / 4) - (b : Rat) * (1 / 4) := by rw [Rat.intCast_sub]; grind
  unfold Qt
  rw [e]
  refine Val.sub_exact (e := 2) (m := a - b) hx hy ?_ h (by decide) ?_
  · rw [← e, Rat.mul_assoc, qt4, Rat.mul_one]
  · rw [← e, Rat.intCast_sub]; exact this
theorem Qt.near {w : Nat} {z : Int} {n : Nat} (_ : Qt w z) (h : z.natAbs ≤ n) : Near ((z : Rat) * (1 / 4)) (scl (n * 288230376151711744)) := by
  have h1 : z ≤ (n : Int) := by omega
  have h2 : -(n : Int) ≤ z := by omega
  have h1 := Rat.intCast_le_intCast.2 h1
  have h2 := Rat.intCast_le_intCast.2 h2
  rw [Rat.intCast_neg] at h2
  rw [Rat.intCast_natCast] at h1 h2
  have q0 : (0 : Rat) ≤ 1 / 4 := by decide +kernel
  have h1 := Rat.mul_le_mul_of_nonneg_right h1 q0
  have h2 := Rat.mul_le_mul_of_nonneg_right h2 q0
  have e : scl (n * 288230376151711744) = (n : Rat) * (1 / 4) := by
    unfold scl
    rw [Rat.natCast_mul, Rat.mul_assoc]
    congr 1
    decide +kernel
  rw [e]
  unfold Near
  constructor <;> grind
theorem forder_lt {k : FloatKind} {x y : Nat} {a b : Rat} (hx : Val k x a) (hy : Val k y b) (h : a < b) : forder k x y = some .lt := by
  obtain ⟨n, h1, h2⟩ := hx
  obtain ⟨m, h3, h4⟩ := hy
  rw [Fin.order h1 h3]
  have : (n : Rat) < (m : Rat) := by rw [h2, h4]; exact Rat.mul_lt_mul_of_pos_right h (unit_pos k)
  have := Rat.intCast_lt_intCast.1 this
  show some (compareOfLessAndEq _ _) = _
  unfold compareOfLessAndEq
  rw [if_pos this]
theorem forder_eq {k : FloatKind} {x y : Nat} {a : Rat} (hx : Val k x a) (hy : Val k y a) : forder k x y = some .eq := by
  obtain ⟨n, h1, h2⟩ := hx
  obtain ⟨m, h3, h4⟩ := hy
  rw [Fin.order h1 h3]
  have e : n = m := Rat.intCast_inj.1 (by rw [h2, h4])
  subst e
  show some (compareOfLessAndEq _ _) = _
  unfold compareOfLessAndEq
  rw [if_neg (Int.lt_irrefl _), if_pos rfl]
theorem forder_gt {k : FloatKind} {x y : Nat} {a b : Rat} (hx : Val k x a) (hy : Val k y b) (h : b < a) : forder k x y = some .gt := by
  obtain ⟨n, h1, h2⟩ := hx
  obtain ⟨m, h3, h4⟩ := hy
  rw [Fin.order h1 h3]
  have : (m : Rat) < (n : Rat) := by rw [h2, h4]; exact Rat.mul_lt_mul_of_pos_right h (unit_pos k)
  have := Rat.intCast_lt_intCast.1 this
  show some (compareOfLessAndEq _ _) = _
  unfold compareOfLessAndEq
  rw [if_neg (by omega), if_neg (by omega)]
theorem fmax_val {k : FloatKind} {x y : Nat} {a b : Rat} (hx : Val k x a) (hy : Val k y b) : Val k (fmax k x y) (if a ≤ b then b else a) := by
  unfold fmax
  by_cases h1 : a < b
  · rw [forder_lt hx hy h1, if_pos (Rat.le_of_lt h1)]; exact hy
  · by_cases h2 : b < a
    · rw [forder_gt hx hy h2, if_neg (by grind)]; exact hx
    · have e : a = b := by grind
      subst e
      rw [forder_eq hx hy, if_pos Rat.le_refl]
      simp only
      split <;> assumption
end Go.Fw

/-
  Quotients as fractions; numbers that are not below nought.
-/
namespace Go.Fw
theorem sign_natAbs (m : Int) : m.sign * m = (m.natAbs : Int) := by
  rcases Int.lt_trichotomy m 0 with h | h | h
  · rw [Int.sign_eq_neg_one_of_neg h]; omega
  · subst h; rfl
  · rw [Int.sign_eq_one_of_pos h]; omega
theorem Val.quo {k : FloatKind} {x y : Nat} {a b X : Rat} (hx : Val k x a) (hy : Val k y b) (hb : b ≠ 0) (hX : Near (a / b) X) (hm : X ≤ most) : ∃ c, Val k (fop .quo k x y) c ∧ Near (c - a / b) (X * ur k + tiny k) := by
  obtain ⟨n, h1, h2⟩ := hx
  obtain ⟨m, h3, h4⟩ := hy
  have hu := unit_pos k
  have hm0 : m ≠ 0 := fun e => by
    subst e
    have : b * unit k = 0 := by rw [← h4]; rfl
    rcases Rat.mul_eq_zero.1 this with h | h
    · exact hb h
    · grind
  have key : a / b * unit k * ((m.natAbs : Nat) : Rat) = ((n * m.sign * ((2 ^ scK k : Nat) : Int) : Int) : Rat) := by
    have e1 : ((m.natAbs : Nat) : Rat) = (m.sign : Rat) * (m : Rat) := by
      rw [← Rat.intCast_natCast, ← Rat.intCast_mul, sign_natAbs]
    rw [e1, Rat.intCast_mul, Rat.intCast_mul, Rat.intCast_natCast, h2, h4]
    have e2 : a / b * b = a := Rat.div_mul_cancel hb
    show a / b * unit k * ((m.sign : Rat) * (b * unit k)) = a * unit k * (m.sign : Rat) * unit k
    have : a / b * unit k * ((m.sign : Rat) * (b * unit k)) = (a / b * b) * unit k * (m.sign : Rat) * unit k := by grind
    rw [this, e2]
  exact rI_val (D := m.natAbs) (by omega) key hX hm (Fin.quo h1 h3 hm0)
theorem val_nonneg {w : Nat} {a : Rat} (h : Val .f32 w a) (h0 : -tiny .f32 ≤ a) : 0 ≤ a := by
  by_cases hc : 0 < -a
  · have := val_pos h.neg hc
    have h7 : tiny .f32 < 1 / 2 ^ 149 := by decide +kernel
    grind
  · grind
theorem ur32_small : ur .f32 * 1024 ≤ 1 := by decide +kernel
theorem ur_le_one {X : Rat} (h : 0 ≤ X) : X * ur .f32 ≤ X := by
  have := Rat.mul_le_mul_of_nonneg_left (show ur .f32 ≤ 1 by decide +kernel) h
  grind
theorem Val.sq {x : Nat} {a : Rat} (hx : Val .f32 x a) (hm : a * a ≤ most) : ∃ c, Val .f32 (fop .mul .f32 x x) c ∧ 0 ≤ c ∧ Near (c - a * a) (a * a * ur .f32 + tiny .f32) := by
  have h0 : 0 ≤ a * a := by
    by_cases h : 0 ≤ a
    · exact Rat.mul_nonneg h h
    · have := Rat.mul_nonneg (show 0 ≤ -a by grind) (show 0 ≤ -a by grind); grind
  obtain ⟨c, h1, h2⟩ := hx.mul hx (X := a * a) (by unfold Near; grind) hm
  refine ⟨c, h1, val_nonneg h1 ?_, h2⟩
  have := ur_le_one h0
  unfold Near at h2; grind
theorem Val.addp {x y : Nat} {a b : Rat} (hx : Val .f32 x a) (hy : Val .f32 y b) (ha : 0 ≤ a) (hb : 0 ≤ b) (hm : a + b ≤ most) : ∃ c, Val .f32 (fop .add .f32 x y) c ∧ 0 ≤ c ∧ Near (c - (a + b)) ((a + b) * ur .f32 + tiny .f32) := by
  have h0 : 0 ≤ a + b := by grind
  obtain ⟨c, h1, h2⟩ := hx.add hy (X := a + b) (by unfold Near; grind) hm
  refine ⟨c, h1, val_nonneg h1 ?_, h2⟩
  have := ur_le_one h0
  unfold Near at h2; grind
theorem sqn (t : Rat) : 0 ≤ t * t := by
  by_cases h : 0 ≤ t
  · exact Rat.mul_nonneg h h
  · have := Rat.mul_nonneg (show 0 ≤ -t by grind) (show 0 ≤ -t by grind); grind
theorem small_mul {T u : Rat} (hT : 0 ≤ T) (hu : 0 < u) (hu2 : u * 1024 ≤ 1) : 0 ≤ T * u ∧ T * u * 1024 ≤ T := by
  have a1 := Rat.mul_nonneg hT (Rat.le_of_lt hu)
  have b1 : T * (u * 1024) ≤ T * 1 := Rat.mul_le_mul_of_nonneg_left hu2 hT
  constructor <;> grind
theorem add_arith {X Y p q s u t E F : Rat} (hX : 0 ≤ X) (hY : 0 ≤ Y) (hu : 0 < u) (hu2 : u * 1024 ≤ 1) (hE : 0 ≤ E) (hF : 0 ≤ F) (p3 : Near (p - X) E) (q3 : Near (q - Y) F) (s3 : Near (s - (p + q)) ((p + q) * u + t)) : Near (s - (X + Y)) ((X + Y) * u + (E + F) * 2 + t) := by
  have n1 : (p + q) * u ≤ (X + E + (Y + F)) * u := Rat.mul_le_mul_of_nonneg_right (by unfold Near at p3 q3; grind) (Rat.le_of_lt hu)
  have a1 := (small_mul hE hu hu2).2
  have a2 := (small_mul hF hu hu2).2
  unfold Near at *
  constructor <;> grind
theorem long_core {a b c : Nat} {x y z : Rat} (ha : Val .f32 a x) (hb : Val .f32 b y) (hc : Val .f32 c z) {A : Rat} (hA : A = x * x + y * y + z * z) (hm : A * 4 ≤ most) :
    ∃ i, Val .f32 (fop .add .f32 (fop .add .f32 (fop .mul .f32 a a) (fop .mul .f32 b b)) (fop .mul .f32 c c)) i ∧ 0 ≤ i ∧ Near (i - A) (A * (2 * e22) + 16 * tiny .f32) := by
  have hx := sqn x
  have hy := sqn y
  have hz := sqn z
  have hu := ur_pos .f32
  have hu2 := ur32_small
  have ht := tiny_pos .f32
  have htm : tiny .f32 * 1024 ≤ most := by decide +kernel
  obtain ⟨p, p1, p2, p3⟩ := ha.sq (by grind)
  obtain ⟨q, q1, q2, q3⟩ := hb.sq (by grind)
  obtain ⟨r, r1, r2, r3⟩ := hc.sq (by grind)
  have kX := small_mul hx hu hu2
  have kY := small_mul hy hu hu2
  have kZ := small_mul hz hu hu2
  obtain ⟨s, s1, s2, s3⟩ := p1.addp q1 p2 q2 (by unfold Near at p3 q3; grind)
  have e1 := add_arith hx hy hu hu2 (show 0 ≤ x * x * ur .f32 + tiny .f32 by grind) (show 0 ≤ y * y * ur .f32 + tiny .f32 by grind) p3 q3 s3
  obtain ⟨i, i1, i2, i3⟩ := s1.addp r1 s2 r2 (by unfold Near at e1 r3; grind)
  have e2 := add_arith (X := x * x + y * y) (by grind) hz hu hu2 (show 0 ≤ (x * x + y * y) * ur .f32 + (x * x * ur .f32 + tiny .f32 + (y * y * ur .f32 + tiny .f32)) * 2 + tiny .f32 by grind) (show 0 ≤ z * z * ur .f32 + tiny .f32 by grind) e1 r3 i3
  refine ⟨i, i1, i2, ?_⟩
  have h4 : ur .f32 * 4 = e22 := ur32
  subst hA
  rw [← h4]
  unfold Near at *
  constructor <;> grind
def b1 : Nat := 1152921504606846976
end Go.Fw

/-
  The sine of turns, evaluated by the kernel.
-/
namespace Go.Fw
open Ieee (Datum Format Toward signed)
section
variable {f : Nat} {F : V} (h : Rep .f64 f F)
include h
end
end Go.Fw

/-
  What a segment makes, in proportion: quotients and products of numbers that are known but for a share.
-/
namespace Go.Fw
end Go.Fw

/-
  Inner products, cross products and lengths of vectors that are known nearly; what a segment makes, number by number.
-/
namespace Go.Fw
end Go.Fw

/-
  What a segment makes at a place, where both are turned around Z, nearly.
-/
namespace Go.Fw
def nabs (x : Rat) : Rat := if 0 ≤ x then x else -x
theorem nabs_pos (x : Rat) : 0 ≤ nabs x := by unfold nabs; split <;> grind
theorem nabs_sq (x : Rat) : nabs x * nabs x = x * x := by unfold nabs; split <;> grind
theorem nabs_near (x : Rat) : Near x (nabs x) := by unfold nabs Near; split <;> constructor <;> grind
def u17 : Rat := 17 * ur .f32
def uu (n : Rat) : Rat := n * ur .f32
structure Turned (C S r1 r2 r3 a b c : Rat) : Prop where
  h1 : Near (a - (C * r1 - S * r2)) u17
  h2 : Near (b - (S * r1 + C * r2)) u17
  h3 : c = r3
section
variable {C S : Rat} (hC : Near (C * C + S * S - 1) (2 * ur .f32))
include hC
variable {r1 r2 r3 a b c X : Rat} (hT : Turned C S r1 r2 r3 a b c)
include hT
end
end Go.Fw

/-
  What a segment makes at a place, where both are turned around Z, nearly: the numbers.
-/
namespace Go.Fw
section
variable {C S : Rat} (hC : Near (C * C + S * S - 1) (2 * ur .f32))
variable {r1 r2 r3 a b c X : Rat} (hT : Turned C S r1 r2 r3 a b c) (X1 : 149 / 100 ≤ X) (hX : Near (r1 * r1 + r2 * r2 + r3 * r3 - X * X) (uu 17 * (X * X)))
variable {s1 s2 s3 x y z Y : Rat} (hU : Turned C S s1 s2 s3 x y z) (Y1 : 149 / 100 ≤ Y) (hY : Near (s1 * s1 + s2 * s2 + s3 * s3 - Y * Y) (uu 17 * (Y * Y)))
include hX X1
include hC hT hU hY Y1
end
end Go.Fw

/-
  What a segment makes at a place, where both are turned around Z, nearly: all three numbers.
-/
namespace Go.Fw
end Go.Fw

/-
  What a segment of a ring makes at a place above it: bounds.
-/
namespace Go.Fw
end Go.Fw

/-
  Operations turned round: products and sums don't care, differences change their sign; sums of many; doubled numbers.
-/
namespace Go.Fw
open Ieee (Datum Format Toward signed)
theorem val_add0 {k : FloatKind} {z x : Nat} {a : Rat} (hz : Val k z 0) (hx : Val k x a) : Val k (fop .add k z x) a := by
  obtain ⟨n, n1, n2⟩ := hx
  obtain ⟨m, m1, m2⟩ := hz
  have hm : m = 0 := by
    rw [Rat.zero_mul] at m2
    exact Rat.intCast_eq_zero_iff.1 m2
  subst hm
  have h := Fin.add m1 n1
  rw [Int.zero_add, n1.exact] at h
  exact ⟨n, h n1.lt_lim, n2⟩
def rsum (f : Nat → Rat) : Nat → Rat
  | 0 => 0
  | k + 1 => rsum f k + f k
theorem rsum_shift (f : Nat → Rat) : ∀ k, rsum f (k + 1) = f 0 + rsum (fun j => f (j + 1)) k
  | 0 => by show 0 + f 0 = f 0 + 0; grind
  | k + 1 => by
    show rsum f (k + 1) + f (k + 1) = f 0 + (rsum (fun j => f (j + 1)) k + f (k + 1))
    rw [rsum_shift f k]; grind
theorem rsum_congr {f g : Nat → Rat} : ∀ k, (∀ j, j < k → f j = g j) → rsum f k = rsum g k
  | 0, _ => rfl
  | k + 1, h => by
    show rsum f k + f k = rsum g k + g k
    rw [rsum_congr k fun j hj => h j (by omega), h k (by omega)]
theorem rsum_rev (f : Nat → Rat) : ∀ k, rsum (fun j => f (k - 1 - j)) k = rsum f k
  | 0 => rfl
  | k + 1 => by
    rw [rsum_shift (fun j => f (k + 1 - 1 - j)) k]
    have : rsum (fun j => f (k + 1 - 1 - (j + 1))) k = rsum (fun j => f (k - 1 - j)) k := rsum_congr k fun j hj => by
      show f _ = f _
      congr 1; omega
    rw [this, rsum_rev f k]
    show f k + rsum f k = rsum f k + f k
    grind
theorem rsum_near {f : Nat → Rat} {B : Rat} : ∀ k, (∀ j, j < k → Near (f j) B) → Near (rsum f k) ((k : Rat) * B)
  | 0, _ => by
    show Near 0 (((0 : Nat) : Rat) * B)
    rw [show ((0 : Nat) : Rat) = 0 from rfl, Rat.zero_mul]
    exact Near.zero (Rat.le_refl)
  | k + 1, h => by
    have := (rsum_near k fun j hj => h j (by omega)).add (h k (by omega))
    have e : ((k + 1 : Nat) : Rat) * B = (k : Rat) * B + B := by rw [Rat.natCast_add, show ((1 : Nat) : Rat) = 1 from rfl, Rat.add_mul, Rat.one_mul]
    rw [e]
    exact this
def eta (B : Rat) : Rat := (14 * B) * ur .f32 + tiny .f32
theorem sum_val {s t : Nat → Nat} {f : Nat → Rat} {B : Rat} {n : Nat} (h0 : Val .f32 (s 0) 0) (hs : ∀ k, s (k + 1) = fop .add .f32 (s k) (t k)) (ht : ∀ k, k < n → Val .f32 (t k) (f k)) (hf : ∀ k, k < n → Near (f k) B) (hn : n ≤ 12) (B0 : 1 ≤ B) (B9 : B ≤ 64) :
    ∀ k, k ≤ n → ∃ v, Val .f32 (s k) v ∧ Near (v - rsum f k) ((k : Rat) * eta B)
  | 0, _ => ⟨0, h0, by
    show Near (0 - 0) (((0 : Nat) : Rat) * eta B)
    rw [show ((0 : Nat) : Rat) = 0 from rfl, Rat.zero_mul]
    exact Near.mono (Near.zero (Rat.le_refl)) (Rat.le_refl) |> fun h => by rw [show (0 : Rat) - 0 = 0 by grind]; exact h⟩
  | k + 1, hk => by
    obtain ⟨v, v1, v2⟩ := sum_val h0 hs ht hf hn B0 B9 k (by omega)
    have r := rsum_near k fun j hj => hf j (by omega)
    have k12 : (k : Rat) ≤ 12 := by
      have := Rat.natCast_le_natCast.2 (show k ≤ 12 by omega)
      exact this
    have k0 : (0 : Rat) ≤ (k : Rat) := Rat.natCast_nonneg
    have u0 := ur_pos .f32
    have t0 := tiny_pos .f32
    have e0 : 0 ≤ eta B := by
      unfold eta
      have := Rat.mul_nonneg (show 0 ≤ 14 * B by grind) (Rat.le_of_lt u0)
      grind
    have e1 : 12 * eta B ≤ 1 := by
      unfold eta
      have := Rat.mul_le_mul_of_nonneg_right (show 14 * B ≤ 14 * 64 by grind) (Rat.le_of_lt u0)
      have k2 : 12 * ((14 * 64) * ur .f32 + tiny .f32) ≤ 1 := by decide +kernel
      grind
    have kB := Rat.mul_le_mul_of_nonneg_right k12 (show 0 ≤ B by grind)
    have ke := Rat.mul_le_mul_of_nonneg_right k12 e0
    have hX : Near (v + f k) (14 * B) := by
      have := hf k (by omega)
      unfold Near at *
      constructor <;> grind
    obtain ⟨c, c1, c2⟩ := v1.add (ht k (by omega)) hX (by
      have : (14 * 64 : Rat) ≤ most := by decide +kernel
      grind)
    rw [hs]
    refine ⟨c, c1, ?_⟩
    have e : ((k + 1 : Nat) : Rat) * eta B = (k : Rat) * eta B + eta B := by rw [Rat.natCast_add, show ((1 : Nat) : Rat) = 1 from rfl, Rat.add_mul, Rat.one_mul]
    rw [e]
    show Near (c - (rsum f k + f k)) _
    have : eta B = 14 * B * ur .f32 + tiny .f32 := rfl
    unfold Near at *
    constructor <;> grind
def Gr (m w : Nat) : Prop := ∃ n : Int, Fin .f32 w (n * (2 ^ m : Nat))
theorem rq_fac (fb a m : Nat) : ∃ b, rq fb (a * 2 ^ m) 1 = b * 2 ^ m := by
  unfold rq
  generalize rqS fb (a * 2 ^ m) 1 = S
  rw [Nat.one_mul]
  by_cases h : m ≤ S
  · refine ⟨rqN (a * 2 ^ m) (2 ^ S) * 2 ^ (S - m), ?_⟩
    rw [Nat.mul_assoc, ← Nat.pow_add, Nat.sub_add_cancel h]
  · refine ⟨a, ?_⟩
    have e : a * 2 ^ m = (a * 2 ^ (m - S)) * 2 ^ S := by rw [Nat.mul_assoc, ← Nat.pow_add, Nat.sub_add_cancel (by omega)]
    rw [e, rqN_exact (Nat.two_pow_pos _)]
theorem rI_fac (z : Int) (m : Nat) : ∃ b : Int, rI .f32 (z * (2 ^ m : Nat)) 1 = b * (2 ^ m : Nat) := by
  unfold rI
  rw [Int.natAbs_mul, Int.natAbs_natCast]
  obtain ⟨b, hb⟩ := rq_fac (fbK .f32) z.natAbs m
  rw [hb]
  refine ⟨sg (decide (z * (2 ^ m : Nat) < 0)) b, ?_⟩
  unfold sg
  split <;> simp [Int.neg_mul]
theorem Gr.of_fin {m w : Nat} {n z : Int} (h : Fin .f32 w n) (e : n = z * (2 ^ m : Nat)) : Gr m w := ⟨z, e ▸ h⟩
theorem Gr.add {m x y : Nat} {a b X : Rat} (hx : Gr m x) (hy : Gr m y) (ha : Val .f32 x a) (hb : Val .f32 y b) (hX : Near (a + b) X) (hm : X ≤ most) : Gr m (fop .add .f32 x y) := by
  obtain ⟨n, h1⟩ := hx
  obtain ⟨k, h2⟩ := hy
  obtain ⟨p, p1, p2⟩ := ha
  obtain ⟨q, q1, q2⟩ := hb
  obtain rfl := h1.unique p1
  obtain rfl := h2.unique q1
  have u0 := unit_pos .f32
  have e : ((n * (2 ^ m : Nat) + k * (2 ^ m : Nat) : Int) : Rat) = (a + b) * unit .f32 := by rw [Rat.intCast_add, p2, q2]; grind
  have hN : Near (((n * (2 ^ m : Nat) + k * (2 ^ m : Nat) : Int) : Rat)) (X * unit .f32) := by
    rw [e]
    unfold Near at *
    have h1 := Rat.mul_le_mul_of_nonneg_right hX.1 (Rat.le_of_lt u0)
    have h2 := Rat.mul_le_mul_of_nonneg_right hX.2 (Rat.le_of_lt u0)
    constructor <;> grind
  have l := rI_lim (D := 1) (by decide) (by rw [show (((1 : Nat)) : Rat) = 1 from rfl, Rat.mul_one]) hN hm
  have f := Fin.add h1 h2 l
  rw [← Int.add_mul] at f
  obtain ⟨b, hb⟩ := rI_fac (n + k) m
  exact .of_fin f hb
theorem Gr.sub {m x y : Nat} {a b X : Rat} (hx : Gr m x) (hy : Gr m y) (ha : Val .f32 x a) (hb : Val .f32 y b) (hX : Near (a - b) X) (hm : X ≤ most) : Gr m (fop .sub .f32 x y) := by
  obtain ⟨n, h1⟩ := hx
  obtain ⟨k, h2⟩ := hy
  obtain ⟨p, p1, p2⟩ := ha
  obtain ⟨q, q1, q2⟩ := hb
  obtain rfl := h1.unique p1
  obtain rfl := h2.unique q1
  have u0 := unit_pos .f32
  have e : ((n * (2 ^ m : Nat) - k * (2 ^ m : Nat) : Int) : Rat) = (a - b) * unit .f32 := by rw [Rat.intCast_sub, p2, q2]; grind
  have hN : Near (((n * (2 ^ m : Nat) - k * (2 ^ m : Nat) : Int) : Rat)) (X * unit .f32) := by
    rw [e]
    unfold Near at *
    have h1 := Rat.mul_le_mul_of_nonneg_right hX.1 (Rat.le_of_lt u0)
    have h2 := Rat.mul_le_mul_of_nonneg_right hX.2 (Rat.le_of_lt u0)
    constructor <;> grind
  have l := rI_lim (D := 1) (by decide) (by rw [show (((1 : Nat)) : Rat) = 1 from rfl, Rat.mul_one]) hN hm
  have f := Fin.sub h1 h2 l
  rw [← Int.sub_mul] at f
  obtain ⟨b, hb⟩ := rI_fac (n - k) m
  exact .of_fin f hb
theorem Gr.mul {m l j x y : Nat} {a b X : Rat} (hx : Gr m x) (hy : Gr l y) (hj : m + l = 149 + j) (ha : Val .f32 x a) (hb : Val .f32 y b) (hX : Near (a * b) X) (hm : X ≤ most) : Gr j (fop .mul .f32 x y) := by
  obtain ⟨n, h1⟩ := hx
  obtain ⟨k, h2⟩ := hy
  obtain ⟨p, p1, p2⟩ := ha
  obtain ⟨q, q1, q2⟩ := hb
  obtain rfl := h1.unique p1
  obtain rfl := h2.unique q1
  have u0 := unit_pos .f32
  have eu : (((2 ^ scK .f32 : Nat)) : Rat) = unit .f32 := rfl
  have e : (a * b * unit .f32) * (((2 ^ scK .f32 : Nat)) : Rat) = ((n * (2 ^ m : Nat) * (k * (2 ^ l : Nat)) : Int) : Rat) := by rw [eu, Rat.intCast_mul, p2, q2]; grind
  have hN : Near (a * b * unit .f32) (X * unit .f32) := by
    unfold Near at *
    have h1 := Rat.mul_le_mul_of_nonneg_right hX.1 (Rat.le_of_lt u0)
    have h2 := Rat.mul_le_mul_of_nonneg_right hX.2 (Rat.le_of_lt u0)
    constructor <;> grind
  have lm := rI_lim (D := 2 ^ scK .f32) (Nat.two_pow_pos _) e hN hm
  have f := Fin.mul h1 h2 lm
  have sc : scK .f32 = 149 := rfl
  have e2 : n * (2 ^ m : Nat) * (k * (2 ^ l : Nat)) = (n * k * (2 ^ j : Nat)) * ((2 ^ scK .f32 : Nat) : Int) := by
    rw [sc]
    have : ((2 ^ m : Nat) : Int) * ((2 ^ l : Nat) : Int) = ((2 ^ j : Nat) : Int) * ((2 ^ 149 : Nat) : Int) := by
      rw [← Int.natCast_mul, ← Int.natCast_mul, ← Nat.pow_add, ← Nat.pow_add, hj, Nat.add_comm]
    calc n * (2 ^ m : Nat) * (k * (2 ^ l : Nat)) = n * k * (((2 ^ m : Nat) : Int) * ((2 ^ l : Nat) : Int)) := by
          rw [Int.mul_assoc, Int.mul_assoc, Int.mul_left_comm ((2 ^ m : Nat) : Int)]
      _ = n * k * ((2 ^ j : Nat) : Int) * ((2 ^ 149 : Nat) : Int) := by rw [this, ← Int.mul_assoc]
  have e3 : rI .f32 (n * (2 ^ m : Nat) * (k * (2 ^ l : Nat))) (2 ^ scK .f32) = rI .f32 (n * k * (2 ^ j : Nat)) 1 := by
    rw [e2]
    unfold rI
    have np : (0 : Int) < ((2 ^ scK .f32 : Nat) : Int) := by
      have := Nat.two_pow_pos (scK .f32)
      omega
    have d : decide (n * k * (2 ^ j : Nat) * ((2 ^ scK .f32 : Nat) : Int) < 0) = decide (n * k * (2 ^ j : Nat) < 0) := by
      by_cases hz : n * k * (2 ^ j : Nat) < 0
      · rw [decide_eq_true hz, decide_eq_true (Int.mul_neg_of_neg_of_pos hz np)]
      · rw [decide_eq_false hz, decide_eq_false (Int.not_lt.2 (Int.mul_nonneg (Int.not_lt.1 hz) (Int.le_of_lt np)))]
    rw [d, Int.natAbs_mul, Int.natAbs_natCast]
    congr 1
    have := rq_scale (fb := fbK .f32) (A := (n * k * (2 ^ j : Nat)).natAbs) (B := 1) (k := 2 ^ scK .f32) (Nat.two_pow_pos _)
    rw [Nat.one_mul] at this
    exact this
  rw [e3] at f
  obtain ⟨b, hb⟩ := rI_fac (n * k) j
  exact .of_fin f hb
end Go.Fw

/-
  Segments gone back; lengths; turned places; how fine numbers are.
-/
namespace Go.Fw
section
variable {c s x y : Nat} {C S X Y M : Rat} (hC : Near (C * C + S * S - 1) (2 * ur .f32)) (hc : Val .f32 c C) (hs : Val .f32 s S) (hx : Val .f32 x X) (hy : Val .f32 y Y) (hX : Near X M) (hY : Near Y M) (M1 : 1 ≤ M) (M9 : M ≤ 64)
include hC hc hs hx hy hX hY M1 M9
end
end Go.Fw

/-
  Values of words; places turned around Z, seen from one another.
-/
namespace Go.Fw
open Classical in
noncomputable def vl (w : Nat) : Rat := if h : ∃ q, Val .f32 w q then Classical.choose h else 0
theorem vl_eq {w : Nat} {q : Rat} (h : Val .f32 w q) : vl w = q := by
  unfold vl
  have : ∃ q, Val .f32 w q := ⟨q, h⟩
  rw [dif_pos this]
  exact (Classical.choose_spec this).unique h
section
variable {C S : Rat} (hC : Near (C * C + S * S - 1) (2 * ur .f32))
include hC
end
end Go.Fw

/-
  Sums over pairs of places: 1 / (t + the square of the distance) never makes less than nothing.
-/
namespace Go.Fw
theorem rsum_add2 (f g : Nat → Rat) : ∀ n, rsum (fun i => f i + g i) n = rsum f n + rsum g n
  | 0 => by show (0 : Rat) = 0 + 0; grind
  | n + 1 => by
    show rsum (fun i => f i + g i) n + (f n + g n) = rsum f n + f n + (rsum g n + g n)
    rw [rsum_add2 f g n]; grind
theorem rsum_mul (c : Rat) (f : Nat → Rat) : ∀ n, rsum (fun i => c * f i) n = c * rsum f n
  | 0 => by show (0 : Rat) = c * 0; grind
  | n + 1 => by
    show rsum (fun i => c * f i) n + c * f n = c * (rsum f n + f n)
    rw [rsum_mul c f n]; grind
theorem rsum_zero : ∀ n, rsum (fun _ => 0) n = 0
  | 0 => rfl
  | n + 1 => by show rsum (fun _ => 0) n + 0 = 0; rw [rsum_zero n]; grind
theorem rsum_nonneg {f : Nat → Rat} : ∀ n, (∀ i, i < n → 0 ≤ f i) → 0 ≤ rsum f n
  | 0, _ => by show (0 : Rat) ≤ 0; decide
  | n + 1, H => by
    have h1 := rsum_nonneg n fun i hi => H i (by omega)
    have h2 := H n (by omega)
    show 0 ≤ rsum f n + f n
    grind
theorem rsum_swap (f : Nat → Nat → Rat) (m : Nat) : ∀ n, rsum (fun i => rsum (f i) m) n = rsum (fun j => rsum (fun i => f i j) n) m
  | 0 => by
    show (0 : Rat) = rsum (fun _ => 0) m
    rw [rsum_zero]
  | n + 1 => by
    show rsum (fun i => rsum (f i) m) n + rsum (f n) m = rsum (fun j => rsum (fun i => f i j) n + f n j) m
    rw [rsum_swap f m n, rsum_add2]
def dsum (f : Nat → Nat → Rat) (n m : Nat) : Rat := rsum (fun i => rsum (f i) m) n
theorem dsum_congr {f g : Nat → Nat → Rat} {n m : Nat} (h : ∀ i j, i < n → j < m → f i j = g i j) : dsum f n m = dsum g n m :=
  rsum_congr _ fun i hi => rsum_congr _ fun j hj => h i j hi hj
theorem dsum_add (f g : Nat → Nat → Rat) (n m : Nat) : dsum (fun i j => f i j + g i j) n m = dsum f n m + dsum g n m := by
  unfold dsum
  rw [← rsum_add2]
  exact rsum_congr _ fun i _ => rsum_add2 _ _ _
theorem dsum_mul (c : Rat) (f : Nat → Nat → Rat) (n m : Nat) : dsum (fun i j => c * f i j) n m = c * dsum f n m := by
  unfold dsum
  rw [← rsum_mul]
  exact rsum_congr _ fun i _ => rsum_mul _ _ _
theorem dsum_prod (a b : Nat → Rat) (n m : Nat) : dsum (fun i j => a i * b j) n m = rsum a n * rsum b m := by
  unfold dsum
  rw [Rat.mul_comm, ← rsum_mul]
  exact rsum_congr _ fun i _ => by rw [rsum_mul, Rat.mul_comm]
theorem dsum_swap (f : Nat → Nat → Rat) (n m : Nat) : dsum f n m = dsum (fun j i => f i j) m n := rsum_swap f m n
theorem sqn' (t : Rat) : 0 ≤ t * t := by
  rcases Rat.le_total (a := 0) (b := t) with h | h
  · exact Rat.mul_nonneg h h
  · have := Rat.mul_nonneg (show 0 ≤ -t by grind) (show 0 ≤ -t by grind)
    grind
section
variable (t : Rat) (x y z : Nat → Rat)
def dst (i j : Nat) : Rat := t + (x i - x j) * (x i - x j) + (y i - y j) * (y i - y j) + (z i - z j) * (z i - z j)
def ker (i j : Nat) : Rat := 1 / dst t x y z i j
def wsum (v : Nat → Rat) (n : Nat) : Rat := dsum (fun i j => v i * v j * ker t x y z i j) n n
variable {t}
theorem dst_pos (ht : 0 < t) (i j : Nat) : 0 < dst t x y z i j := by
  have := sqn' (x i - x j)
  have := sqn' (y i - y j)
  have := sqn' (z i - z j)
  unfold dst
  grind
theorem ker_mul (ht : 0 < t) (i j : Nat) : ker t x y z i j * dst t x y z i j = 1 := by
  have := dst_pos x y z ht i j
  exact Rat.div_mul_cancel (by grind)
theorem ker_split (ht : 0 < t) (i j k : Nat) : ker t x y z i j = t * (ker t x y z i k * ker t x y z j k) +
    (ker t x y z i k * ((x i - x k) * (x i - x k) + (y i - y k) * (y i - y k) + (z i - z k) * (z i - z k))) * (ker t x y z j k * ((x j - x k) * (x j - x k) + (y j - y k) * (y j - y k) + (z j - z k) * (z j - z k))) * ker t x y z i j +
    2 * t * ((ker t x y z i k * (x i - x k)) * (ker t x y z j k * (x j - x k)) * ker t x y z i j + (ker t x y z i k * (y i - y k)) * (ker t x y z j k * (y j - y k)) * ker t x y z i j + (ker t x y z i k * (z i - z k)) * (ker t x y z j k * (z j - z k)) * ker t x y z i j) := by
  have h1 := ker_mul x y z ht i j
  have h2 := ker_mul x y z ht i k
  have h3 := ker_mul x y z ht j k
  have e : dst t x y z i k * dst t x y z j k = t * dst t x y z i j + ((x i - x k) * (x i - x k) + (y i - y k) * (y i - y k) + (z i - z k) * (z i - z k)) * ((x j - x k) * (x j - x k) + (y j - y k) * (y j - y k) + (z j - z k) * (z j - z k)) + 2 * t * ((x i - x k) * (x j - x k) + (y i - y k) * (y j - y k) + (z i - z k) * (z j - z k)) := by
    unfold dst; grind
  generalize ker t x y z i j = K at *
  generalize ker t x y z i k = g at *
  generalize ker t x y z j k = h at *
  generalize dst t x y z i j = D at *
  generalize dst t x y z i k = E at *
  generalize dst t x y z j k = F at *
  generalize x i - x k = a at *
  generalize y i - y k = b at *
  generalize z i - z k = c at *
  generalize x j - x k = a' at *
  generalize y j - y k = b' at *
  generalize z j - z k = c' at *
  have e1 : K = K * ((g * E) * (h * F)) := by rw [h2, h3]; grind
  have e2 : K * ((g * E) * (h * F)) = g * h * K * (E * F) := by grind
  have main : K = g * h * t + g * h * K * ((a * a + b * b + c * c) * (a' * a' + b' * b' + c' * c') + 2 * t * (a * a' + b * b' + c * c')) := by
    refine e1.trans (e2.trans ?_)
    rw [e]
    have e3 : g * h * K * (t * D + (a * a + b * b + c * c) * (a' * a' + b' * b' + c' * c') + 2 * t * (a * a' + b * b' + c * c')) = g * h * t * (K * D) + g * h * K * ((a * a + b * b + c * c) * (a' * a' + b' * b' + c' * c') + 2 * t * (a * a' + b * b' + c * c')) := by grind
    rw [e3, h1, Rat.mul_one]
  refine main.trans ?_
  clear main e1 e2 e h1 h2 h3
  grind
theorem wsum_split (ht : 0 < t) (v : Nat → Rat) (n k : Nat) : wsum t x y z v n = t * (rsum (fun i => v i * ker t x y z i k) n * rsum (fun i => v i * ker t x y z i k) n) +
    wsum t x y z (fun i => v i * (ker t x y z i k * ((x i - x k) * (x i - x k) + (y i - y k) * (y i - y k) + (z i - z k) * (z i - z k)))) n +
    2 * t * (wsum t x y z (fun i => v i * (ker t x y z i k * (x i - x k))) n + wsum t x y z (fun i => v i * (ker t x y z i k * (y i - y k))) n + wsum t x y z (fun i => v i * (ker t x y z i k * (z i - z k))) n) := by
  unfold wsum
  rw [← dsum_prod, ← dsum_mul, ← dsum_add, ← dsum_add, ← dsum_add, ← dsum_mul, ← dsum_add]
  refine dsum_congr fun i j _ _ => ?_
  have e := ker_split x y z ht i j k
  dsimp only
  generalize ker t x y z i j = K at *
  generalize ker t x y z i k = g at *
  generalize ker t x y z j k = h at *
  generalize x i - x k = a at *
  generalize y i - y k = b at *
  generalize z i - z k = c at *
  generalize x j - x k = a' at *
  generalize y j - y k = b' at *
  generalize z j - z k = c' at *
  generalize v i = p at *
  generalize v j = q at *
  have : p * q * K = p * q * (t * (g * h) + g * (a * a + b * b + c * c) * (h * (a' * a' + b' * b' + c' * c')) * K + 2 * t * (g * a * (h * a') * K + g * b * (h * b') * K + g * c * (h * c') * K)) := by rw [← e]
  rw [this]
  clear this e
  grind
theorem wsum_low (ht : 0 < t) (n : Nat) : ∀ m, m ≤ n → ∀ v : Nat → Rat, (∀ i, i < n - m → v i = 0) → 0 ≤ wsum t x y z v n
  | 0, _, v, hv => by
    have : wsum t x y z v n = dsum (fun _ _ => 0) n n := dsum_congr fun i j hi _ => by rw [hv i (by omega)]; grind
    rw [this]
    show 0 ≤ rsum (fun _ => rsum (fun _ => (0 : Rat)) n) n
    rw [rsum_zero n, rsum_zero n]
    decide
  | m + 1, hm, v, hv => by
    have ih := wsum_low ht n m (by omega)
    rw [wsum_split x y z ht v n (n - (m + 1))]
    have key : ∀ c : Nat → Rat, c (n - (m + 1)) = 0 → 0 ≤ wsum t x y z (fun i => v i * (ker t x y z i (n - (m + 1)) * c i)) n := fun c hc => ih _ fun i hi => by
      show v i * (_ * c i) = 0
      by_cases h : i = n - (m + 1)
      · subst h; rw [hc]; grind
      · rw [hv i (by omega)]; grind
    have k1 := key (fun i => (x i - x (n - (m + 1))) * (x i - x (n - (m + 1))) + (y i - y (n - (m + 1))) * (y i - y (n - (m + 1))) + (z i - z (n - (m + 1))) * (z i - z (n - (m + 1)))) (by show _ + _ + _ = (0 : Rat); grind)
    have k2 := key (fun i => x i - x (n - (m + 1))) (by show _ - _ = (0 : Rat); grind)
    have k3 := key (fun i => y i - y (n - (m + 1))) (by show _ - _ = (0 : Rat); grind)
    have k4 := key (fun i => z i - z (n - (m + 1))) (by show _ - _ = (0 : Rat); grind)
    have k5 := Rat.mul_nonneg (Rat.le_of_lt ht) (sqn' (rsum (fun i => v i * ker t x y z i (n - (m + 1))) n))
    have k6 : 0 ≤ 2 * t * (wsum t x y z (fun i => v i * (ker t x y z i (n - (m + 1)) * (x i - x (n - (m + 1))))) n + wsum t x y z (fun i => v i * (ker t x y z i (n - (m + 1)) * (y i - y (n - (m + 1))))) n + wsum t x y z (fun i => v i * (ker t x y z i (n - (m + 1)) * (z i - z (n - (m + 1))))) n) := Rat.mul_nonneg (by grind) (by grind)
    grind
theorem wsum_nonneg (ht : 0 < t) (v : Nat → Rat) (n : Nat) : 0 ≤ wsum t x y z v n := wsum_low x y z ht n n (Nat.le_refl _) v fun i hi => absurd hi (by omega)
end
end Go.Fw

/-
  Sums of 32-bit numbers, with an error in proportion to the sum of the sizes; sums over pairs.
-/
namespace Go.Fw
def eps (T : Rat) : Rat := 2 * ur .f32 * T + 2 * tiny .f32
theorem eps_pos {T : Rat} (h : 0 ≤ T) : 0 ≤ eps T := by
  unfold eps
  have := Rat.mul_nonneg (Rat.le_of_lt (ur_pos .f32)) h
  have := tiny_pos .f32
  grind
theorem rsum_mono {F : Nat → Rat} {n : Nat} (h : ∀ k, k < n → 0 ≤ F k) {m : Nat} : m ≤ n → rsum F m ≤ rsum F n := by
  induction n with
  | zero => intro hm; obtain rfl : m = 0 := by omega
            exact Rat.le_refl
  | succ n ih =>
    intro hm
    rcases Nat.lt_or_ge m (n + 1) with h1 | h1
    · have a := ih (fun k hk => h k (by omega)) (show m ≤ n by omega)
      have b := h n (by omega)
      show rsum F m ≤ rsum F n + F n
      grind
    · obtain rfl : m = n + 1 := by omega
      exact Rat.le_refl
theorem rsum_nearF {f F : Nat → Rat} : ∀ n, (∀ k, k < n → Near (f k) (F k)) → Near (rsum f n) (rsum F n)
  | 0, _ => by show Near 0 0; unfold Near; constructor <;> decide
  | n + 1, h => (rsum_nearF n fun k hk => h k (by omega)).add (h n (by omega))
theorem sum_rel {s t : Nat → Nat} {f F : Nat → Rat} {T : Rat} {n : Nat} (h0 : Val .f32 (s 0) 0) (hs : ∀ k, k < n → s (k + 1) = fop .add .f32 (s k) (t k)) (ht : ∀ k, k < n → Val .f32 (t k) (f k)) (hF : ∀ k, k < n → Near (f k) (F k))
    (hT : rsum F n ≤ T) (hn : n ≤ 4096) (hm : T ≤ 1152921504606846976) : ∀ k, k ≤ n → ∃ v, Val .f32 (s k) v ∧ Near (v - rsum f k) ((k : Rat) * eps T)
  | 0, _ => ⟨0, h0, by
    show Near (0 - 0) (((0 : Nat) : Rat) * eps T)
    rw [show ((0 : Nat) : Rat) = 0 from rfl, Rat.zero_mul]
    unfold Near; constructor <;> grind⟩
  | k + 1, hk => by
    obtain ⟨v, v1, v2⟩ := sum_rel h0 hs ht hF hT hn hm k (by omega)
    have F0 : ∀ j, j < n → 0 ≤ F j := fun j hj => (hF j hj).nonneg
    have b1 := rsum_nearF k fun j hj => hF j (by omega)
    have b2 : rsum F k + F k ≤ rsum F n := rsum_mono F0 (m := k + 1) hk
    have b3 := hF k (by omega)
    have T0 : 0 ≤ T := Rat.le_trans (rsum_nonneg n F0) hT
    have k4 : ((k : Nat) : Rat) ≤ 4096 := Rat.natCast_le_natCast.2 (show k ≤ 4096 by omega)
    have e0 := eps_pos T0
    have k5 := Rat.mul_le_mul_of_nonneg_right k4 e0
    have X : Near (v + f k) (T + 4096 * eps T) := by
      unfold Near at *
      constructor <;> grind
    have big : (1152921504606846976 : Rat) * 2 ≤ most := by decide +kernel
    have s1 : 4096 * (2 * ur .f32) ≤ 1 / 2 := by decide +kernel
    have s2 : 4096 * (2 * tiny .f32) ≤ 1 := by decide +kernel
    have s1 := Rat.mul_le_mul_of_nonneg_right s1 T0
    have eX : T + 4096 * eps T = T + 4096 * (2 * ur .f32) * T + 4096 * (2 * tiny .f32) := by unfold eps; grind
    obtain ⟨w, w1, w2⟩ := v1.add (ht k (by omega)) X (by rw [eX]; grind)
    refine ⟨w, by rw [hs k (by omega)]; exact w1, ?_⟩
    have s3 : 4096 * (2 * ur .f32) * ur .f32 ≤ 1 / 2 * ur .f32 := by decide +kernel
    have s3 := Rat.mul_le_mul_of_nonneg_right s3 T0
    have s4 : 4096 * (2 * tiny .f32) * ur .f32 ≤ tiny .f32 := by decide +kernel
    have loss : (T + 4096 * eps T) * ur .f32 + tiny .f32 ≤ eps T := by
      rw [eX]
      unfold eps
      have u0 := Rat.mul_nonneg (Rat.le_of_lt (ur_pos .f32)) T0
      grind
    have w3 := w2.mono loss
    show Near (w - (rsum f k + f k)) (((k + 1 : Nat) : Rat) * eps T)
    rw [Rat.natCast_add, Rat.add_mul, show ((1 : Nat) : Rat) = 1 from rfl, Rat.one_mul]
    have := v2.add w3
    rw [show v - rsum f k + (w - (v + f k)) = w - (rsum f k + f k) by grind] at this
    exact this
theorem dsum_flat (f : Nat → Nat → Rat) {m : Nat} (hm : 0 < m) : ∀ n, rsum (fun k => f (k / m) (k % m)) (n * m) = dsum f n m
  | 0 => by rw [Nat.zero_mul]; rfl
  | n + 1 => by
    have h := dsum_flat f hm n
    have go : ∀ j, j ≤ m → rsum (fun k => f (k / m) (k % m)) (n * m + j) = dsum f n m + rsum (f n) j := fun j => by
      induction j with
      | zero => intro _; show _ = dsum f n m + 0; rw [Nat.add_zero, h]; grind
      | succ j ih =>
        intro hj
        show rsum (fun k => f (k / m) (k % m)) (n * m + j) + f ((n * m + j) / m) ((n * m + j) % m) = dsum f n m + (rsum (f n) j + f n j)
        rw [ih (by omega), Nat.mul_comm n m, Nat.mul_add_div hm, Nat.mul_add_mod, Nat.div_eq_of_lt (by omega), Nat.mod_eq_of_lt (by omega), Nat.add_zero]
        grind
    rw [Nat.succ_mul, go m (Nat.le_refl _)]
    rfl
theorem flat_words {I : Nat → Nat → Nat → Nat} {O : Nat → Nat} {t : Nat → Nat → Nat} {n m : Nat} (hm : 0 < m) (h0 : ∀ k s, I k s 0 = s) (hI : ∀ k s i, k < n → i < m → I k s (i + 1) = fop .add .f32 (I k s i) (t k i)) (hO : ∀ k, O (k + 1) = I k (O k) m) :
    ∃ W : Nat → Nat, W 0 = O 0 ∧ (∀ k, k < n * m → W (k + 1) = fop .add .f32 (W k) (t (k / m) (k % m))) ∧ W (n * m) = O n := by
  refine ⟨fun k => I (k / m) (O (k / m)) (k % m), ?_, fun k hk => ?_, ?_⟩
  · show I (0 / m) (O (0 / m)) (0 % m) = O 0
    rw [Nat.zero_div, Nat.zero_mod, h0]
  · have hd : k / m < n := Nat.div_lt_of_lt_mul (by rw [Nat.mul_comm]; exact hk)
    have hr : k % m < m := Nat.mod_lt _ hm
    show I ((k + 1) / m) (O ((k + 1) / m)) ((k + 1) % m) = fop .add .f32 (I (k / m) (O (k / m)) (k % m)) (t (k / m) (k % m))
    rw [← hI _ _ _ hd hr]
    have hk := Nat.div_add_mod k m
    by_cases h : k % m + 1 < m
    · have e1 : (k + 1) / m = k / m := by
        rw [show k + 1 = m * (k / m) + (k % m + 1) by omega, Nat.mul_add_div hm, Nat.div_eq_of_lt h, Nat.add_zero]
      have e2 : (k + 1) % m = k % m + 1 := by
        rw [show k + 1 = m * (k / m) + (k % m + 1) by omega, Nat.mul_add_mod, Nat.mod_eq_of_lt h]
      rw [e1, e2]
    · have he : k % m + 1 = m := by omega
      have e0 : k + 1 = m * (k / m + 1) := by rw [Nat.mul_add, Nat.mul_one]; omega
      have e1 : (k + 1) / m = k / m + 1 := by rw [e0, Nat.mul_div_cancel_left _ hm]
      have e2 : (k + 1) % m = 0 := by rw [e0, Nat.mul_mod_right]
      rw [e1, e2, h0, hO, he]
  · show I (n * m / m) (O (n * m / m)) (n * m % m) = O n
    rw [Nat.mul_div_cancel _ hm, Nat.mul_mod_left, h0]
theorem dsum_rel {I : Nat → Nat → Nat → Nat} {O : Nat → Nat} {t : Nat → Nat → Nat} {f F : Nat → Nat → Rat} {T : Rat} {n m : Nat} (hm : 0 < m) (h0 : ∀ k s, I k s 0 = s) (hI : ∀ k s i, k < n → i < m → I k s (i + 1) = fop .add .f32 (I k s i) (t k i)) (hO : ∀ k, O (k + 1) = I k (O k) m)
    (hz : Val .f32 (O 0) 0) (ht : ∀ k i, k < n → i < m → Val .f32 (t k i) (f k i)) (hF : ∀ k i, k < n → i < m → Near (f k i) (F k i)) (hT : dsum F n m ≤ T) (hn : n * m ≤ 4096) (hM : T ≤ 1152921504606846976) :
    ∃ v, Val .f32 (O n) v ∧ Near (v - dsum f n m) (((n * m : Nat) : Rat) * eps T) := by
  obtain ⟨W, w0, w1, w2⟩ := flat_words hm h0 hI hO
  have hd : ∀ k, k < n * m → k / m < n := fun k hk => Nat.div_lt_of_lt_mul (by rw [Nat.mul_comm]; exact hk)
  have hr : ∀ k, k % m < m := fun k => Nat.mod_lt _ hm
  obtain ⟨v, v1, v2⟩ := sum_rel (s := W) (t := fun k => t (k / m) (k % m)) (f := fun k => f (k / m) (k % m)) (F := fun k => F (k / m) (k % m)) (by rw [w0]; exact hz) w1 (fun k hk => ht _ _ (hd k hk) (hr k)) (fun k hk => hF _ _ (hd k hk) (hr k)) (by rw [dsum_flat F hm]; exact hT) hn hM (n * m) (Nat.le_refl _)
  rw [w2] at v1
  rw [dsum_flat f hm] at v2
  exact ⟨v, v1, v2⟩
theorem dsum_nearF {f F : Nat → Nat → Rat} {n m : Nat} (h : ∀ i j, i < n → j < m → Near (f i j) (F i j)) : Near (dsum f n m) (dsum F n m) :=
  rsum_nearF _ fun i hi => rsum_nearF _ fun j hj => h i j hi hj
end Go.Fw

/-
  One through a distance, and a little, is nearly a sum of eight kernels that never make less than nothing.
-/
namespace Go.Fw
def mqT (j : Nat) : Nat := [5172, 26215, 132876, 673505, 3413770, 17303250, 87704355].getD j 0
def mqW (j : Nat) : Nat := [83214, 66769, 199120, 429167, 989829, 2115247, 6153084].getD j 0
def mqP (k j : Nat) : Nat := Nat.div (Nat.mul (Nat.mul (mqW j) (Nat.mul k k)) 1073741824) (Nat.add (Nat.mul (mqT j) (Nat.mul k k)) 70368744177664)
def mqG (k : Nat) : Nat := Nat.add (mqP k 0) (Nat.add (mqP k 1) (Nat.add (mqP k 2) (Nat.add (mqP k 3) (Nat.add (mqP k 4) (Nat.add (mqP k 5) (Nat.add (mqP k 6) 37297152))))))
def mqO (k : Nat) : Bool := Nat.ble (Nat.add (Nat.sub (mqG k) (Nat.mul k 131072)) (Nat.sub (Nat.mul k 131072) (mqG k))) 65000
set_option maxRecDepth 1000000 in
theorem mq_tab : allUpTo (fun a => allUpTo (fun b => mqO (1150 + 256 * a + b)) 256) 124 = true := by decide +kernel
theorem mq_at {k : Nat} (h0 : 1150 ≤ k) (h1 : k < 32894) : mqO k = true := by
  have := allUpTo_iff.1 (allUpTo_iff.1 mq_tab ((k - 1150) / 256) (by omega)) ((k - 1150) % 256) (Nat.mod_lt _ (by omega))
  have e : 1150 + 256 * ((k - 1150) / 256) + (k - 1150) % 256 = k := by omega
  rw [e] at this
  exact this
end Go.Fw

/-
  One through a distance, and a little, is nearly a sum of eight kernels: in fractions.
-/
namespace Go.Fw
def mqf (S : Rat) : Rat := rsum (fun j => (mqW j : Rat) / ((mqT j : Rat) + 1048576 * S)) 7 + 36423 / 1048576
theorem mqP_le (k j : Nat) : mqP k j * (mqT j * (k * k) + 70368744177664) ≤ mqW j * (k * k) * 1073741824 := Nat.div_mul_le_self _ _
theorem mqP_lt (k j : Nat) : mqW j * (k * k) * 1073741824 < (mqP k j + 1) * (mqT j * (k * k) + 70368744177664) := by
  have h := Nat.lt_div_mul_add (a := mqW j * (k * k) * 1073741824) (b := mqT j * (k * k) + 70368744177664) (by omega)
  have e : mqP k j = mqW j * (k * k) * 1073741824 / (mqT j * (k * k) + 70368744177664) := rfl
  rw [← e] at h
  rw [Nat.add_mul, Nat.one_mul]
  exact h
section
variable {l : Rat} (h0 : 0 < l)
include h0
theorem den_pos (j : Nat) : 0 < (mqT j : Rat) + 1048576 * (l * l) := by
  have := Rat.mul_pos h0 h0
  have : (0 : Rat) ≤ (mqT j : Rat) := Rat.natCast_nonneg
  grind
theorem part_lo {k j : Nat} (hk : 0 < k) (h : (k : Rat) * l ≤ 8192) : (mqP k j : Rat) ≤ (mqW j : Rat) / ((mqT j : Rat) + 1048576 * (l * l)) * 1073741824 := by
  have d := den_pos h0 j
  have p := Rat.natCast_le_natCast.2 (mqP_le k j)
  simp only [Rat.natCast_mul, Rat.natCast_add] at p
  have k0 : (0 : Rat) < (k : Rat) := Rat.natCast_pos.2 hk
  have kl := Rat.mul_nonneg (Rat.le_of_lt k0) (Rat.le_of_lt h0)
  have q := sq_mono kl h
  have c : (mqW j : Rat) / ((mqT j : Rat) + 1048576 * (l * l)) * ((mqT j : Rat) + 1048576 * (l * l)) = (mqW j : Rat) := Rat.div_mul_cancel (by grind)
  have n1 : (0 : Rat) ≤ (mqP k j : Rat) := Rat.natCast_nonneg
  have e1 : ((70368744177664 : Nat) : Rat) = 70368744177664 := rfl
  have e2 : ((1073741824 : Nat) : Rat) = 1073741824 := rfl
  rw [e1, e2] at p
  refine Rat.le_of_mul_le_mul_right (c := ((mqT j : Rat) + 1048576 * (l * l)) * (k * k)) ?_ (Rat.mul_pos d (Rat.mul_pos k0 k0))
  generalize (mqW j : Rat) / ((mqT j : Rat) + 1048576 * (l * l)) = r at *
  have m := Rat.mul_le_mul_of_nonneg_left q n1
  generalize (mqP k j : Rat) = P at *
  generalize (mqT j : Rat) = T at *
  generalize (mqW j : Rat) = W at *
  generalize (k : Rat) = K at *
  have e3 : P * ((T + 1048576 * (l * l)) * (K * K)) = P * (T * (K * K)) + 1048576 * (P * (K * l * (K * l))) := by grind
  have e4 : r * 1073741824 * ((T + 1048576 * (l * l)) * (K * K)) = r * (T + 1048576 * (l * l)) * (K * K) * 1073741824 := by grind
  rw [e3, e4, c]
  have e5 : P * (T * (K * K) + 70368744177664) = P * (T * (K * K)) + 1048576 * (P * (8192 * 8192)) := by grind
  rw [e5] at p
  grind
theorem part_hi {k j : Nat} (hk : 0 < k) (h : 8192 ≤ (k : Rat) * l) : (mqW j : Rat) / ((mqT j : Rat) + 1048576 * (l * l)) * 1073741824 ≤ (mqP k j : Rat) + 1 := by
  have d := den_pos h0 j
  have p := Rat.natCast_le_natCast.2 (Nat.le_of_lt (mqP_lt k j))
  simp only [Rat.natCast_mul, Rat.natCast_add] at p
  have k0 : (0 : Rat) < (k : Rat) := Rat.natCast_pos.2 hk
  have q := sq_mono (show (0 : Rat) ≤ 8192 by decide) h
  have c : (mqW j : Rat) / ((mqT j : Rat) + 1048576 * (l * l)) * ((mqT j : Rat) + 1048576 * (l * l)) = (mqW j : Rat) := Rat.div_mul_cancel (by grind)
  have n1 : (0 : Rat) ≤ (mqP k j : Rat) + 1 := by
    have : (0 : Rat) ≤ (mqP k j : Rat) := Rat.natCast_nonneg
    grind
  have e1 : ((70368744177664 : Nat) : Rat) = 70368744177664 := rfl
  have e2 : ((1073741824 : Nat) : Rat) = 1073741824 := rfl
  have e0 : ((1 : Nat) : Rat) = 1 := rfl
  rw [e1, e2, e0] at p
  refine Rat.le_of_mul_le_mul_right (c := ((mqT j : Rat) + 1048576 * (l * l)) * (k * k)) ?_ (Rat.mul_pos d (Rat.mul_pos k0 k0))
  generalize (mqW j : Rat) / ((mqT j : Rat) + 1048576 * (l * l)) = r at *
  have m := Rat.mul_le_mul_of_nonneg_left q n1
  generalize (mqP k j : Rat) + 1 = P at *
  generalize (mqT j : Rat) = T at *
  generalize (mqW j : Rat) = W at *
  generalize (k : Rat) = K at *
  have e3 : P * ((T + 1048576 * (l * l)) * (K * K)) = P * (T * (K * K)) + 1048576 * (P * (K * l * (K * l))) := by grind
  have e4 : r * 1073741824 * ((T + 1048576 * (l * l)) * (K * K)) = r * (T + 1048576 * (l * l)) * (K * K) * 1073741824 := by grind
  rw [e3, e4, c]
  have e5 : P * (T * (K * K) + 70368744177664) = P * (T * (K * K)) + 1048576 * (P * (8192 * 8192)) := by grind
  rw [e5] at p
  grind
end
theorem rsum7 (f : Nat → Rat) : rsum f 7 = f 0 + f 1 + f 2 + f 3 + f 4 + f 5 + f 6 := by
  show 0 + f 0 + f 1 + f 2 + f 3 + f 4 + f 5 + f 6 = _
  grind
theorem mqG_cast (k : Nat) : ((mqG k : Nat) : Rat) = rsum (fun j => (mqP k j : Rat)) 7 + 37297152 := by
  have e : mqG k = mqP k 0 + (mqP k 1 + (mqP k 2 + (mqP k 3 + (mqP k 4 + (mqP k 5 + (mqP k 6 + 37297152)))))) := rfl
  rw [e, rsum7]
  simp only [Rat.natCast_add]
  rw [show ((37297152 : Nat) : Rat) = 37297152 from rfl]
  grind
theorem mqG_near {k : Nat} (h : mqO k = true) : Near ((mqG k : Rat) - (k : Rat) * 131072) 65000 := by
  have h := Nat.le_of_ble_eq_true h
  have h : (mqG k - k * 131072) + (k * 131072 - mqG k) ≤ 65000 := h
  have a : mqG k ≤ k * 131072 + 65000 := by omega
  have b : k * 131072 ≤ mqG k + 65000 := by omega
  have a := Rat.natCast_le_natCast.2 a
  have b := Rat.natCast_le_natCast.2 b
  simp only [Rat.natCast_add, Rat.natCast_mul] at a b
  rw [show ((131072 : Nat) : Rat) = 131072 from rfl, show ((65000 : Nat) : Rat) = 65000 from rfl] at a b
  unfold Near
  constructor <;> grind
theorem steps {l : Rat} : ∀ n : Nat, 8192 < (n : Rat) * l → ∃ k, k < n ∧ (k : Rat) * l ≤ 8192 ∧ 8192 < ((k + 1 : Nat) : Rat) * l
  | 0, h => by rw [show ((0 : Nat) : Rat) = 0 from rfl, Rat.zero_mul] at h; exact absurd h (by decide)
  | n + 1, h => by
    by_cases h' : 8192 < (n : Rat) * l
    · obtain ⟨k, k1, k2⟩ := steps n h'
      exact ⟨k, by omega, k2⟩
    · exact ⟨n, by omega, by grind, h⟩
theorem mq_near {l : Rat} (h0 : 2491 / 10000 ≤ l) (h1 : l ≤ 71 / 10) : Near (mqf (l * l) - 1 / l) (1 / 5000) := by
  have l0 : 0 < l := by
    have : (0 : Rat) < 2491 / 10000 := by decide +kernel
    grind
  obtain ⟨k, k1, k2, k3⟩ := steps (l := l) 32893 (by
    have e : ((32893 : Nat) : Rat) = 32893 := rfl
    rw [e]
    have := Rat.mul_le_mul_of_nonneg_left h0 (show (0 : Rat) ≤ 32893 by decide)
    have : (8192 : Rat) < 32893 * (2491 / 10000) := by decide +kernel
    grind)
  have k4 : 1150 ≤ k := by
    rcases Nat.lt_or_ge k 1150 with h | h
    · exfalso
      have a : ((k + 1 : Nat) : Rat) ≤ 1150 := Rat.natCast_le_natCast.2 (show k + 1 ≤ 1150 by omega)
      have b := Rat.mul_le_mul_of_nonneg_right a (Rat.le_of_lt l0)
      have c := Rat.mul_le_mul_of_nonneg_left h1 (show (0 : Rat) ≤ 1150 by decide)
      have d : (1150 : Rat) * (71 / 10) < 8192 := by decide +kernel
      grind
    · exact h
  have L : ∀ j, (mqP k j : Rat) ≤ (mqW j : Rat) / ((mqT j : Rat) + 1048576 * (l * l)) * 1073741824 := fun j => part_lo l0 (by omega) k2
  have U : ∀ j, (mqW j : Rat) / ((mqT j : Rat) + 1048576 * (l * l)) * 1073741824 ≤ (mqP (k + 1) j : Rat) + 1 := fun j => part_hi l0 (by omega) (Rat.le_of_lt k3)
  have g1 := mqG_near (mq_at k4 (by omega))
  have g2 := mqG_near (mq_at (show 1150 ≤ k + 1 by omega) (by omega))
  rw [mqG_cast, rsum7] at g1 g2
  have i : 1 / l * l = 1 := Rat.div_mul_cancel (by grind)
  have kk : ((k + 1 : Nat) : Rat) = (k : Rat) + 1 := Rat.natCast_add k 1
  rw [kk] at k3 g2
  have i1 : (k : Rat) ≤ 8192 * (1 / l) := by
    refine Rat.le_of_mul_le_mul_right (c := l) ?_ l0
    rw [Rat.mul_assoc, i]; grind
  have i2 : 8192 * (1 / l) ≤ (k : Rat) + 1 := by
    refine Rat.le_of_mul_le_mul_right (c := l) ?_ l0
    rw [Rat.mul_assoc, i]; grind
  unfold mqf
  rw [rsum7]
  have L0 := L 0; have L1 := L 1; have L2 := L 2; have L3 := L 3; have L4 := L 4; have L5 := L 5; have L6 := L 6
  have U0 := U 0; have U1 := U 1; have U2 := U 2; have U3 := U 3; have U4 := U 4; have U5 := U 5; have U6 := U 6
  generalize 1 / l = I at *
  generalize (k : Rat) = K at *
  generalize (mqW 0 : Rat) / ((mqT 0 : Rat) + 1048576 * (l * l)) = r0 at *
  generalize (mqW 1 : Rat) / ((mqT 1 : Rat) + 1048576 * (l * l)) = r1 at *
  generalize (mqW 2 : Rat) / ((mqT 2 : Rat) + 1048576 * (l * l)) = r2 at *
  generalize (mqW 3 : Rat) / ((mqT 3 : Rat) + 1048576 * (l * l)) = r3 at *
  generalize (mqW 4 : Rat) / ((mqT 4 : Rat) + 1048576 * (l * l)) = r4 at *
  generalize (mqW 5 : Rat) / ((mqT 5 : Rat) + 1048576 * (l * l)) = r5 at *
  generalize (mqW 6 : Rat) / ((mqT 6 : Rat) + 1048576 * (l * l)) = r6 at *
  clear L U i l0 h0 h1 k1 k2 k3 k4 kk
  have c8 : (36423 / 1048576 : Rat) * 1073741824 = 37297152 := by decide +kernel
  have c5 : (1 / 5000 : Rat) * 5000 = 1 := by decide +kernel
  unfold Near at *
  generalize (36423 / 1048576 : Rat) = C at *
  generalize (1 / 5000 : Rat) = E at *
  constructor <;> grind
end Go.Fw

/-
  Sums over pairs of places, weighed by one through their distances and a little: not less than nothing, nearly.
-/
namespace Go.Fw
theorem mqT_pos (j : Nat) (S : Rat) (h : 0 < S) : 0 < (mqT j : Rat) + 1048576 * S := by
  have : (0 : Rat) ≤ (mqT j : Rat) := Rat.natCast_nonneg
  grind
theorem part_near {S S' e : Rat} (j : Nat) (h : 0 < S) (h' : 0 < S') (hd : Near (S' - S) (e * S)) : Near ((mqW j : Rat) / ((mqT j : Rat) + 1048576 * S') - (mqW j : Rat) / ((mqT j : Rat) + 1048576 * S)) (e * ((mqW j : Rat) / ((mqT j : Rat) + 1048576 * S'))) := by
  have d := mqT_pos j S h
  have d' := mqT_pos j S' h'
  have c : (mqW j : Rat) / ((mqT j : Rat) + 1048576 * S) * ((mqT j : Rat) + 1048576 * S) = (mqW j : Rat) := Rat.div_mul_cancel (by grind)
  have c' : (mqW j : Rat) / ((mqT j : Rat) + 1048576 * S') * ((mqT j : Rat) + 1048576 * S') = (mqW j : Rat) := Rat.div_mul_cancel (by grind)
  have T0 : (0 : Rat) ≤ (mqT j : Rat) := Rat.natCast_nonneg
  have W0 : (0 : Rat) ≤ (mqW j : Rat) := Rat.natCast_nonneg
  have e0 : 0 ≤ e := by
    by_cases he : 0 ≤ e
    · exact he
    · have : e * S ≤ 0 := by
        have := Rat.mul_nonneg (show 0 ≤ -e by grind) (Rat.le_of_lt h)
        grind
      have := hd.nonneg
      have h0 : e * S = 0 := by grind
      rcases Rat.mul_eq_zero.1 h0 with h1 | h1
      · grind
      · grind
  have r0 : 0 ≤ (mqW j : Rat) / ((mqT j : Rat) + 1048576 * S') := by
    refine Rat.le_of_mul_le_mul_right (c := (mqT j : Rat) + 1048576 * S') ?_ d'
    rw [c', Rat.zero_mul]; exact W0
  generalize (mqW j : Rat) / ((mqT j : Rat) + 1048576 * S) = r at *
  generalize (mqW j : Rat) / ((mqT j : Rat) + 1048576 * S') = r' at *
  generalize (mqT j : Rat) = T at *
  generalize (mqW j : Rat) = W at *
  have k1 : e * S * 1048576 ≤ e * (T + 1048576 * S) := by
    have := Rat.mul_nonneg e0 T0
    grind
  have k2 := Rat.mul_le_mul_of_nonneg_left k1 r0
  have id : (r' - r) * (T + 1048576 * S) = -(r' * ((S' - S) * 1048576)) := by grind
  unfold Near at hd ⊢
  have h1 := Rat.mul_le_mul_of_nonneg_left hd.1 r0
  have h2 := Rat.mul_le_mul_of_nonneg_left hd.2 r0
  constructor
  · refine Rat.le_of_mul_le_mul_right (c := T + 1048576 * S) ?_ d
    rw [id]
    grind
  · refine Rat.le_of_mul_le_mul_right (c := T + 1048576 * S) ?_ d
    rw [id]
    grind
theorem mqf_near {S S' e : Rat} (h : 0 < S) (h' : 0 < S') (hd : Near (S' - S) (e * S)) (e0 : 0 ≤ e) : Near (mqf S' - mqf S) (e * mqf S') := by
  have n0 := part_near 0 h h' hd
  have n1 := part_near 1 h h' hd
  have n2 := part_near 2 h h' hd
  have n3 := part_near 3 h h' hd
  have n4 := part_near 4 h h' hd
  have n5 := part_near 5 h h' hd
  have n6 := part_near 6 h h' hd
  unfold mqf
  rw [rsum7, rsum7]
  have c0 : (0 : Rat) ≤ 36423 / 1048576 := by decide +kernel
  have c1 := Rat.mul_nonneg e0 c0
  unfold Near at *
  constructor <;> grind
theorem mqf_len {l S e : Rat} (hS : 0 < S) (h0 : 2491 / 10000 ≤ l) (h1 : l ≤ 71 / 10) (hd : Near (l * l - S) (e * S)) (e0 : 0 ≤ e) (e1 : e ≤ 1 / 100000) : Near (mqf S - 1 / l) (1 / 4000) := by
  have l0 : 0 < l := by
    have : (0 : Rat) < 2491 / 10000 := by decide +kernel
    grind
  have a := mq_near h0 h1
  have b := mqf_near hS (Rat.mul_pos l0 l0) hd e0
  have i : 1 / l * l = 1 := Rat.div_mul_cancel (by grind)
  have i1 : 1 / l ≤ 41 / 10 := by
    refine Rat.le_of_mul_le_mul_right (c := l) ?_ l0
    rw [i]
    have := Rat.mul_le_mul_of_nonneg_left h0 (show (0 : Rat) ≤ 41 / 10 by decide +kernel)
    have : (1 : Rat) ≤ 41 / 10 * (2491 / 10000) := by decide +kernel
    grind
  have m5 : mqf (l * l) ≤ 5 := by
    have : (41 / 10 : Rat) + 1 / 5000 ≤ 5 := by decide +kernel
    unfold Near at a
    grind
  have m0 : 0 ≤ mqf (l * l) := by
    by_cases hz : 0 ≤ e * mqf (l * l)
    · by_cases he : e = 0
      · -- e = 0: the value itself
        have c : ∀ j, 0 ≤ (mqW j : Rat) / ((mqT j : Rat) + 1048576 * (l * l)) := fun j => by
          refine Rat.le_of_mul_le_mul_right (c := (mqT j : Rat) + 1048576 * (l * l)) ?_ (mqT_pos j _ (Rat.mul_pos l0 l0))
          rw [Rat.div_mul_cancel (by have := mqT_pos j _ (Rat.mul_pos l0 l0); grind), Rat.zero_mul]
          exact Rat.natCast_nonneg
        unfold mqf
        have := rsum_nonneg 7 fun j _ => c j
        have : (0 : Rat) ≤ 36423 / 1048576 := by decide +kernel
        grind
      · refine Rat.le_of_mul_le_mul_left (c := e) ?_ (by grind)
        rw [Rat.mul_zero]; exact hz
    · exact absurd b.nonneg hz
  have k := Rat.mul_le_mul_of_nonneg_right e1 m0
  have k2 := Rat.mul_le_mul_of_nonneg_left m5 (show (0 : Rat) ≤ 1 / 100000 by decide +kernel)
  have k3 : (1 / 5000 : Rat) + 1 / 100000 * 5 ≤ 1 / 4000 := by decide +kernel
  unfold Near at *
  constructor <;> grind
section
variable (x y z : Nat → Rat)
def dsq (i j : Nat) : Rat := dst (1 / 16) x y z i j
theorem mq_part (v : Nat → Rat) (n j : Nat) : 0 ≤ dsum (fun a b => v a * v b * ((mqW j : Rat) / ((mqT j : Rat) + 1048576 * dsq x y z a b))) n n := by
  have T0 : (0 : Rat) ≤ (mqT j : Rat) := Rat.natCast_nonneg
  have W0 : (0 : Rat) ≤ (mqW j : Rat) := Rat.natCast_nonneg
  have t0 : (0 : Rat) < (mqT j : Rat) * (1 / 1048576) + 1 / 16 := by
    have := Rat.mul_nonneg T0 (show (0 : Rat) ≤ 1 / 1048576 by decide +kernel)
    have : (0 : Rat) < 1 / 16 := by decide +kernel
    grind
  have key := wsum_nonneg (t := (mqT j : Rat) * (1 / 1048576) + 1 / 16) x y z t0 v n
  have e : dsum (fun a b => v a * v b * ((mqW j : Rat) / ((mqT j : Rat) + 1048576 * dsq x y z a b))) n n = (mqW j : Rat) * (1 / 1048576) * wsum ((mqT j : Rat) * (1 / 1048576) + 1 / 16) x y z v n := by
    unfold wsum
    rw [← dsum_mul]
    refine dsum_congr fun a b _ _ => ?_
    have k := ker_mul x y z t0 a b
    have dp := dst_pos x y z t0 a b
    have eq : (mqT j : Rat) + 1048576 * dsq x y z a b = 1048576 * dst ((mqT j : Rat) * (1 / 1048576) + 1 / 16) x y z a b := by
      unfold dsq dst
      have : (1 / 1048576 : Rat) * 1048576 = 1 := by decide +kernel
      grind
    rw [eq]
    have c : (mqW j : Rat) / (1048576 * dst ((mqT j : Rat) * (1 / 1048576) + 1 / 16) x y z a b) * (1048576 * dst ((mqT j : Rat) * (1 / 1048576) + 1 / 16) x y z a b) = (mqW j : Rat) := Rat.div_mul_cancel (by grind)
    generalize (mqW j : Rat) / (1048576 * dst ((mqT j : Rat) * (1 / 1048576) + 1 / 16) x y z a b) = r at *
    generalize ker ((mqT j : Rat) * (1 / 1048576) + 1 / 16) x y z a b = K at *
    generalize dst ((mqT j : Rat) * (1 / 1048576) + 1 / 16) x y z a b = D at *
    have h : r = (mqW j : Rat) * (1 / 1048576) * K := by
      have q : (1 / 1048576 : Rat) * 1048576 = 1 := by decide +kernel
      have : r * (K * D) * (1 / 1048576 * 1048576) = r := by rw [k, q]; grind
      rw [← this, ← c]
      grind
    rw [h]
    grind
  rw [e]
  exact Rat.mul_nonneg (Rat.mul_nonneg W0 (by decide +kernel)) key
theorem mqf_sum (v : Nat → Rat) (n : Nat) : 0 ≤ dsum (fun a b => v a * v b * mqf (dsq x y z a b)) n n := by
  have e : dsum (fun a b => v a * v b * mqf (dsq x y z a b)) n n = rsum (fun j => dsum (fun a b => v a * v b * ((mqW j : Rat) / ((mqT j : Rat) + 1048576 * dsq x y z a b))) n n) 7 + 36423 / 1048576 * (rsum v n * rsum v n) := by
    rw [rsum7, ← dsum_prod, ← dsum_mul, ← dsum_add, ← dsum_add, ← dsum_add, ← dsum_add, ← dsum_add, ← dsum_add, ← dsum_add]
    refine dsum_congr fun a b _ _ => ?_
    unfold mqf
    rw [rsum7]
    grind
  rw [e]
  have a := rsum_nonneg 7 fun j _ => mq_part x y z v n j
  have b := Rat.mul_nonneg (show (0 : Rat) ≤ 36423 / 1048576 by decide +kernel) (sqn' (rsum v n))
  grind
end
end Go.Fw

/-
  Two pieces of wires: the root of their distance, what they are to one another, as fractions.
-/
namespace Go.Fw
theorem nabs_le_of {x M : Rat} (h : Near x M) : nabs x ≤ M := by unfold nabs Near at *; split <;> grind
theorem diff_sq {a d : Rat} (ha : Near a 64) (hd : Near (d - a) (nabs a * ur .f32 + tiny .f32)) : Near (d * d - a * a) (a * a * (3 * ur .f32) + 200 * tiny .f32) := by
  have u0 := ur_pos .f32
  have t0 := tiny_pos .f32
  have n0 := nabs_pos a
  have n1 := nabs_le_of ha
  have n2 := nabs_near a
  have ns := nabs_sq a
  have e0 : 0 ≤ nabs a * ur .f32 + tiny .f32 := hd.nonneg
  have m1 := hd.mul n2
  have m2 := hd.mul hd
  have id : d * d - a * a = 2 * ((d - a) * a) + (d - a) * (d - a) := by grind
  rw [id]
  have us : ur .f32 * 1024 ≤ 1 := ur32_small
  have ts : tiny .f32 * 1024 ≤ 1 := by decide +kernel
  generalize nabs a = n at *
  generalize ur .f32 = u at *
  generalize tiny .f32 = t at *
  have nu := Rat.mul_nonneg n0 (Rat.le_of_lt u0)
  have nt := Rat.mul_nonneg n0 (Rat.le_of_lt t0)
  have k1 : n * t ≤ 64 * t := Rat.mul_le_mul_of_nonneg_right n1 (Rat.le_of_lt t0)
  have k2 : n * n * u * (u * 1024) ≤ n * n * u * 1 := Rat.mul_le_mul_of_nonneg_left us (Rat.mul_nonneg (Rat.mul_nonneg n0 n0) (Rat.le_of_lt u0))
  have k3 : n * t * (u * 1024) ≤ n * t * 1 := Rat.mul_le_mul_of_nonneg_left us nt
  have k4 : t * (t * 1024) ≤ t * 1 := Rat.mul_le_mul_of_nonneg_left ts (Rat.le_of_lt t0)
  have k5 : 0 ≤ n * n * u := Rat.mul_nonneg (Rat.mul_nonneg n0 n0) (Rat.le_of_lt u0)
  have e1 : (n * u + t) * n = n * n * u + n * t := by grind
  have e2 : (n * u + t) * (n * u + t) = n * n * u * u + 2 * (n * t * u) + t * t := by grind
  rw [e1] at m1
  rw [e2] at m2
  rw [← ns]
  unfold Near at *
  constructor <;> grind
theorem root_pair {dx dy dz tw : Nat} {x y z a b c τ : Rat} (vx : Val .f32 dx x) (vy : Val .f32 dy y) (vz : Val .f32 dz z) (ha : Near a 64) (hb : Near b 64) (hc : Near c 64)
    (hx : Near (x - a) (nabs a * ur .f32 + tiny .f32)) (hy : Near (y - b) (nabs b * ur .f32 + tiny .f32)) (hz : Near (z - c) (nabs c * ur .f32 + tiny .f32)) (ht : Val .f32 tw τ) (t0 : 0 ≤ τ) (t1 : τ ≤ 1) (hS : 1 / 16 ≤ τ + a * a + b * b + c * c) :
    ∃ l, Val .f32 (fcvt .f64 .f32 (fsqrt (fcvt .f32 .f64 (fop .add .f32 (fop .add .f32 (fop .add .f32 (fop .mul .f32 dx dx) (fop .mul .f32 dy dy)) (fop .mul .f32 dz dz)) tw)))) l ∧ 0 ≤ l ∧ Near (l * l - (τ + a * a + b * b + c * c)) (1 / 400000 * (τ + a * a + b * b + c * c)) := by
  have s1 := diff_sq ha hx
  have s2 := diff_sq hb hy
  have s3 := diff_sq hc hz
  have q1 := sqn a
  have q2 := sqn b
  have q3 := sqn c
  have A64 : a * a ≤ 4096 ∧ b * b ≤ 4096 ∧ c * c ≤ 4096 := by
    have m1 := ha.mul ha
    have m2 := hb.mul hb
    have m3 := hc.mul hc
    unfold Near at m1 m2 m3
    refine ⟨?_, ?_, ?_⟩ <;> grind
  have u0 := ur_pos .f32
  have z0 := tiny_pos .f32
  have us : ur .f32 * 1024 ≤ 1 := ur32_small
  have ts : tiny .f32 * 1000000 ≤ 1 := by decide +kernel
  have big : (1000000 : Rat) ≤ most := by decide +kernel
  generalize hAe : x * x + y * y + z * z = A
  generalize hBe : a * a + b * b + c * c = B
  have AB : Near (A - B) (B * (3 * ur .f32) + 600 * tiny .f32) := by
    rw [← hAe, ← hBe]
    unfold Near at *
    constructor <;> grind
  have B0 : 0 ≤ B := by grind
  have BM : B ≤ 12288 := by grind
  have Bu : B * (ur .f32 * 1024) ≤ B * 1 := Rat.mul_le_mul_of_nonneg_left us B0
  have AM : A ≤ 13000 := by unfold Near at AB; grind
  have A0 : 0 ≤ A := by have := sqn x; have := sqn y; have := sqn z; grind
  obtain ⟨i, i1, i2, i3⟩ := long_core vx vy vz hAe.symm (by grind)
  have e22u : e22 = 4 * ur .f32 := by decide +kernel
  rw [e22u] at i3
  have Au : A * (ur .f32 * 1024) ≤ A * 1 := Rat.mul_le_mul_of_nonneg_left us A0
  have IM : i ≤ 14000 := by unfold Near at i3; grind
  obtain ⟨j, j1, j2, j3⟩ := i1.addp ht i2 t0 (by grind)
  have J0 : 0 ≤ i + τ := by grind
  have Ju : (i + τ) * (ur .f32 * 1024) ≤ (i + τ) * 1 := Rat.mul_le_mul_of_nonneg_left us J0
  have JM : j ≤ 15000 := by unfold Near at j3; grind
  obtain ⟨l, l1, l2, l3, _⟩ := j1.root j2 (by grind)
  refine ⟨l, l1, l2, ?_⟩
  rw [e22u] at l3
  generalize hSe : τ + B = S
  have e : τ + a * a + b * b + c * c = S := by grind
  rw [e] at hS ⊢
  have S0 : 0 ≤ S := by grind
  have k16 : (1 / 16 : Rat) * 16 = 1 := by decide +kernel
  have tS : 1000 * tiny .f32 ≤ S * ur .f32 := by
    have h1 := Rat.mul_le_mul_of_nonneg_right hS (Rat.le_of_lt u0)
    have h2 : 1000 * tiny .f32 ≤ 1 / 16 * ur .f32 := by decide +kernel
    grind
  have Su : S * ur .f32 * (ur .f32 * 1024) ≤ S * ur .f32 * 1 := Rat.mul_le_mul_of_nonneg_left us (Rat.mul_nonneg S0 (Rat.le_of_lt u0))
  have BS : B * ur .f32 ≤ S * ur .f32 := Rat.mul_le_mul_of_nonneg_right (by grind) (Rat.le_of_lt u0)
  have d1 : Near (A + τ - S) (S * (4 * ur .f32)) := by unfold Near at AB ⊢; constructor <;> grind
  have AS : A * ur .f32 ≤ (S + S * (4 * ur .f32)) * ur .f32 := Rat.mul_le_mul_of_nonneg_right (by unfold Near at d1; grind) (Rat.le_of_lt u0)
  have d2 : Near (i + τ - S) (S * (14 * ur .f32)) := by unfold Near at d1 i3 ⊢; constructor <;> grind
  have IS : (i + τ) * ur .f32 ≤ (S + S * (14 * ur .f32)) * ur .f32 := Rat.mul_le_mul_of_nonneg_right (by unfold Near at d2; grind) (Rat.le_of_lt u0)
  have d3 : Near (j - S) (S * (17 * ur .f32)) := by unfold Near at d2 j3 ⊢; constructor <;> grind
  have JS : j * ur .f32 ≤ (S + S * (17 * ur .f32)) * ur .f32 := Rat.mul_le_mul_of_nonneg_right (by unfold Near at d3; grind) (Rat.le_of_lt u0)
  have d4 : Near (l * l - S) (S * (23 * ur .f32)) := by unfold Near at d3 l3 ⊢; constructor <;> grind
  refine d4.mono ?_
  have : 23 * ur .f32 ≤ 1 / 400000 := by decide +kernel
  have := Rat.mul_le_mul_of_nonneg_left this S0
  grind
theorem inn_val {a b c p q r : Nat} {A B C P Q R X Y : Rat} (ha : Val .f32 a A) (hb : Val .f32 b B) (hc : Val .f32 c C) (hp : Val .f32 p P) (hq : Val .f32 q Q) (hr : Val .f32 r R)
    (nA : Near A X) (nB : Near B X) (nC : Near C X) (nP : Near P Y) (nQ : Near Q Y) (nR : Near R Y) (hX : X ≤ 64) (hY : Y ≤ 64) :
    ∃ v, Val .f32 (fop .add .f32 (fop .add .f32 (fop .mul .f32 a p) (fop .mul .f32 b q)) (fop .mul .f32 c r)) v ∧ Near (v - (A * P + B * Q + C * R)) (12 * ur .f32 * (X * Y) + 8 * tiny .f32) := by
  have X0 := nA.nonneg
  have Y0 := nP.nonneg
  have m1 := nA.mul nP
  have m2 := nB.mul nQ
  have m3 := nC.mul nR
  have XY0 := Rat.mul_nonneg X0 Y0
  have XYM : X * Y ≤ 4096 := by
    have h1 := Rat.mul_le_mul_of_nonneg_right hX Y0
    have h2 := Rat.mul_le_mul_of_nonneg_left hY (show (0 : Rat) ≤ 64 by decide)
    grind
  have big : (100000 : Rat) ≤ most := by decide +kernel
  have u0 := ur_pos .f32
  have z0 := tiny_pos .f32
  have us : ur .f32 * 1024 ≤ 1 := ur32_small
  have ts : tiny .f32 * 1024 ≤ 1 := by decide +kernel
  have s := Rat.mul_le_mul_of_nonneg_left us XY0
  have su := Rat.mul_le_mul_of_nonneg_left us (Rat.mul_nonneg XY0 (Rat.le_of_lt u0))
  have tu : tiny .f32 * (ur .f32 * 1024) ≤ tiny .f32 * 1 := Rat.mul_le_mul_of_nonneg_left us (Rat.le_of_lt z0)
  obtain ⟨x, x1, x2⟩ := ha.mul hp m1 (by grind)
  obtain ⟨y, y1, y2⟩ := hb.mul hq m2 (by grind)
  obtain ⟨z, z1, z2⟩ := hc.mul hr m3 (by grind)
  obtain ⟨i, i1, i2⟩ := x1.add y1 (X := 3 * (X * Y) + 2 * tiny .f32) (by unfold Near at *; constructor <;> grind) (by grind)
  obtain ⟨v, v1, v2⟩ := i1.add z1 (X := 4 * (X * Y) + 5 * tiny .f32) (by unfold Near at *; constructor <;> grind) (by grind)
  refine ⟨v, v1, ?_⟩
  unfold Near at *
  constructor <;> grind
end Go.Fw

/-
  Two pieces of wires: what they are to one another is nearly the product of their ways, weighed by the kernel of their places.
-/
namespace Go.Fw
theorem cs3 {a b c p q r X Y : Rat} (h1 : a * a + b * b + c * c ≤ X * X) (h2 : p * p + q * q + r * r ≤ Y * Y) (hX : 0 ≤ X) (hY : 0 ≤ Y) : Near (a * p + b * q + c * r) (X * Y) := by
  have k : (a * p + b * q + c * r) * (a * p + b * q + c * r) ≤ X * Y * (X * Y) := by
    have s1 := sqn (a * q - b * p)
    have s2 := sqn (a * r - c * p)
    have s3 := sqn (b * r - c * q)
    have e : (a * p + b * q + c * r) * (a * p + b * q + c * r) = (a * a + b * b + c * c) * (p * p + q * q + r * r) - (a * q - b * p) * (a * q - b * p) - (a * r - c * p) * (a * r - c * p) - (b * r - c * q) * (b * r - c * q) := by grind
    have p0 : 0 ≤ p * p + q * q + r * r := by have := sqn p; have := sqn q; have := sqn r; grind
    have m1 := Rat.mul_le_mul_of_nonneg_right h1 p0
    have m2 := Rat.mul_le_mul_of_nonneg_left h2 (sqn X)
    have e2 : X * Y * (X * Y) = X * X * (Y * Y) := by grind
    rw [e, e2]
    grind
  have XY := Rat.mul_nonneg hX hY
  have h := nabs_near (a * p + b * q + c * r)
  refine h.mono (le_of_sq XY ?_)
  rw [nabs_sq]
  exact k
theorem coord {a b c X : Rat} (h : a * a + b * b + c * c ≤ X * X) (hX : 0 ≤ X) : Near a X ∧ Near b X ∧ Near c X := by
  have s1 := sqn a
  have s2 := sqn b
  have s3 := sqn c
  refine ⟨(nabs_near a).mono (le_of_sq hX ?_), (nabs_near b).mono (le_of_sq hX ?_), (nabs_near c).mono (le_of_sq hX ?_)⟩ <;> (rw [nabs_sq]; grind)
theorem diff_val {x y : Nat} {a b : Rat} (hx : Val .f32 x a) (hy : Val .f32 y b) (ha : Near a 32) (hb : Near b 32) : ∃ d, Val .f32 (fop .sub .f32 x y) d ∧ Near (d - (a - b)) (nabs (a - b) * ur .f32 + tiny .f32) ∧ Near (a - b) 64 := by
  have n := (ha.sub hb).mono (show (32 + 32 : Rat) ≤ 64 by decide +kernel)
  have big : (64 : Rat) ≤ most := by decide +kernel
  obtain ⟨d, d1, d2⟩ := hx.sub hy (X := nabs (a - b)) (nabs_near _) (Rat.le_trans (nabs_le_of n) big)
  exact ⟨d, d1, d2, n⟩
theorem quo_len {w r : Nat} {c W l I X : Rat} (hw : Val .f32 w c) (hr : Val .f32 r l) (l0 : 0 < l) (hI : I * l = 1) (I4 : I ≤ 41 / 10) (hW : Near W X) (hc : Near (c - W) (12 * ur .f32 * X + 8 * tiny .f32)) (hX : X ≤ 256) :
    ∃ f, Val .f32 (fop .quo .f32 w r) f ∧ Near (f - W * I) (62 * ur .f32 * X + 40 * tiny .f32) := by
  have X0 := hW.nonneg
  have I0 : 0 ≤ I := by
    refine Rat.le_of_mul_le_mul_right (c := l) ?_ l0
    rw [hI, Rat.zero_mul]; decide
  have u0 := ur_pos .f32
  have t0 := tiny_pos .f32
  have us : ur .f32 * 1024 ≤ 1 := ur32_small
  have ts : tiny .f32 * 1024 ≤ 1 := by decide +kernel
  have Xu := Rat.mul_nonneg X0 (Rat.le_of_lt u0)
  have xu := Rat.mul_le_mul_of_nonneg_left us X0
  have xuu := Rat.mul_le_mul_of_nonneg_left us Xu
  have tu : tiny .f32 * (ur .f32 * 1024) ≤ tiny .f32 * 1 := Rat.mul_le_mul_of_nonneg_left us (Rat.le_of_lt t0)
  have e : c / l = c * I := by
    have h : c / l * l = c := Rat.div_mul_cancel (by grind)
    have : c / l * (I * l) = c * I := by
      have : c / l * (I * l) = c / l * l * I := by grind
      rw [this, h]
    rw [hI, Rat.mul_one] at this
    exact this
  have cn : Near c (X + (12 * ur .f32 * X + 8 * tiny .f32)) := by
    have := hW.add hc
    rw [show W + (c - W) = c by grind] at this
    exact this
  have IN : Near I (41 / 10) := by unfold Near; constructor <;> grind
  have ci := cn.mul IN
  have di := hc.mul IN
  have big : (2000 : Rat) ≤ most := by decide +kernel
  have k2 : (X + (12 * ur .f32 * X + 8 * tiny .f32)) * (41 / 10) ≤ 2000 := by
    have : (41 / 10 : Rat) ≤ 5 := by decide +kernel
    have := Rat.mul_le_mul_of_nonneg_left this cn.nonneg
    grind
  obtain ⟨f, f1, f2⟩ := hw.quo hr (by grind) (X := (X + (12 * ur .f32 * X + 8 * tiny .f32)) * (41 / 10)) (by rw [e]; exact ci) (by grind)
  rw [e] at f2
  refine ⟨f, f1, ?_⟩
  have id : f - W * I = (f - c * I) + (c - W) * I := by grind
  rw [id]
  have h41 : (41 / 10 : Rat) * 10 = 41 := by decide +kernel
  refine (f2.add di).mono ?_
  generalize (41 / 10 : Rat) = k at *
  have k5 : k ≤ 5 := by grind
  have k4 : 4 ≤ k := by grind
  have m1 : (12 * ur .f32 * X + 8 * tiny .f32) * k * 10 = (12 * ur .f32 * X + 8 * tiny .f32) * 41 := by
    have : (12 * ur .f32 * X + 8 * tiny .f32) * k * 10 = (12 * ur .f32 * X + 8 * tiny .f32) * (k * 10) := by grind
    rw [this, h41]
  have m2 : (X + (12 * ur .f32 * X + 8 * tiny .f32)) * k * ur .f32 * 10 = (X + (12 * ur .f32 * X + 8 * tiny .f32)) * 41 * ur .f32 := by
    have : (X + (12 * ur .f32 * X + 8 * tiny .f32)) * k * ur .f32 * 10 = (X + (12 * ur .f32 * X + 8 * tiny .f32)) * (k * 10) * ur .f32 := by grind
    rw [this, h41]
  grind
structure Pc1 (w1 w2 w3 m1 m2 m3 : Nat) (a b c u v w lam : Rat) : Prop where
  v1 : Val .f32 w1 a
  v2 : Val .f32 w2 b
  v3 : Val .f32 w3 c
  v4 : Val .f32 m1 u
  v5 : Val .f32 m2 v
  v6 : Val .f32 m3 w
  ww : a * a + b * b + c * c ≤ lam * lam
  l0 : 1 / 1099511627776 ≤ lam
  l1 : lam ≤ 16
  n4 : Near u (201 / 100)
  n5 : Near v (201 / 100)
  n6 : Near w (201 / 100)
theorem pair_term {w1 w2 w3 m1 m2 m3 w1' w2' w3' m1' m2' m3' tw : Nat} {a b c u v w lam a' b' c' u' v' w' lam' : Rat} (hp : Pc1 w1 w2 w3 m1 m2 m3 a b c u v w lam) (hq : Pc1 w1' w2' w3' m1' m2' m3' a' b' c' u' v' w' lam') (ht : Val .f32 tw (1 / 16)) :
    ∃ l f, Val .f32 (fcvt .f64 .f32 (fsqrt (fcvt .f32 .f64 (fop .add .f32 (fop .add .f32 (fop .add .f32 (fop .mul .f32 (fop .sub .f32 m1 m1') (fop .sub .f32 m1 m1')) (fop .mul .f32 (fop .sub .f32 m2 m2') (fop .sub .f32 m2 m2'))) (fop .mul .f32 (fop .sub .f32 m3 m3') (fop .sub .f32 m3 m3'))) tw)))) l ∧ 0 < l ∧
      Val .f32 (fop .quo .f32 (fop .add .f32 (fop .add .f32 (fop .mul .f32 w1 w1') (fop .mul .f32 w2 w2')) (fop .mul .f32 w3 w3')) (fcvt .f64 .f32 (fsqrt (fcvt .f32 .f64 (fop .add .f32 (fop .add .f32 (fop .add .f32 (fop .mul .f32 (fop .sub .f32 m1 m1') (fop .sub .f32 m1 m1')) (fop .mul .f32 (fop .sub .f32 m2 m2') (fop .sub .f32 m2 m2'))) (fop .mul .f32 (fop .sub .f32 m3 m3') (fop .sub .f32 m3 m3'))) tw))))) f ∧
      Near (f - (a * a' + b * b' + c * c') * mqf (1 / 16 + (u - u') * (u - u') + (v - v') * (v - v') + (w - w') * (w - w'))) (lam * lam' / 3900) ∧ Near f (41 / 10 * (lam * lam')) ∧ mqf (1 / 16 + (u - u') * (u - u') + (v - v') * (v - v') + (w - w') * (w - w')) ≤ 41 / 10 ∧ 0 ≤ mqf (1 / 16 + (u - u') * (u - u') + (v - v') * (v - v') + (w - w') * (w - w')) := by
  have q2 : (201 / 100 : Rat) ≤ 32 := by decide +kernel
  obtain ⟨x, x1, x2, x3⟩ := diff_val hp.v4 hq.v4 (hp.n4.mono q2) (hq.n4.mono q2)
  obtain ⟨y, y1, y2, y3⟩ := diff_val hp.v5 hq.v5 (hp.n5.mono q2) (hq.n5.mono q2)
  obtain ⟨z, z1, z2, z3⟩ := diff_val hp.v6 hq.v6 (hp.n6.mono q2) (hq.n6.mono q2)
  have sx := sqn (u - u')
  have sy := sqn (v - v')
  have sz := sqn (w - w')
  have bx := (hp.n4.sub hq.n4)
  have by' := (hp.n5.sub hq.n5)
  have bz := (hp.n6.sub hq.n6)
  have qx := bx.mul bx
  have qy := by'.mul by'
  have qz := bz.mul bz
  have k0 : (0 : Rat) ≤ 1 / 16 := by decide +kernel
  have k1 : (1 / 16 : Rat) ≤ 1 := by decide +kernel
  obtain ⟨l, l1, l2, l3⟩ := root_pair x1 y1 z1 x3 y3 z3 x2 y2 z2 ht k0 k1 (by grind)
  generalize hS : 1 / 16 + (u - u') * (u - u') + (v - v') * (v - v') + (w - w') * (w - w') = S at *
  have S0 : 1 / 16 ≤ S := by grind
  have k48 : (1 / 16 : Rat) + 3 * ((201 / 100 + 201 / 100) * (201 / 100 + 201 / 100)) ≤ 49 := by decide +kernel
  have S49 : S ≤ 49 := by
    unfold Near at qx qy qz
    generalize (201 / 100 + 201 / 100 : Rat) * (201 / 100 + 201 / 100) = M at *
    grind
  have lo : 2491 / 10000 ≤ l := by
    refine le_of_sq l2 ?_
    have h1 : (2491 / 10000 : Rat) * (2491 / 10000) ≤ 1 / 16 * (1 - 1 / 400000) := by decide +kernel
    have h2 := Rat.mul_le_mul_of_nonneg_right S0 (show (0 : Rat) ≤ 1 - 1 / 400000 by decide +kernel)
    unfold Near at l3
    grind
  have hi : l ≤ 71 / 10 := by
    refine le_of_sq (by decide +kernel) ?_
    have h1 : (49 : Rat) * (1 + 1 / 400000) ≤ 71 / 10 * (71 / 10) := by decide +kernel
    have h2 := Rat.mul_le_mul_of_nonneg_right S49 (show (0 : Rat) ≤ 1 + 1 / 400000 by decide +kernel)
    unfold Near at l3
    grind
  have l0 : 0 < l := by
    have : (0 : Rat) < 2491 / 10000 := by decide +kernel
    grind
  have S0' : 0 < S := by
    have : (0 : Rat) < 1 / 16 := by decide +kernel
    grind
  have G := mqf_len S0' lo hi l3 (by decide +kernel) (by decide +kernel)
  have hI : 1 / l * l = 1 := Rat.div_mul_cancel (by grind)
  have I4 : 1 / l ≤ 402 / 100 := by
    refine Rat.le_of_mul_le_mul_right (c := l) ?_ l0
    rw [hI]
    have := Rat.mul_le_mul_of_nonneg_left lo (show (0 : Rat) ≤ 402 / 100 by decide +kernel)
    have : (1 : Rat) ≤ 402 / 100 * (2491 / 10000) := by decide +kernel
    grind
  have I0 : 0 ≤ 1 / l := by
    refine Rat.le_of_mul_le_mul_right (c := l) ?_ l0
    rw [hI, Rat.zero_mul]; decide
  have la0 : 0 ≤ lam := by have := hp.l0; have : (0 : Rat) ≤ 1 / 1099511627776 := by decide +kernel
                           grind
  have lb0 : 0 ≤ lam' := by have := hq.l0; have : (0 : Rat) ≤ 1 / 1099511627776 := by decide +kernel
                            grind
  obtain ⟨na, nb, nc⟩ := coord hp.ww la0
  obtain ⟨na', nb', nc'⟩ := coord hq.ww lb0
  have W := cs3 hp.ww hq.ww la0 lb0
  have k16 : (16 : Rat) ≤ 64 := by decide
  obtain ⟨d, d1, d2⟩ := inn_val hp.v1 hp.v2 hp.v3 hq.v1 hq.v2 hq.v3 na nb nc na' nb' nc' (Rat.le_trans hp.l1 k16) (Rat.le_trans hq.l1 k16)
  have LL : lam * lam' ≤ 256 := by
    have h1 := Rat.mul_le_mul_of_nonneg_right hp.l1 lb0
    have h2 := Rat.mul_le_mul_of_nonneg_left hq.l1 (show (0 : Rat) ≤ 16 by decide)
    grind
  have LL0 : 1 / 1099511627776 * (1 / 1099511627776) ≤ lam * lam' := by
    have h1 := Rat.mul_le_mul_of_nonneg_right hp.l0 lb0
    have h2 := Rat.mul_le_mul_of_nonneg_left hq.l0 (show (0 : Rat) ≤ 1 / 1099511627776 by decide +kernel)
    grind
  have I41 : 1 / l ≤ 41 / 10 := Rat.le_trans I4 (by decide +kernel)
  obtain ⟨f, f1, f2⟩ := quo_len d1 l1 l0 hI I41 W d2 LL
  generalize hWe : a * a' + b * b' + c * c' = P at *
  generalize lam * lam' = Y at *
  have Y0 : 0 ≤ Y := W.nonneg
  have tY : 40 * tiny .f32 ≤ 1 * ur .f32 * Y := by
    have h1 := Rat.mul_le_mul_of_nonneg_left LL0 (Rat.le_of_lt (ur_pos .f32))
    have h2 : 40 * tiny .f32 ≤ ur .f32 * (1 / 1099511627776 * (1 / 1099511627776)) := by decide +kernel
    grind
  have f3 : Near (f - P * (1 / l)) (63 * ur .f32 * Y) := f2.mono (by grind)
  have pg := W.mul G
  have m4 : 63 * ur .f32 + 1 / 4000 ≤ 1 / 3900 := by decide +kernel
  have m4 := Rat.mul_le_mul_of_nonneg_right m4 Y0
  have e39 : Y / 3900 = 1 / 3900 * Y := by
    have h : Y / 3900 * 3900 = Y := Rat.div_mul_cancel (by decide)
    have h2 : (1 / 3900 : Rat) * 3900 = 1 := by decide +kernel
    grind
  refine ⟨l, f, l1, l0, f1, ?_, ?_, ?_, ?_⟩
  · have id : f - P * mqf S = (f - P * (1 / l)) - P * (mqf S - 1 / l) := by grind
    rw [id, e39]
    refine (f3.sub pg).mono ?_
    grind
  · have pi := W.mul (show Near (1 / l) (402 / 100) by unfold Near; constructor <;> grind)
    have := f3.add pi
    rw [show f - P * (1 / l) + P * (1 / l) = f by grind] at this
    refine this.mono ?_
    have : 63 * ur .f32 + 402 / 100 ≤ 41 / 10 := by decide +kernel
    have := Rat.mul_le_mul_of_nonneg_right this Y0
    grind
  · have : (402 / 100 : Rat) + 1 / 4000 ≤ 41 / 10 := by decide +kernel
    unfold Near at G
    grind
  · have h : 1 / 8 ≤ 1 / l := by
      refine Rat.le_of_mul_le_mul_right (c := l) ?_ l0
      rw [hI]
      have := Rat.mul_le_mul_of_nonneg_left hi (show (0 : Rat) ≤ 1 / 8 by decide +kernel)
      have : (1 / 8 : Rat) * (71 / 10) ≤ 1 := by decide +kernel
      grind
    have : (1 / 4000 : Rat) ≤ 1 / 8 := by decide +kernel
    unfold Near at G
    grind
end Go.Fw

/-
  Sums over all pairs of pieces of two wires: nearly those of the kernel; these are the same both ways and not below nothing.
-/
namespace Go.Fw
def Pcs (p : Nat → Nat → Nat) (n : Nat) (A : Nat → Nat → Rat) (lam : Nat → Rat) : Prop := ∀ j, j < n → Pc1 (p j 0) (p j 1) (p j 2) (p j 3) (p j 4) (p j 5) (A j 0) (A j 1) (A j 2) (A j 3) (A j 4) (A j 5) (lam j)
def sqd (A B : Nat → Nat → Rat) (i j : Nat) : Rat := 1 / 16 + (A i 3 - B j 3) * (A i 3 - B j 3) + (A i 4 - B j 4) * (A i 4 - B j 4) + (A i 5 - B j 5) * (A i 5 - B j 5)
def dotw (A B : Nat → Nat → Rat) (i j : Nat) : Rat := A i 0 * B j 0 + A i 1 * B j 1 + A i 2 * B j 2
def gram (A B : Nat → Nat → Rat) (i j : Nat) : Rat := dotw A B i j * mqf (sqd A B i j)
def gsum (A B : Nat → Nat → Rat) (n m : Nat) : Rat := dsum (gram A B) n m
theorem gram_comm (A B : Nat → Nat → Rat) (i j : Nat) : gram A B i j = gram B A j i := by
  unfold gram
  have e1 : dotw A B i j = dotw B A j i := by unfold dotw; grind
  have e2 : sqd A B i j = sqd B A j i := by unfold sqd; grind
  rw [e1, e2]
theorem gsum_comm (A B : Nat → Nat → Rat) (n m : Nat) : gsum A B n m = gsum B A m n := by
  unfold gsum
  rw [dsum_swap]
  exact dsum_congr fun i j _ _ => gram_comm A B j i
noncomputable def prW (p q : Nat → Nat → Nat) (tw k i : Nat) : Nat := fcvt .f64 .f32 (fsqrt (fcvt .f32 .f64 (fop .add .f32 (fop .add .f32 (fop .add .f32 (fop .mul .f32 (fop .sub .f32 (p k 3) (q i 3)) (fop .sub .f32 (p k 3) (q i 3))) (fop .mul .f32 (fop .sub .f32 (p k 4) (q i 4)) (fop .sub .f32 (p k 4) (q i 4)))) (fop .mul .f32 (fop .sub .f32 (p k 5) (q i 5)) (fop .sub .f32 (p k 5) (q i 5)))) tw)))
noncomputable def ptW (p q : Nat → Nat → Nat) (tw k i : Nat) : Nat := fop .quo .f32 (fop .add .f32 (fop .add .f32 (fop .mul .f32 (p k 0) (q i 0)) (fop .mul .f32 (p k 1) (q i 1))) (fop .mul .f32 (p k 2) (q i 2))) (prW p q tw k i)
theorem Pcs.pos {p : Nat → Nat → Nat} {n : Nat} {A : Nat → Nat → Rat} {lam : Nat → Rat} (h : Pcs p n A lam) {j : Nat} (hj : j < n) : 1 / 1099511627776 ≤ lam j ∧ 0 ≤ lam j := by
  have := (h j hj).l0
  have k : (0 : Rat) ≤ 1 / 1099511627776 := by decide +kernel
  exact ⟨this, Rat.le_trans k this⟩
theorem rsum_ge {f : Nat → Rat} {c : Rat} {n : Nat} (hn : 0 < n) (c0 : 0 ≤ c) (h : ∀ j, j < n → c ≤ f j) : c ≤ rsum f n := by
  obtain ⟨m, rfl⟩ : ∃ m, n = m + 1 := ⟨n - 1, by omega⟩
  have h1 := rsum_nonneg m fun j hj => Rat.le_trans c0 (h j (by omega))
  have h2 := h m (by omega)
  show c ≤ rsum f m + f m
  grind
theorem pairs_sum {p q : Nat → Nat → Nat} {n m tw : Nat} {A B : Nat → Nat → Rat} {la lb : Nat → Rat} {I : Nat → Nat → Nat → Nat} {O : Nat → Nat} (hn : 0 < n) (hm : 0 < m) (hnm : n * m ≤ 324) (hp : Pcs p n A la) (hq : Pcs q m B lb) (ht : Val .f32 tw (1 / 16))
    (h0 : ∀ k s, I k s 0 = s) (hI : ∀ k s i, k < n → i < m → I k s (i + 1) = fop .add .f32 (I k s i) (ptW p q tw k i)) (hO : ∀ k, O (k + 1) = I k (O k) m) (hz : Val .f32 (O 0) 0) (hL : rsum la n * rsum lb m ≤ 1000000) :
    ∃ v, Val .f32 (O n) v ∧ Near (v - gsum A B n m) (1 / 2400 * (rsum la n * rsum lb m)) := by
  have H : ∀ k i, ∃ f : Rat, k < n → i < m → Val .f32 (ptW p q tw k i) f ∧ Near (f - gram A B k i) (la k * lb i / 3900) ∧ Near f (41 / 10 * (la k * lb i)) := fun k i => by
    by_cases h : k < n ∧ i < m
    · obtain ⟨l, f, _, _, f1, f2, f3, _, _⟩ := pair_term (hp k h.1) (hq i h.2) ht
      exact ⟨f, fun _ _ => ⟨f1, f2, f3⟩⟩
    · exact ⟨0, fun h1 h2 => absurd ⟨h1, h2⟩ h⟩
  obtain ⟨f, hf⟩ : ∃ f : Nat → Nat → Rat, ∀ k i, k < n → i < m → Val .f32 (ptW p q tw k i) (f k i) ∧ Near (f k i - gram A B k i) (la k * lb i / 3900) ∧ Near (f k i) (41 / 10 * (la k * lb i)) := ⟨fun k i => (H k i).choose, fun k i => (H k i).choose_spec⟩
  have eT : dsum (fun k i => 41 / 10 * (la k * lb i)) n m = 41 / 10 * (rsum la n * rsum lb m) := by rw [dsum_mul, dsum_prod]
  have l1 := rsum_ge hn (by decide +kernel) fun j hj => (hp.pos hj).1
  have l2 := rsum_ge hm (by decide +kernel) fun j hj => (hq.pos hj).1
  have LL0 : 1 / 1099511627776 * (1 / 1099511627776) ≤ rsum la n * rsum lb m := by
    have h1 := Rat.mul_le_mul_of_nonneg_right l1 (show 0 ≤ rsum lb m from Rat.le_trans (by decide +kernel) l2)
    have h2 := Rat.mul_le_mul_of_nonneg_left l2 (show (0 : Rat) ≤ 1 / 1099511627776 by decide +kernel)
    grind
  obtain ⟨v, v1, v2⟩ := dsum_rel (T := 41 / 10 * (rsum la n * rsum lb m)) hm h0 hI hO hz (fun k i hk hi => (hf k i hk hi).1) (fun k i hk hi => (hf k i hk hi).2.2) (by rw [eT]; exact Rat.le_refl) (Nat.le_trans hnm (by omega)) (by
    have h1 := Rat.mul_le_mul_of_nonneg_left hL (show (0 : Rat) ≤ 41 / 10 by decide +kernel)
    exact Rat.le_trans h1 (by decide +kernel))
  refine ⟨v, v1, ?_⟩
  have d : Near (dsum (fun k i => f k i - gram A B k i) n m) (dsum (fun k i => la k * lb i / 3900) n m) := dsum_nearF fun i j hi hj => (hf i j hi hj).2.1
  have e1 : dsum (fun k i => f k i - gram A B k i) n m = dsum f n m - gsum A B n m := by
    have : dsum f n m = dsum (fun k i => (f k i - gram A B k i) + gram A B k i) n m := dsum_congr fun i j _ _ => by grind
    rw [this, dsum_add]
    unfold gsum
    grind
  have e2 : dsum (fun k i => la k * lb i / 3900) n m = 1 / 3900 * (rsum la n * rsum lb m) := by
    rw [← dsum_prod, ← dsum_mul]
    refine dsum_congr fun i j _ _ => ?_
    have h : la i * lb j / 3900 * 3900 = la i * lb j := Rat.div_mul_cancel (by decide)
    have h2 : (1 / 3900 : Rat) * 3900 = 1 := by decide +kernel
    grind
  rw [e1, e2] at d
  have n324 : ((n * m : Nat) : Rat) ≤ 324 := Rat.natCast_le_natCast.2 hnm
  generalize rsum la n * rsum lb m = Y at *
  have Y0 : 0 ≤ Y := Rat.le_trans (by decide +kernel) LL0
  have e0 := eps_pos (show 0 ≤ 41 / 10 * Y from Rat.mul_nonneg (by decide +kernel) Y0)
  have k1 := Rat.mul_le_mul_of_nonneg_right n324 e0
  have k2 : 324 * eps (41 / 10 * Y) ≤ (1 / 2400 - 1 / 3900) * Y := by
    unfold eps
    have h1 : 324 * (2 * ur .f32 * (41 / 10)) + 1 / 10000000 ≤ 1 / 2400 - 1 / 3900 := by decide +kernel
    have h1 := Rat.mul_le_mul_of_nonneg_right h1 Y0
    have h2 : 324 * (2 * tiny .f32) ≤ 1 / 10000000 * (1 / 1099511627776 * (1 / 1099511627776)) := by decide +kernel
    have h3 := Rat.mul_le_mul_of_nonneg_left LL0 (show (0 : Rat) ≤ 1 / 10000000 by decide +kernel)
    grind
  have := v2.add d
  rw [show v - dsum f n m + (dsum f n m - gsum A B n m) = v - gsum A B n m by grind] at this
  refine this.mono ?_
  have ex : (1 / 2400 - 1 / 3900) * Y = 1 / 2400 * Y - 1 / 3900 * Y := by grind
  grind
theorem rsum_append (f : Nat → Rat) (n : Nat) : ∀ m, rsum f (n + m) = rsum f n + rsum (fun j => f (n + j)) m
  | 0 => by show rsum f n = rsum f n + 0; grind
  | m + 1 => by
    show rsum f (n + m) + f (n + m) = rsum f n + (rsum (fun j => f (n + j)) m + f (n + m))
    rw [rsum_append f n m]; grind
theorem dsum_append (f : Nat → Nat → Rat) (n m : Nat) : dsum f (n + m) (n + m) = dsum f n n + dsum (fun i j => f i (n + j)) n m + (dsum (fun i j => f (n + i) j) m n + dsum (fun i j => f (n + i) (n + j)) m m) := by
  have row : ∀ i, rsum (f i) (n + m) = rsum (f i) n + rsum (fun j => f i (n + j)) m := fun i => rsum_append (f i) n m
  unfold dsum
  rw [rsum_append]
  have e1 : rsum (fun i => rsum (f i) (n + m)) n = rsum (fun i => rsum (f i) n) n + rsum (fun i => rsum (fun j => f i (n + j)) m) n := by
    rw [← rsum_add2]; exact rsum_congr _ fun i _ => row i
  have e2 : rsum (fun i => rsum (f (n + i)) (n + m)) m = rsum (fun i => rsum (f (n + i)) n) m + rsum (fun i => rsum (fun j => f (n + i) (n + j)) m) m := by
    rw [← rsum_add2]; exact rsum_congr _ fun i _ => row (n + i)
  rw [e1, e2]
def both2 (n : Nat) (A B : Nat → Nat → Rat) (i : Nat) : Nat → Rat := if i < n then A i else B (i - n)
def wt2 (n : Nat) (s t : Rat) (i : Nat) : Rat := if i < n then s else t
theorem gram_sum (A B : Nat → Nat → Rat) (n m : Nat) (s t : Rat) : 0 ≤ s * s * gsum A A n n + 2 * (s * t) * gsum A B n m + t * t * gsum B B m m := by
  have key := fun c => mqf_sum (fun i => both2 n A B i 3) (fun i => both2 n A B i 4) (fun i => both2 n A B i 5) (fun i => wt2 n s t i * both2 n A B i c) (n + m)
  have k0 := key 0
  have k1 := key 1
  have k2 := key 2
  have e : dsum (fun a b => wt2 n s t a * wt2 n s t b * gram (both2 n A B) (both2 n A B) a b) (n + m) (n + m) = dsum (fun a b => wt2 n s t a * both2 n A B a 0 * (wt2 n s t b * both2 n A B b 0) * mqf (dsq (fun i => both2 n A B i 3) (fun i => both2 n A B i 4) (fun i => both2 n A B i 5) a b)) (n + m) (n + m) + dsum (fun a b => wt2 n s t a * both2 n A B a 1 * (wt2 n s t b * both2 n A B b 1) * mqf (dsq (fun i => both2 n A B i 3) (fun i => both2 n A B i 4) (fun i => both2 n A B i 5) a b)) (n + m) (n + m) + dsum (fun a b => wt2 n s t a * both2 n A B a 2 * (wt2 n s t b * both2 n A B b 2) * mqf (dsq (fun i => both2 n A B i 3) (fun i => both2 n A B i 4) (fun i => both2 n A B i 5) a b)) (n + m) (n + m) := by
    rw [← dsum_add, ← dsum_add]
    refine dsum_congr fun a b _ _ => ?_
    have e2 : dsq (fun i => both2 n A B i 3) (fun i => both2 n A B i 4) (fun i => both2 n A B i 5) a b = sqd (both2 n A B) (both2 n A B) a b := rfl
    unfold gram dotw
    rw [e2]
    grind
  have pos : 0 ≤ dsum (fun a b => wt2 n s t a * wt2 n s t b * gram (both2 n A B) (both2 n A B) a b) (n + m) (n + m) := by
    rw [e]; grind
  rw [dsum_append] at pos
  have b1 : dsum (fun a b => wt2 n s t a * wt2 n s t b * gram (both2 n A B) (both2 n A B) a b) n n = s * s * gsum A A n n := by
    unfold gsum
    rw [← dsum_mul]
    refine dsum_congr fun i j hi hj => ?_
    have u1 : both2 n A B i = A i := if_pos hi
    have u2 : both2 n A B j = A j := if_pos hj
    have w1 : wt2 n s t i = s := if_pos hi
    have w2 : wt2 n s t j = s := if_pos hj
    unfold gram dotw sqd
    rw [u1, u2, w1, w2]
  have b2 : dsum (fun i j => wt2 n s t i * wt2 n s t (n + j) * gram (both2 n A B) (both2 n A B) i (n + j)) n m = s * t * gsum A B n m := by
    unfold gsum
    rw [← dsum_mul]
    refine dsum_congr fun i j hi hj => ?_
    have u1 : both2 n A B i = A i := if_pos hi
    have u2 : both2 n A B (n + j) = B j := by unfold both2; rw [if_neg (by omega), Nat.add_sub_cancel_left]
    have w1 : wt2 n s t i = s := if_pos hi
    have w2 : wt2 n s t (n + j) = t := if_neg (by omega)
    unfold gram dotw sqd
    rw [u1, u2, w1, w2]
  have b3 : dsum (fun i j => wt2 n s t (n + i) * wt2 n s t j * gram (both2 n A B) (both2 n A B) (n + i) j) m n = s * t * gsum A B n m := by
    rw [gsum_comm A B]
    unfold gsum
    rw [← dsum_mul]
    refine dsum_congr fun i j hi hj => ?_
    have u1 : both2 n A B (n + i) = B i := by unfold both2; rw [if_neg (by omega), Nat.add_sub_cancel_left]
    have u2 : both2 n A B j = A j := if_pos hj
    have w1 : wt2 n s t (n + i) = t := if_neg (by omega)
    have w2 : wt2 n s t j = s := if_pos hj
    unfold gram dotw sqd
    rw [u1, u2, w1, w2]
    grind
  have b4 : dsum (fun i j => wt2 n s t (n + i) * wt2 n s t (n + j) * gram (both2 n A B) (both2 n A B) (n + i) (n + j)) m m = t * t * gsum B B m m := by
    unfold gsum
    rw [← dsum_mul]
    refine dsum_congr fun i j hi hj => ?_
    have u1 : both2 n A B (n + i) = B i := by unfold both2; rw [if_neg (by omega), Nat.add_sub_cancel_left]
    have u2 : both2 n A B (n + j) = B j := by unfold both2; rw [if_neg (by omega), Nat.add_sub_cancel_left]
    have w1 : wt2 n s t (n + i) = t := if_neg (by omega)
    have w2 : wt2 n s t (n + j) = t := if_neg (by omega)
    unfold gram dotw sqd
    rw [u1, u2, w1, w2]
  rw [b1, b2, b3, b4] at pos
  have e3 : 2 * (s * t) * gsum A B n m = s * t * gsum A B n m + s * t * gsum A B n m := by grind
  rw [e3]
  grind
end Go.Fw

/-
  Two pieces, one of them gone back: the opposite, nearly.
-/
namespace Go.Fw
theorem two_abs {d δ h : Rat} (hd : Near δ h) : Near (δ * (2 * d + δ)) (h * (4 * (d * d) + 1 / 4) + h * h) := by
  have h0 := hd.nonneg
  have k := sqn (2 * d - 1 / 2)
  have k2 := sqn (2 * d + 1 / 2)
  have c : (1 / 2 : Rat) * (1 / 2) = 1 / 4 := by decide +kernel
  have n : Near (2 * d) (4 * (d * d) + 1 / 4) := by
    have c2 : (1 / 2 : Rat) * 2 = 1 := by decide +kernel
    unfold Near
    constructor <;> grind
  have m := hd.mul n
  have q := hd.mul hd
  have e : δ * (2 * d + δ) = δ * (2 * d) + δ * δ := by grind
  rw [e]
  exact m.add q
theorem sq_shift {a b c a' b' c' h S S' : Rat} (h0 : 0 ≤ h) (h1 : 48 * h ≤ 1) (ha : Near (a' - a) h) (hb : Near (b' - b) h) (hc : Near (c' - c) h) (hS : S = 1 / 16 + a * a + b * b + c * c) (hS' : S' = 1 / 16 + a' * a' + b' * b' + c' * c') : Near (S' - S) (13 * h * S) := by
  have e : S' - S = (a' - a) * (2 * a + (a' - a)) + (b' - b) * (2 * b + (b' - b)) + (c' - c) * (2 * c + (c' - c)) := by rw [hS, hS']; grind
  rw [e]
  refine (((two_abs ha).add (two_abs hb)).add (two_abs hc)).mono ?_
  have s1 := sqn a
  have s2 := sqn b
  have s3 := sqn c
  have hh : h * (48 * h) ≤ h * 1 := Rat.mul_le_mul_of_nonneg_left h1 h0
  have k : (1 / 16 : Rat) * 16 = 1 := by decide +kernel
  have k2 : (1 / 4 : Rat) * 4 = 1 := by decide +kernel
  have p : 0 ≤ h * (a * a + b * b + c * c) := Rat.mul_nonneg h0 (by grind)
  rw [hS]
  generalize (1 / 16 : Rat) = s at *
  generalize (1 / 4 : Rat) = f at *
  have e1 : h * s * 16 = h := by grind
  have e2 : h * f * 4 = h := by grind
  grind
theorem gram_back {A B B' : Nat → Nat → Rat} {i j k : Nat} {lam mu : Rat} {D : Nat → Rat} (hA : A i 0 * A i 0 + A i 1 * A i 1 + A i 2 * A i 2 ≤ lam * lam) (hB : B k 0 * B k 0 + B k 1 * B k 1 + B k 2 * B k 2 ≤ mu * mu) (hD : D 0 * D 0 + D 1 * D 1 + D 2 * D 2 ≤ mu * mu) (l0 : 0 ≤ lam) (m0 : 1 / 1099511627776 ≤ mu)
    (h1 : ∀ c, c < 3 → Near (B k c - D c) (nabs (D c) * (1 / 2097152) + tiny .f32)) (h1' : ∀ c, c < 3 → Near (B' j c - -D c) (nabs (D c) * (1 / 2097152) + tiny .f32)) (h2 : ∀ c, 3 ≤ c → c < 6 → Near (B k c - D c) (1 / 524288)) (h2' : ∀ c, 3 ≤ c → c < 6 → Near (B' j c - D c) (1 / 524288))
    (M1 : mqf (sqd A B' i j) ≤ 41 / 10) (M0 : 0 ≤ mqf (sqd A B' i j)) : Near (gram A B' i j + gram A B i k) (1 / 4000 * (lam * mu)) := by
  have mu0 : 0 ≤ mu := Rat.le_trans (by decide +kernel) m0
  obtain ⟨a0, a1, a2⟩ := coord hA l0
  obtain ⟨d0, d1, d2⟩ := coord hD mu0
  have tm : tiny .f32 ≤ 1 / 4194304 * mu := by
    have h1 := Rat.mul_le_mul_of_nonneg_left m0 (show (0 : Rat) ≤ 1 / 4194304 by decide +kernel)
    have h2 : tiny .f32 ≤ 1 / 4194304 * (1 / 1099511627776) := by decide +kernel
    grind
  have q : (1 / 4194304 : Rat) * 2 = 1 / 2097152 := by decide +kernel
  have q2 : (1 / 2097152 : Rat) * 4 = 1 / 524288 := by decide +kernel
  have near2 : ∀ c, c < 3 → Near (D c) mu → Near (B' j c + B k c) (1 / 524288 * mu) := fun c hc hd => by
    have x := (h1' c hc).add (h1 c hc)
    have e : B' j c - -D c + (B k c - D c) = B' j c + B k c := by grind
    rw [e] at x
    refine x.mono ?_
    have nd := Rat.mul_le_mul_of_nonneg_right (nabs_le_of hd) (show (0 : Rat) ≤ 1 / 2097152 by decide +kernel)
    have pm := Rat.mul_nonneg mu0 (show (0 : Rat) ≤ 1 / 2097152 by decide +kernel)
    rw [← q2]
    clear h1 h1' h2 h2' x e
    generalize nabs (D c) * (1 / 2097152) = X at *
    have e1 : 1 / 4194304 * mu * 2 = mu * (1 / 2097152) := by rw [← q]; grind
    have e2 : 1 / 2097152 * 4 * mu = 4 * (mu * (1 / 2097152)) := by grind
    rw [e2]
    generalize mu * (1 / 2097152) = Y at *
    generalize 1 / 4194304 * mu = Z at *
    grind
  have n0 := near2 0 (by omega) d0
  have n1 := near2 1 (by omega) d1
  have n2 := near2 2 (by omega) d2
  have dsum' : Near (dotw A B' i j + dotw A B i k) (3 * (lam * (1 / 524288 * mu))) := by
    have e : dotw A B' i j + dotw A B i k = A i 0 * (B' j 0 + B k 0) + A i 1 * (B' j 1 + B k 1) + A i 2 * (B' j 2 + B k 2) := by unfold dotw; grind
    rw [e]
    refine (((a0.mul n0).add (a1.mul n1)).add (a2.mul n2)).mono ?_
    grind
  have dk : Near (dotw A B i k) (lam * mu) := cs3 hA hB l0 mu0
  have sh : ∀ c, 3 ≤ c → c < 6 → Near (A i c - B' j c - (A i c - B k c)) (1 / 262144) := fun c hc1 hc2 => by
    have x := (h2 c hc1 hc2).sub (h2' c hc1 hc2)
    have e : B k c - D c - (B' j c - D c) = A i c - B' j c - (A i c - B k c) := by grind
    rw [e] at x
    exact x.mono (by decide +kernel)
  have S := sq_shift (h := 1 / 262144) (S := sqd A B i k) (S' := sqd A B' i j) (by decide +kernel) (by decide +kernel) (sh 3 (by omega) (by omega)) (sh 4 (by omega) (by omega)) (sh 5 (by omega) (by omega)) rfl rfl
  have pos : ∀ (B : Nat → Nat → Rat) (k : Nat), 0 < sqd A B i k := fun B k => by
    unfold sqd
    have := sqn (A i 3 - B k 3)
    have := sqn (A i 4 - B k 4)
    have := sqn (A i 5 - B k 5)
    have : (0 : Rat) < 1 / 16 := by decide +kernel
    grind
  have dm := mqf_near (pos B k) (pos B' j) S (by decide +kernel)
  unfold gram
  generalize mqf (sqd A B' i j) = M' at *
  generalize mqf (sqd A B i k) = M at *
  have id : dotw A B' i j * M' + dotw A B i k * M = (dotw A B' i j + dotw A B i k) * M' - dotw A B i k * (M' - M) := by grind
  rw [id]
  have MN : Near M' (41 / 10) := by
    have : (0 : Rat) ≤ 41 / 10 := by decide +kernel
    unfold Near; constructor <;> grind
  have e0 : (0 : Rat) ≤ 13 * (1 / 262144) := by decide +kernel
  have dm2 : Near (M' - M) (13 * (1 / 262144) * (41 / 10)) := dm.mono (Rat.mul_le_mul_of_nonneg_left M1 e0)
  refine ((dsum'.mul MN).sub (dk.mul dm2)).mono ?_
  have lm := Rat.mul_nonneg l0 mu0
  have k : 3 * (1 / 524288) * (41 / 10) + 13 * (1 / 262144) * (41 / 10) ≤ (1 / 4000 : Rat) := by decide +kernel
  have k := Rat.mul_le_mul_of_nonneg_right k lm
  grind
end Go.Fw
