/-
  How great a float can be.
-/
import Derived.Test.YtcjkbhgiaaiflaaFwB

namespace Go.Fw
open Ieee (Datum Format Toward)

/-- The number m * 2 ^ i is at most 2 ^ E. -/
def Small (E : Int) (m : Nat) (i : Int) : Prop := m = 0 ∨ (i ≤ E ∧ m ≤ 2 ^ (E - i).toNat)

/-- Not an infinity, and of a size of at most 2 ^ E; or no number. -/
def DLe (E : Int) : Datum → Prop
  | .number _ m i => Small E m i
  | .infinity _ => False
  | .nan .. => True
def Le (k : FloatKind) (E : Int) (x : Nat) : Prop := DLe E (k.format.read x)

theorem small_mono {E F : Int} {m : Nat} {i : Int} (h : Small E m i) (hEF : E ≤ F) : Small F m i := by
  rcases h with h | ⟨h1, h2⟩
  · exact .inl h
  · refine .inr ⟨by omega, Nat.le_trans h2 (Nat.pow_le_pow_right (by omega) (by omega))⟩
theorem Le.mono {k : FloatKind} {E F : Int} {x : Nat} (h : Le k E x) (hEF : E ≤ F) : Le k F x := by
  unfold Le at *
  cases hx : k.format.read x with
  | number s m i => rw [hx] at h; exact small_mono h hEF
  | infinity s => rw [hx] at h; exact h
  | nan s t => trivial

theorem log2_lt' {m : Nat} : m < 2 ^ (m.log2 + 1) := Nat.lt_log2_self
theorem le_log2 {m : Nat} (h : m ≠ 0) : 2 ^ m.log2 ≤ m := Nat.log2_self_le h

theorem shl_eq (a b : Nat) : a <<< b = a * 2 ^ b := Nat.shiftLeft_eq a b

/-- What rounding to even gives is at most 2 ^ q, if the number was. -/
theorem cut_le {neg : Bool} {n drop q : Nat} (h : n ≤ 2 ^ (q + drop)) : Toward.even.cut neg n drop ≤ 2 ^ q := by
  unfold Toward.cut
  simp only
  by_cases hd : drop ≤ n.log2 + 2
  · rw [Nat.min_eq_left hd, shl_eq, Nat.one_mul]
    have hp : 0 < 2 ^ drop := Nat.two_pow_pos _
    rw [Nat.pow_add] at h
    rcases Nat.lt_or_ge n (2 ^ q * 2 ^ drop) with h1 | h1
    · have h2 : n / 2 ^ drop < 2 ^ q := (Nat.div_lt_iff_lt_mul hp).2 h1
      have : ∀ b : Bool, b.toNat ≤ 1 := fun b => by cases b <;> decide
      exact Nat.le_trans (Nat.add_le_add_left (this _) _) h2
    · have h2 : n = 2 ^ q * 2 ^ drop := Nat.le_antisymm h h1
      have h3 : n % 2 ^ drop = 0 := by rw [h2]; exact Nat.mul_mod_left _ _
      have h4 : n / 2 ^ drop = 2 ^ q := by rw [h2]; exact Nat.mul_div_cancel _ hp
      rw [h3, h4]
      have h6 : (2 ^ drop == 0) = false := beq_eq_false_iff_ne.2 (by omega)
      simp [h6]
  · rw [Nat.min_eq_right (by omega), shl_eq, Nat.one_mul]
    have h1 : n < 2 ^ (n.log2 + 2) := Nat.lt_of_lt_of_le log2_lt' (Nat.pow_le_pow_right (by omega) (by omega))
    rw [Nat.div_eq_of_lt h1, Nat.mod_eq_of_lt h1]
    have h2 : n < 2 ^ (n.log2 + 1) := log2_lt'
    have h3 : 2 * n < 2 ^ (n.log2 + 2) := by rw [show n.log2 + 2 = (n.log2 + 1) + 1 from rfl, Nat.pow_succ]; omega
    have h4 : ¬ (2 ^ (n.log2 + 2) < 2 * n) := by omega
    have h5 : (2 ^ (n.log2 + 2) == 2 * n) = false := by simp; omega
    simp [h4, h5]

/-- The rung of 2 ^ E. -/
def rungOf (f : Format) (E : Int) : Nat := (E - f.leastPlace - f.fractionBits + 1).toNat * f.binade

theorem nearest_le (f : Format) (neg : Bool) {m : Nat} {i E : Int} (h : Small E m i) (hE : f.leastPlace + f.fractionBits < E) :
    ∃ r, r ≤ rungOf f E ∧ r ≤ f.infRung ∧ f.nearest neg m i = f.word neg r := by
  unfold Format.nearest
  by_cases hm : m = 0
  · rw [if_pos hm]; exact ⟨0, Nat.zero_le _, Nat.zero_le _, rfl⟩
  rw [if_neg hm]
  rcases h with h | ⟨h1, h2⟩
  · exact absurd h hm
  refine ⟨_, ?_, Nat.min_le_right _ _, rfl⟩
  refine Nat.le_trans (Nat.min_le_left _ _) ?_
  -- L: the place of the first digit
  have hL1 := le_log2 hm
  have hL2 := @log2_lt' m
  have hLE : i + m.log2 ≤ E := by
    have h3 : 2 ^ m.log2 ≤ 2 ^ (E - i).toNat := Nat.le_trans hL1 h2
    have := (Nat.pow_le_pow_iff_right (a := 2) (by omega)).1 h3
    omega
  generalize hlast : max (i + m.log2 - f.fractionBits) f.leastPlace = last
  unfold rungOf
  by_cases hlt : i + m.log2 < E
  · have hl : last ≤ E - 1 - f.fractionBits := by omega
    have hk : Toward.even.cut neg (m <<< (i - last).toNat) (last - i).toNat ≤ 2 ^ (f.fractionBits + 1) := by
      refine cut_le ?_
      rw [shl_eq]
      have h5 : m * 2 ^ (i - last).toNat ≤ 2 ^ (m.log2 + 1) * 2 ^ (i - last).toNat := Nat.mul_le_mul_right _ (Nat.le_of_lt hL2)
      refine Nat.le_trans h5 ?_
      rw [← Nat.pow_add]
      exact Nat.pow_le_pow_right (by omega) (by omega)
    have hb : 2 ^ (f.fractionBits + 1) = 2 * f.binade := by unfold Format.binade; rw [Nat.pow_succ, Nat.mul_comm]
    rw [hb] at hk
    have h6 : (last - f.leastPlace).toNat + 2 ≤ (E - f.leastPlace - f.fractionBits + 1).toNat := by omega
    have h7 := Nat.mul_le_mul_right f.binade h6
    rw [Nat.add_mul] at h7
    omega
  · have hEq : i + m.log2 = E := by omega
    have hl : last = E - f.fractionBits := by omega
    have hk : Toward.even.cut neg (m <<< (i - last).toNat) (last - i).toNat ≤ 2 ^ f.fractionBits := by
      refine cut_le ?_
      rw [shl_eq]
      have h5 : m * 2 ^ (i - last).toNat ≤ 2 ^ m.log2 * 2 ^ (i - last).toNat := Nat.mul_le_mul_right _ (by
        rw [show (E - i).toNat = m.log2 by omega] at h2; exact h2)
      refine Nat.le_trans h5 ?_
      rw [← Nat.pow_add]
      exact Nat.pow_le_pow_right (by omega) (by omega)
    have hb : 2 ^ f.fractionBits = f.binade := rfl
    rw [hb] at hk
    have h6 : (last - f.leastPlace).toNat + 1 ≤ (E - f.leastPlace - f.fractionBits + 1).toNat := by omega
    have h7 := Nat.mul_le_mul_right f.binade h6
    rw [Nat.add_mul] at h7
    omega

/-- What a word of a sign and a rung reads as. -/
theorem read_word (f : Format) (neg : Bool) {r : Nat} (h : r < f.signWeight) : f.read (f.word neg r) =
    if r < f.binade then .number neg r f.leastPlace
    else if r < f.infRung then .number neg (f.binade + r % f.binade) (f.leastPlace + (r / f.binade - 1 : Nat))
    else if r = f.infRung then .infinity neg else .nan neg (r - f.infRung) := by
  have hp : 0 < f.signWeight := Nat.two_pow_pos _
  have h1 : (f.word neg r / f.signWeight % 2 == 1) = neg := by
    unfold Format.word
    cases neg
    · simp [Nat.div_eq_of_lt h]
    · simp only [if_true]
      rw [Nat.add_div_left _ hp, Nat.div_eq_of_lt h]
      rfl
  have h2 : f.word neg r % f.signWeight = r := by
    unfold Format.word
    cases neg
    · simp [Nat.mod_eq_of_lt h]
    · simp only [if_true]
      rw [Nat.add_mod_left, Nat.mod_eq_of_lt h]
  unfold Format.read
  simp only [h1, h2]

theorem infRung_lt' (f : Format) : f.infRung < f.signWeight := f.infRung_lt

/-- A number written is of its size. -/
theorem le_write {k : FloatKind} {E : Int} {s : Bool} {m : Nat} {i : Int} (h : Small E m i) (hE : k.format.leastPlace + k.format.fractionBits < E) (hI : rungOf k.format E < k.format.infRung) : Le k E (k.format.write (.number s m i)) := by
    unfold Le
    generalize k.format = f at *
    show DLe E (f.read (f.nearest s m i))
    obtain ⟨r, h1, h2, h3⟩ := nearest_le f s h hE
    have hlt := f.infRung_lt
    rw [h3, read_word f s (by omega)]
    have hbp : 0 < f.binade := Nat.two_pow_pos _
    have hb2 : f.binade = 2 ^ f.fractionBits := rfl
    by_cases hr : r < f.binade
    · rw [if_pos hr]
      right
      refine ⟨by omega, ?_⟩
      refine Nat.le_trans (Nat.le_of_lt hr) ?_
      rw [hb2]
      exact Nat.pow_le_pow_right (by omega) (by omega)
    · rw [if_neg hr, if_pos (by omega)]
      have hq1 : 1 ≤ r / f.binade := (Nat.le_div_iff_mul_le hbp).2 (by omega)
      have hdm := Nat.div_add_mod r f.binade
      have hmod : r % f.binade < f.binade := Nat.mod_lt _ hbp
      unfold rungOf at h1
      have hq2 : r / f.binade ≤ (E - f.leastPlace - f.fractionBits + 1).toNat := by
        refine Nat.le_of_lt_succ ((Nat.div_lt_iff_lt_mul hbp).2 ?_)
        rw [Nat.succ_mul]
        omega
      right
      rcases Nat.lt_or_ge (r / f.binade) (E - f.leastPlace - f.fractionBits + 1).toNat with hlt2 | hge
      · refine ⟨by omega, ?_⟩
        have h4 : f.binade + r % f.binade ≤ 2 ^ (f.fractionBits + 1) := by rw [Nat.pow_succ, ← hb2]; omega
        exact Nat.le_trans h4 (Nat.pow_le_pow_right (by omega) (by omega))
      · have hqe : r / f.binade = (E - f.leastPlace - f.fractionBits + 1).toNat := by omega
        rw [hqe, Nat.mul_comm] at hdm
        have hm0 : r % f.binade = 0 := by omega
        have hqi : ((E - f.leastPlace - f.fractionBits + 1).toNat : Int) = E - f.leastPlace - f.fractionBits + 1 := Int.toNat_of_nonneg (by omega)
        rw [hqe]
        refine ⟨by omega, ?_⟩
        rw [hm0, Nat.add_zero, hb2]
        exact Nat.pow_le_pow_right (by omega) (by omega)

theorem Le.notInf {k : FloatKind} {E : Int} {x : Nat} (h : Le k E x) : (k.decode x).isInfinity = false := by
  unfold Le at h
  show (k.format.read x).isInfinity = false
  cases hx : k.format.read x <;> rw [hx] at h
  · rfl
  · exact h.elim
  · rfl

theorem le_qnan (k : FloatKind) (E : Int) : Le k E (qnan k) := by
  have h := isNaN_qnan k
  unfold isNaN at h
  have h' : (k.format.read (qnan k)).isNaN = true := h
  unfold Le
  cases hx : k.format.read (qnan k) <;> rw [hx] at h' <;> simp [Datum.isNaN] at h'
  trivial

/-- A number that is read. -/
theorem read_number {f : Format} {x m : Nat} {s : Bool} {i : Int} (h : f.read x = .number s m i) : m < 2 ^ (f.fractionBits + 1) ∧ ((i = f.leastPlace ∧ m < 2 ^ f.fractionBits) ∨ (2 ^ f.fractionBits ≤ m ∧ f.leastPlace ≤ i)) ∧ i ≤ f.leastPlace + ((f.infRung / f.binade : Nat) : Int) := by
  have hbp : 0 < f.binade := Nat.two_pow_pos _
  have hb2 : f.binade = 2 ^ f.fractionBits := rfl
  unfold Format.read at h
  simp only at h
  split at h
  · rename_i hr
    injection h with h1 h2 h3
    subst h2 h3
    refine ⟨?_, .inl ⟨rfl, ?_⟩, by have := Int.natCast_nonneg (f.infRung / f.binade); omega⟩
    · rw [Nat.pow_succ, ← hb2]; omega
    · rw [← hb2]; exact hr
  · split at h
    · rename_i hr
      injection h with h1 h2 h3
      subst h2 h3
      have hmod : x % f.signWeight % f.binade < f.binade := Nat.mod_lt _ hbp
      refine ⟨?_, .inr ⟨?_, by omega⟩, ?_⟩
      · rw [Nat.pow_succ, ← hb2]; omega
      · rw [← hb2]; omega
      · have : x % f.signWeight / f.binade ≤ f.infRung / f.binade := Nat.div_le_div_right (by omega)
        have h5 := Int.natCast_nonneg (f.infRung / f.binade)
        have h6 := Int.natCast_nonneg (x % f.signWeight / f.binade)
        generalize f.infRung / f.binade = y at *
        generalize x % f.signWeight / f.binade = z at *
        omega
    · split at h <;> cases h

theorem rootFrom_lt (n : Nat) : ∀ (todo root : Nat), Datum.rootFrom n todo root < root + 2 ^ todo
  | 0, root => by simp [Datum.rootFrom]
  | todo + 1, root => by
    simp only [Datum.rootFrom]
    rw [shl_eq, Nat.one_mul, Nat.pow_succ]
    split
    · have := rootFrom_lt n todo (root + 2 ^ todo)
      omega
    · have := rootFrom_lt n todo root
      omega

theorem log2_shl {m k : Nat} (h : m ≠ 0) : (m <<< k).log2 = m.log2 + k := by
  rw [shl_eq]
  have h1 := le_log2 h
  have h2 := @log2_lt' m
  refine (Nat.log2_eq_iff (by have := Nat.two_pow_pos k; exact Nat.mul_ne_zero h (by omega))).2 ⟨?_, ?_⟩
  · rw [Nat.pow_add]; exact Nat.mul_le_mul_right _ h1
  · rw [show m.log2 + k + 1 = (m.log2 + 1) + k by omega, Nat.pow_add]
    exact Nat.mul_lt_mul_of_pos_right h2 (Nat.two_pow_pos _)

/-- A root of a 64-bit number is at most 2 ^ 66 where the number is at most 2 ^ 130. -/
theorem le_sqrt {x : Nat} (h : Le .f64 130 x) : Le .f64 66 (fsqrt x) := by
  unfold fsqrt
  have e : FloatKind.f64.format.sqrt x = ((FloatKind.f64.format.read x).root (FloatKind.f64.format.fractionBits + 2)).map FloatKind.f64.format.write := rfl
  rw [e]
  have hfb : FloatKind.f64.format.fractionBits = 52 := rfl
  have hlp : FloatKind.f64.format.leastPlace = -1074 := by rfl
  unfold Le at h
  cases hx : FloatKind.f64.format.read x with
  | nan s t => exact le_qnan _ _
  | infinity s => rw [hx] at h; exact h.elim
  | number s m i =>
    rw [hx] at h
    obtain ⟨h1, h2, _⟩ := read_number hx
    rw [hfb] at h1 h2
    rw [hlp] at h2
    have hw : ∀ s m i, Small 66 m i → Le .f64 66 (FloatKind.f64.format.write (.number s m i)) := fun s m i hd => le_write hd (by rw [hfb, hlp]; decide) (by decide +kernel)
    simp only [Datum.root, hfb]
    by_cases hm : m = 0
    · rw [if_pos hm]
      exact hw _ _ _ (.inl hm)
    rw [if_neg hm]
    cases s with
    | true => exact le_qnan _ _
    | false =>
      have hi : i ≤ 78 := by
        rcases h2 with ⟨h2, _⟩ | ⟨h2, _⟩
        · omega
        · rcases h with h | ⟨h3, h4⟩
          · exact absurd h hm
          · have := (Nat.pow_le_pow_iff_right (a := 2) (by omega)).1 (Nat.le_trans h2 h4)
            omega
      have hL : m.log2 ≤ 52 := by
        have := (Nat.log2_lt hm).2 h1
        omega
      have hpar : ∀ z : Int, (z % 2).toNat ≤ 1 := fun z => by omega
      have hp := hpar (i - ((2 * (52 + 2) - m.log2 : Nat) : Int))
      generalize hmore : 2 * (52 + 2) - m.log2 + ((i - ((2 * (52 + 2) - m.log2 : Nat) : Int)) % 2).toNat = more at *
      refine hw _ _ _ ?_
      right
      have hn : (m <<< more).log2 = m.log2 + more := log2_shl hm
      rw [hn]
      have hr := rootFrom_lt (m <<< more) ((m.log2 + more) / 2 + 1) 0
      have hpw : 2 ^ ((m.log2 + more) / 2 + 1) ≤ 2 ^ 55 := Nat.pow_le_pow_right (by omega) (by omega)
      have hb : ∀ b : Bool, b.toNat ≤ 1 := fun b => by cases b <;> decide
      refine ⟨by omega, ?_⟩
      have h56 : 2 ^ 56 ≤ 2 ^ (66 - ((i - more) / 2 - 1)).toNat := Nat.pow_le_pow_right (by omega) (by omega)
      refine Nat.le_trans ?_ h56
      have := hb (Datum.rootFrom (m <<< more) ((m.log2 + more) / 2 + 1) 0 * Datum.rootFrom (m <<< more) ((m.log2 + more) / 2 + 1) 0 != m <<< more)
      omega

/-- Each float of 32 bits but an infinity is at most 2 ^ 130. -/
theorem le_f32 {x : Nat} (h : (FloatKind.f32.decode x).isInfinity = false) : Le .f32 130 x := by
  unfold Le
  have hfb : FloatKind.f32.format.fractionBits = 23 := rfl
  have hlp : FloatKind.f32.format.leastPlace = -149 := by rfl
  cases hx : FloatKind.f32.format.read x with
  | nan s t => trivial
  | infinity s =>
    have h' : (FloatKind.f32.format.read x).isInfinity = false := h
    rw [hx] at h'
    cases h'
  | number s m i =>
    obtain ⟨h1, _, h3⟩ := read_number hx
    rw [hfb] at h1
    rw [hlp, show FloatKind.f32.format.infRung / FloatKind.f32.format.binade = 255 by decide +kernel] at h3
    right
    refine ⟨by omega, ?_⟩
    exact Nat.le_trans (Nat.le_of_lt h1) (Nat.pow_le_pow_right (by omega) (by omega))

theorem cvt_up {E : Int} {x : Nat} (h : Le .f32 E x) (h1 : -1022 < E) (h2 : E < 1024) : Le .f64 E (fcvt .f32 .f64 x) := by
  unfold fcvt
  unfold Le at h
  have e : FloatKind.f32.decode x = FloatKind.f32.format.read x := rfl
  rw [e]
  cases hx : FloatKind.f32.format.read x with
  | nan s t => exact le_qnan _ _
  | infinity s => rw [hx] at h; exact h.elim
  | number s m i =>
    rw [hx] at h
    refine le_write h ?_ ?_
    · show (-1022 : Int) < E
      exact h1
    · show (E - (-1074) - ((52 : Nat) : Int) + 1).toNat * 2 ^ 52 < 2047 * 2 ^ 52
      exact Nat.mul_lt_mul_of_pos_right (by omega) (Nat.two_pow_pos _)

theorem cvt_down {E : Int} {x : Nat} (h : Le .f64 E x) (h1 : -126 < E) (h2 : E < 128) : fcvtOk .f64 .f32 x = true := by
  unfold fcvtOk
  unfold Le at h
  have e : FloatKind.f64.decode x = FloatKind.f64.format.read x := rfl
  rw [e]
  cases hx : FloatKind.f64.format.read x with
  | nan s t => rfl
  | infinity s => rfl
  | number s m i =>
    rw [hx] at h
    show (!(FloatKind.f32.decode (FloatKind.f32.format.write (.number s m i))).isInfinity) = true
    rw [(le_write (k := .f32) (s := s) h (by show (-126 : Int) < E; exact h1) (by
      show (E - (-149) - ((23 : Nat) : Int) + 1).toNat * 2 ^ 23 < 255 * 2 ^ 23
      exact Nat.mul_lt_mul_of_pos_right (by omega) (Nat.two_pow_pos _))).notInf]
    rfl

/-- The root of a 32-bit number, taken in 64 bits, is not too great for 32 bits. -/
theorem sqrt_ok (x : Nat) : fcvtOk .f64 .f32 (fsqrt (fcvt .f32 .f64 x)) = true := by
  cases hx : (FloatKind.f32.decode x).isInfinity
  · exact cvt_down ((le_sqrt (cvt_up (le_f32 hx) (by decide) (by decide))).mono (F := 66) (by decide)) (by decide) (by decide)
  · have hd : ∃ s, FloatKind.f32.decode x = .infinity s := by
      cases h : FloatKind.f32.decode x <;> rw [h] at hx <;> first | (cases hx; done) | exact ⟨_, rfl⟩
    obtain ⟨s, hs⟩ := hd
    have e : fcvt .f32 .f64 x = FloatKind.f64.encode (.infinity s) := by unfold fcvt; rw [hs]
    rw [e]
    have h1 : fcvtOk .f64 .f32 (fsqrt (FloatKind.f64.encode (.infinity true))) = true := by kernel_rfl
    have h2 : fcvtOk .f64 .f32 (fsqrt (FloatKind.f64.encode (.infinity false))) = true := by kernel_rfl
    cases s
    · exact h2
    · exact h1
end Go.Fw

/-
  Floats that are equal and of one sign have the same bits.
-/
namespace Go.Fw
open Ieee (Datum Format Toward)

theorem int_compare {a b : Int} (h : compare a b = .eq) : a = b := by
  have e : compare a b = if a < b then .lt else if a = b then .eq else .gt := rfl
  rw [e] at h
  split at h
  · cases h
  · split at h
    · assumption
    · cases h

theorem order_same {f : Format} {x y : Nat} (h : (f.read x).order (f.read y) = some .eq) (hs : (f.read x).neg = (f.read y).neg) : f.read x = f.read y := by
  cases hx : f.read x with
  | nan s t => rw [hx] at h; simp [Datum.order] at h
  | infinity s =>
    cases hy : f.read y with
    | nan t u => rw [hx, hy] at h; simp [Datum.order] at h
    | infinity t => rw [hx, hy] at hs; simp only [Datum.neg] at hs; rw [hs]
    | number t n j => rw [hx, hy] at h; simp only [Datum.order] at h; cases s <;> simp at h
  | number s m i =>
    cases hy : f.read y with
    | nan t u => rw [hx, hy] at h; simp [Datum.order] at h
    | infinity t => rw [hx, hy] at h; simp only [Datum.order] at h; cases t <;> simp at h
    | number t n j =>
      rw [hx, hy] at h hs
      simp only [Datum.neg] at hs
      subst hs
      simp only [Datum.order, Option.some.injEq] at h
      replace h := int_compare h
      obtain ⟨a1, a2, _⟩ := read_number hx
      obtain ⟨b1, b2, _⟩ := read_number hy
      have key : m * 2 ^ (i - min i j).toNat = n * 2 ^ (j - min i j).toNat := by
        simp only [Ieee.signed, shl_eq] at h
        cases s
        · simp only [Bool.false_eq_true, if_false] at h; exact Int.ofNat.inj h
        · simp only [if_true] at h
          exact Int.ofNat.inj (Int.neg_inj.1 h)
      have hij : i = j := by
        rcases Int.lt_trichotomy i j with hlt | he | hgt
        · rw [Int.min_eq_left (by omega), Int.sub_self, show ((0 : Int).toNat) = 0 from rfl, Nat.pow_zero, Nat.mul_one] at key
          rcases b2 with ⟨b2, _⟩ | ⟨b2, _⟩
          · rcases a2 with ⟨a2, _⟩ | ⟨_, a2⟩ <;> omega
          · have : 2 ^ f.fractionBits * 2 ^ 1 ≤ n * 2 ^ (j - i).toNat := Nat.mul_le_mul b2 (Nat.pow_le_pow_right (by omega) (by omega))
            rw [← Nat.pow_add] at this
            omega
        · exact he
        · rw [Int.min_eq_right (by omega), Int.sub_self, show ((0 : Int).toNat) = 0 from rfl, Nat.pow_zero, Nat.mul_one] at key
          rcases a2 with ⟨a2, _⟩ | ⟨a2, _⟩
          · rcases b2 with ⟨b2, _⟩ | ⟨_, b2⟩ <;> omega
          · have : 2 ^ f.fractionBits * 2 ^ 1 ≤ m * 2 ^ (i - j).toNat := Nat.mul_le_mul a2 (Nat.pow_le_pow_right (by omega) (by omega))
            rw [← Nat.pow_add] at this
            omega
      subst hij
      simp at key
      rw [key]

theorem read_inj {f : Format} {x y : Nat} (hx : x < 2 * f.signWeight) (hy : y < 2 * f.signWeight) (hn : (f.read x).isNaN = false) (h : f.read x = f.read y) : x = y := by
  have hp : 0 < f.signWeight := Nat.two_pow_pos _
  have hb : 0 < f.binade := Nat.two_pow_pos _
  have hx1 : x / f.signWeight < 2 := (Nat.div_lt_iff_lt_mul hp).2 hx
  have hy1 : y / f.signWeight < 2 := (Nat.div_lt_iff_lt_mul hp).2 hy
  have hxd := Nat.div_add_mod x f.signWeight
  have hyd := Nat.div_add_mod y f.signWeight
  have hrx := Nat.div_add_mod (x % f.signWeight) f.binade
  have hry := Nat.div_add_mod (y % f.signWeight) f.binade
  have hmx := Nat.mod_lt (x % f.signWeight) hb
  have hmy := Nat.mod_lt (y % f.signWeight) hb
  -- the sign and the rung
  have key : ((x / f.signWeight % 2 == 1) = (y / f.signWeight % 2 == 1)) ∧ x % f.signWeight = y % f.signWeight := by
    unfold Format.read at h hn
    simp only at h hn
    by_cases hx2 : x % f.signWeight < f.binade
    · rw [if_pos hx2] at h
      by_cases hy2 : y % f.signWeight < f.binade
      · rw [if_pos hy2] at h
        injection h with h1 h2 h3
        exact ⟨h1, h2⟩
      · rw [if_neg hy2] at h
        split at h
        · injection h with h1 h2 h3; omega
        · split at h <;> cases h
    · rw [if_neg hx2] at h hn
      by_cases hx3 : x % f.signWeight < f.infRung
      · rw [if_pos hx3] at h
        by_cases hy2 : y % f.signWeight < f.binade
        · rw [if_pos hy2] at h; injection h with h1 h2 h3; omega
        · rw [if_neg hy2] at h
          split at h
          · injection h with h1 h2 h3
            refine ⟨h1, ?_⟩
            have q1 : 1 ≤ x % f.signWeight / f.binade := (Nat.le_div_iff_mul_le hb).2 (by omega)
            have q2 : 1 ≤ y % f.signWeight / f.binade := (Nat.le_div_iff_mul_le hb).2 (by omega)
            have q3 : x % f.signWeight / f.binade = y % f.signWeight / f.binade := by omega
            rw [q3] at hrx
            omega
          · split at h <;> cases h
      · rw [if_neg hx3] at h hn
        by_cases hx4 : x % f.signWeight = f.infRung
        · rw [if_pos hx4] at h
          split at h
          · cases h
          · split at h
            · cases h
            · split at h
              · rename_i hy4
                injection h with h1
                exact ⟨h1, by omega⟩
              · cases h
        · rw [if_neg hx4] at hn
          simp [Datum.isNaN] at hn
  have hq : x / f.signWeight = y / f.signWeight := by
    have := key.1
    generalize x / f.signWeight = a at *
    generalize y / f.signWeight = b at *
    have ha : a = 0 ∨ a = 1 := by omega
    have hb' : b = 0 ∨ b = 1 := by omega
    rcases ha with rfl | rfl <;> rcases hb' with rfl | rfl <;> simp_all
  rw [hq, key.2] at hxd
  omega

/-- The sign of a word. -/
theorem word_neg {f : Format} {neg : Bool} {r : Nat} (hr : r < f.signWeight) : (decide (f.signWeight ≤ f.word neg r)) = neg := by
  unfold Format.word
  cases neg
  · simp; omega
  · simp

theorem fcvt_sign {x : Nat} (h : isNaN .f32 x = false) : ∃ r, r < 9223372036854775808 ∧ fcvt .f32 .f64 x = FloatKind.f64.format.word (FloatKind.f32.format.read x).neg r := by
  have h' : (FloatKind.f32.format.read x).isNaN = false := h
  unfold fcvt
  have e : FloatKind.f32.decode x = FloatKind.f32.format.read x := rfl
  rw [e]
  have hi : FloatKind.f64.format.infRung < 9223372036854775808 := by decide +kernel
  cases hx : FloatKind.f32.format.read x with
  | nan s t => rw [hx] at h'; cases h'
  | infinity s => exact ⟨_, hi, rfl⟩
  | number s m i =>
    show ∃ r, r < 9223372036854775808 ∧ FloatKind.f64.format.nearest s m i = FloatKind.f64.format.word s r
    unfold Format.nearest
    split
    · exact ⟨0, by omega, rfl⟩
    · exact ⟨_, Nat.lt_of_le_of_lt (Nat.min_le_right _ _) hi, rfl⟩

theorem signbit {x : Nat} (h : isNaN .f32 x = false) : decide (IntKind.i64.wrap (Int.ofNat (fcvt .f32 .f64 x)) < 0) = (FloatKind.f32.format.read x).neg := by
  obtain ⟨r, hr, e⟩ := fcvt_sign h
  rw [e]
  have hw : FloatKind.f64.format.word (FloatKind.f32.format.read x).neg r = if (FloatKind.f32.format.read x).neg then 9223372036854775808 + r else r := rfl
  rw [hw]
  cases (FloatKind.f32.format.read x).neg
  · simp [IntKind.wrap, IntKind.bits, IntKind.signed]; omega
  · simp [IntKind.wrap, IntKind.bits, IntKind.signed]; omega

theorem canon_lt {x : Nat} (h : Canon .f32 x) : x < 4294967296 ∧ (isNaN .f32 x = true → x = 2143289344) := by
  obtain ⟨b, h1⟩ := h
  have hb : b < 4294967296 := by
    have := h1.wf
    simpa [Lit.wf] using this
  cases hn : isNaN .f32 x
  · have := h1.eq hn
    exact ⟨by omega, fun h => by cases h⟩
  · have hc := h1.canon
    rw [can_of_nan hn] at hc
    have : x = 2143289344 := hc.symm
    exact ⟨by omega, fun _ => this⟩

theorem notNaN_fcvt {x : Nat} (h : isNaN .f32 x = false) : isNaN .f64 (fcvt .f32 .f64 x) = false := by
  have h' : (FloatKind.f32.format.read x).isNaN = false := h
  have hs : FloatKind.f64.format.infRung < FloatKind.f64.format.signWeight := FloatKind.f64.format.infRung_lt
  unfold fcvt
  have e : FloatKind.f32.decode x = FloatKind.f32.format.read x := rfl
  rw [e]
  have key : ∀ s r, r ≤ FloatKind.f64.format.infRung → isNaN .f64 (FloatKind.f64.format.word s r) = false := by
    intro s r hr
    show (FloatKind.f64.format.read (FloatKind.f64.format.word s r)).isNaN = false
    rw [read_word _ _ (by omega)]
    split
    · rfl
    · split
      · rfl
      · rw [if_pos (by omega)]; rfl
  cases hx : FloatKind.f32.format.read x with
  | nan s t => rw [hx] at h'; cases h'
  | infinity s => exact key _ _ (Nat.le_refl _)
  | number s m i =>
    show isNaN .f64 (FloatKind.f64.format.nearest s m i) = false
    unfold Format.nearest
    split
    · exact key _ _ (Nat.zero_le _)
    · exact key _ _ (Nat.min_le_right _ _)

/-- Equal, and of one sign: the same bits. -/
theorem same_bits {x y : Nat} (hx : Canon .f32 x) (hy : Canon .f32 y) (h : forder .f32 x y = some .eq) (hs : (FloatKind.f32.format.read x).neg = (FloatKind.f32.format.read y).neg) : x = y := by
  have h1 := canon_lt hx
  have h2 := canon_lt hy
  have hn : (FloatKind.f32.format.read x).isNaN = false := by
    cases hn : isNaN .f32 x
    · exact hn
    · rw [forder_none.2 (.inl hn)] at h; cases h
  exact read_inj (f := FloatKind.f32.format) h1.1 h2.1 hn (order_same h hs)
end Go.Fw
