/-
  Rounding a fraction of natural numbers to so many binary digits, ties to even; it depends on the fraction alone,
  and a fraction told by its whole part and a digit for what is left over is rounded alike.
-/
import Ieee.Arith
import Derived.Test.YtoanjoamillpmaaFwC

namespace Go.Fw
theorem log2_lt2 {m : Nat} : m < 2 ^ (m.log2 + 1) := Nat.lt_log2_self
theorem le_log22 {m : Nat} (h : m ≠ 0) : 2 ^ m.log2 ≤ m := Nat.log2_self_le h
theorem log2_of {m L : Nat} (h1 : 2 ^ L ≤ m) (h2 : m < 2 ^ (L + 1)) : m.log2 = L :=
  (Nat.log2_eq_iff (by have := Nat.two_pow_pos L; omega)).2 ⟨h1, h2⟩
def rqS (fb A B : Nat) : Nat := (A / B).log2 - fb
def rqN (A D : Nat) : Nat :=
  bif Nat.blt D (2 * (A % D)) || (Nat.beq D (2 * (A % D)) && Nat.beq (A / D % 2) 1) then A / D + 1 else A / D
def rq (fb A B : Nat) : Nat := rqN A (B * 2 ^ rqS fb A B) * 2 ^ rqS fb A B
theorem div_scale {A B k : Nat} (hk : 0 < k) : (A * k) / (B * k) = A / B := Nat.mul_div_mul_right A B hk
theorem mod_scale {A B k : Nat} : (A * k) % (B * k) = A % B * k := Nat.mul_mod_mul_right k A B
theorem blt_scale {a b k : Nat} (hk : 0 < k) : Nat.blt (a * k) (b * k) = Nat.blt a b := by
  rw [Bool.eq_iff_iff, Nat.blt_eq, Nat.blt_eq]
  exact ⟨fun h => Nat.lt_of_mul_lt_mul_right h, fun h => Nat.mul_lt_mul_of_pos_right h hk⟩
theorem beq_scale {a b k : Nat} (hk : 0 < k) : Nat.beq (a * k) (b * k) = Nat.beq a b := by
  rw [Bool.eq_iff_iff, Nat.beq_eq, Nat.beq_eq]
  exact ⟨fun h => Nat.eq_of_mul_eq_mul_right hk h, fun h => by rw [h]⟩
theorem rqN_scale {A D k : Nat} (hk : 0 < k) : rqN (A * k) (D * k) = rqN A D := by
  unfold rqN
  rw [mod_scale, div_scale hk, show 2 * (A % D * k) = 2 * (A % D) * k by rw [Nat.mul_assoc], blt_scale hk, beq_scale hk]
theorem rq_scale {fb A B k : Nat} (hk : 0 < k) : rq fb (A * k) (B * k) = rq fb A B := by
  unfold rq rqS
  rw [div_scale hk, Nat.mul_right_comm, rqN_scale hk]
theorem rq_congr {fb A B C D : Nat} (hB : 0 < B) (hD : 0 < D) (h : A * D = C * B) : rq fb A B = rq fb C D := by
  rw [← rq_scale (k := D) hD, h, Nat.mul_comm B D, rq_scale hB]
theorem rqN_of {A D q : Nat} (hq : A / D = q) :
    rqN A D = bif decide ((2 * q + 1) * D < 2 * A) || (decide ((2 * q + 1) * D = 2 * A) && Nat.beq (q % 2) 1) then q + 1 else q := by
  have h1 := Nat.div_add_mod A D
  rw [hq] at h1
  have e1 : Nat.blt D (2 * (A % D)) = decide ((2 * q + 1) * D < 2 * A) := by
    rw [Bool.eq_iff_iff, Nat.blt_eq, decide_eq_true_iff]
    rw [Nat.add_mul, Nat.one_mul, Nat.mul_assoc, Nat.mul_comm q D]
    omega
  have e2 : Nat.beq D (2 * (A % D)) = decide ((2 * q + 1) * D = 2 * A) := by
    rw [Bool.eq_iff_iff, Nat.beq_eq, decide_eq_true_iff]
    rw [Nat.add_mul, Nat.one_mul, Nat.mul_assoc, Nat.mul_comm q D]
    omega
  unfold rqN
  rw [e1, e2, hq]
def Stick (N Y X : Nat) : Prop := N * X = Y ∨ (N % 2 = 1 ∧ (N - 1) * X < Y ∧ Y < (N + 1) * X)
theorem stick_div {N Y X t : Nat} (hX : 0 < X) (h : Stick N Y X) : Y / (X * 2 ^ (t + 1)) = N / 2 ^ (t + 1) := by
  have hp : 0 < 2 ^ (t + 1) := Nat.two_pow_pos _
  rcases h with h | ⟨h1, h2, h3⟩
  · rw [← h, Nat.mul_comm N X, Nat.mul_div_mul_left _ _ hX]
  · generalize hq : N / 2 ^ (t + 1) = q
    have a1 : q * 2 ^ (t + 1) ≤ N := by rw [← hq]; exact Nat.div_mul_le_self _ _
    have a2 : N < (q + 1) * 2 ^ (t + 1) := by rw [← hq]; have := Nat.lt_mul_div_succ N hp; rw [Nat.mul_comm]; exact this
    have ev : ∀ z, z * 2 ^ (t + 1) % 2 = 0 := fun z => by rw [Nat.pow_succ, ← Nat.mul_assoc]; exact Nat.mul_mod_left _ _
    have a3 : q * 2 ^ (t + 1) ≤ N - 1 := by have := ev q; omega
    have a4 : N + 1 ≤ (q + 1) * 2 ^ (t + 1) := by omega
    refine Nat.div_eq_of_lt_le ?_ ?_
    · calc q * (X * 2 ^ (t + 1)) = (q * 2 ^ (t + 1)) * X := by rw [Nat.mul_comm X, Nat.mul_assoc]
        _ ≤ (N - 1) * X := Nat.mul_le_mul_right _ a3
        _ ≤ Y := Nat.le_of_lt h2
    · calc Y < (N + 1) * X := h3
        _ ≤ ((q + 1) * 2 ^ (t + 1)) * X := Nat.mul_le_mul_right _ a4
        _ = (q + 1) * (X * 2 ^ (t + 1)) := by rw [Nat.mul_comm X, Nat.mul_assoc]
theorem stick_cmp {N Y X M : Nat} (hX : 0 < X) (h : Stick N Y X) (hM : M % 2 = 0) : (M * X < Y ↔ M < N) ∧ (M * X = Y ↔ M = N) := by
  rcases h with h | ⟨h1, h2, h3⟩
  · rw [← h]
    exact ⟨⟨fun h => Nat.lt_of_mul_lt_mul_right h, fun h => Nat.mul_lt_mul_of_pos_right h hX⟩, ⟨fun h => Nat.eq_of_mul_eq_mul_right hX h, fun h => by rw [h]⟩⟩
  · have up : M < N → M * X < Y := fun hl => Nat.lt_of_le_of_lt (Nat.mul_le_mul_right X (show M ≤ N - 1 by omega)) h2
    have dn : ¬ M < N → Y < M * X := fun hl => Nat.lt_of_lt_of_le h3 (Nat.mul_le_mul_right X (show N + 1 ≤ M by omega))
    refine ⟨⟨fun a => ?_, up⟩, ⟨fun a => ?_, fun a => by omega⟩⟩
    · by_cases hl : M < N
      · exact hl
      · have := dn hl; omega
    · by_cases hl : M < N
      · have := up hl; omega
      · have := dn hl; omega
theorem stick_rqN {N Y X t : Nat} (hX : 0 < X) (h : Stick N Y X) : rqN Y (X * 2 ^ (t + 2)) = rqN N (2 ^ (t + 2)) := by
  have hp : 0 < 2 ^ (t + 2) := Nat.two_pow_pos _
  have hd := stick_div (t := t + 1) hX h
  rw [rqN_of hd, rqN_of rfl]
  generalize N / 2 ^ (t + 1 + 1) = q
  have e : (2 * q + 1) * (X * 2 ^ (t + 2)) = 2 * ((2 * q + 1) * 2 ^ (t + 1) * X) := by
    rw [show (2 : Nat) ^ (t + 2) = 2 ^ (t + 1) * 2 from Nat.pow_succ ..]
    rw [Nat.mul_comm X, Nat.mul_comm (2 ^ (t + 1)) 2, Nat.mul_assoc 2, Nat.mul_left_comm, Nat.mul_assoc]
  have e' : (2 * q + 1) * 2 ^ (t + 2) = 2 * ((2 * q + 1) * 2 ^ (t + 1)) := by
    rw [show (2 : Nat) ^ (t + 2) = 2 ^ (t + 1) * 2 from Nat.pow_succ ..]
    rw [Nat.mul_comm (2 ^ (t + 1)) 2, Nat.mul_left_comm]
  have hM : (2 * q + 1) * 2 ^ (t + 1) % 2 = 0 := by rw [Nat.pow_succ, ← Nat.mul_assoc]; exact Nat.mul_mod_left _ _
  obtain ⟨c1, c2⟩ := stick_cmp hX h hM
  have d1 : decide ((2 * q + 1) * (X * 2 ^ (t + 2)) < 2 * Y) = decide ((2 * q + 1) * 2 ^ (t + 2) < 2 * N) := by
    rw [Bool.eq_iff_iff, decide_eq_true_iff, decide_eq_true_iff, e, e']
    omega
  have d2 : decide ((2 * q + 1) * (X * 2 ^ (t + 2)) = 2 * Y) = decide ((2 * q + 1) * 2 ^ (t + 2) = 2 * N) := by
    rw [Bool.eq_iff_iff, decide_eq_true_iff, decide_eq_true_iff, e, e']
    omega
  rw [d1, d2]
theorem stick_log {N Y X : Nat} (hX : 0 < X) (h : Stick N Y X) (hN : 2 ≤ N) : (Y / X).log2 = N.log2 := by
  rcases h with h | ⟨h1, h2, h3⟩
  · rw [← h, Nat.mul_div_cancel _ hX]
  · have a := le_log22 (m := N) (by omega)
    have b := @log2_lt2 N
    have hL : 1 ≤ N.log2 := by
      rcases Nat.eq_zero_or_pos N.log2 with h0 | h0
      · rw [h0] at b; simp at b; omega
      · exact h0
    obtain ⟨L, hL'⟩ := Nat.exists_eq_succ_of_ne_zero (show N.log2 ≠ 0 by omega)
    rw [hL'] at a b ⊢
    rw [Nat.succ_eq_add_one] at *
    have e1 : 2 ^ (L + 1) % 2 = 0 := by rw [Nat.pow_succ]; exact Nat.mul_mod_left _ _
    have e2 : 2 ^ (L + 1 + 1) % 2 = 0 := by rw [Nat.pow_succ]; exact Nat.mul_mod_left _ _
    refine log2_of ?_ ?_
    · refine (Nat.le_div_iff_mul_le hX).2 (Nat.le_of_lt (Nat.lt_of_le_of_lt (Nat.mul_le_mul_right X (show 2 ^ (L + 1) ≤ N - 1 by omega)) h2))
    · refine (Nat.div_lt_iff_lt_mul hX).2 (Nat.lt_of_lt_of_le h3 (Nat.mul_le_mul_right X (show N + 1 ≤ 2 ^ (L + 1 + 1) by omega)))
theorem stick_down {fb N Y X v : Nat} (hX : 0 < X) (h : Stick N Y X) (hN : 2 ^ (fb + 2) ≤ N) : rq fb Y (X * 2 ^ v) = rq fb N (2 ^ v) := by
  have hN2 : 2 ≤ N := Nat.le_trans (by have := Nat.two_pow_pos fb; rw [Nat.pow_succ, Nat.pow_succ]; omega) hN
  have hlog : fb + 2 ≤ N.log2 := (Nat.le_log2 (by omega)).2 hN
  have hs : rqS fb Y (X * 2 ^ v) = rqS fb N (2 ^ v) := by
    unfold rqS
    rcases Nat.eq_zero_or_pos v with rfl | hv
    · rw [Nat.pow_zero, Nat.mul_one, Nat.div_one, stick_log hX h hN2]
    · obtain ⟨w, rfl⟩ : ∃ w, v = w + 1 := ⟨v - 1, by omega⟩
      rw [stick_div hX h]
  have h2 : 2 ≤ v + rqS fb N (2 ^ v) := by
    unfold rqS
    have : v = 0 ∨ v = 1 ∨ 2 ≤ v := by omega
    rcases this with rfl | rfl | hv
    · rw [Nat.pow_zero, Nat.div_one]; omega
    · have : fb + 1 ≤ (N / 2 ^ 1).log2 := by
        refine (Nat.le_log2 (by rw [Nat.pow_one]; omega)).2 ?_
        rw [Nat.pow_one]
        refine (Nat.le_div_iff_mul_le (by omega)).2 ?_
        rw [← Nat.pow_succ]; exact hN
      omega
    · omega
  obtain ⟨t, ht⟩ : ∃ t, v + rqS fb N (2 ^ v) = t + 2 := ⟨v + rqS fb N (2 ^ v) - 2, by omega⟩
  unfold rq
  rw [hs, Nat.mul_assoc, ← Nat.pow_add, ht, stick_rqN hX h]
theorem log2_mul_pow {a k : Nat} (h : a ≠ 0) : (a * 2 ^ k).log2 = a.log2 + k := by
  have h1 := le_log22 h
  have h2 := @log2_lt2 a
  refine log2_of ?_ ?_
  · rw [Nat.pow_add]; exact Nat.mul_le_mul_right _ h1
  · rw [show a.log2 + k + 1 = a.log2 + 1 + k by omega, Nat.pow_add]; exact Nat.mul_lt_mul_of_pos_right h2 (Nat.two_pow_pos _)
theorem log2_div_up {A B u : Nat} (hB : 0 < B) (h : 1 ≤ A / B) : (A * 2 ^ u / B).log2 = (A / B).log2 + u := by
  have h1 := le_log22 (m := A / B) (by omega)
  have h2 := @log2_lt2 (A / B)
  generalize (A / B).log2 = L at *
  refine log2_of ?_ ?_
  · refine (Nat.le_div_iff_mul_le hB).2 ?_
    have := (Nat.le_div_iff_mul_le hB).1 h1
    rw [Nat.pow_add, Nat.mul_right_comm]
    exact Nat.mul_le_mul_right _ this
  · refine (Nat.div_lt_iff_lt_mul hB).2 ?_
    have := (Nat.div_lt_iff_lt_mul hB).1 h2
    rw [show L + u + 1 = L + 1 + u by omega, Nat.pow_add, Nat.mul_right_comm]
    exact Nat.mul_lt_mul_of_pos_right this (Nat.two_pow_pos _)
theorem rq_up {fb A B u : Nat} (hB : 0 < B) (h : 2 ^ fb ≤ A / B) : rq fb (A * 2 ^ u) B = rq fb A B * 2 ^ u := by
  have h1 : 1 ≤ A / B := Nat.le_trans (Nat.two_pow_pos _) h
  have h2 : fb ≤ (A / B).log2 := (Nat.le_log2 (by omega)).2 h
  have hs : rqS fb (A * 2 ^ u) B = rqS fb A B + u := by
    unfold rqS
    rw [log2_div_up hB h1]
    omega
  unfold rq
  rw [hs, Nat.pow_add, ← Nat.mul_assoc, ← Nat.mul_assoc, rqN_scale (Nat.two_pow_pos _)]
theorem stick_rq {fb N Y X u v : Nat} (hX : 0 < X) (h : Stick N Y X) (hN : 2 ^ (fb + 2) ≤ N) (huv : u = 0 ∨ v = 0) : rq fb (Y * 2 ^ u) (X * 2 ^ v) = rq fb (N * 2 ^ u) (2 ^ v) := by
  rcases huv with rfl | rfl
  · rw [Nat.pow_zero, Nat.mul_one, Nat.mul_one, stick_down hX h hN]
  · have hN2 : 2 ≤ N := Nat.le_trans (by have := Nat.two_pow_pos fb; rw [Nat.pow_succ, Nat.pow_succ]; omega) hN
    have hl := stick_log hX h hN2
    have h1 : 2 ^ fb ≤ N := Nat.le_trans (Nat.pow_le_pow_right (by omega) (by omega)) hN
    have h0 : Y / X ≠ 0 := fun e => by rw [e] at hl; have := (Nat.le_log2 (n := N) (k := 1) (by omega)).2 (by omega); rw [← hl] at this; simp at this
    have h2 : 2 ^ fb ≤ Y / X := (Nat.le_log2 h0).1 (by rw [hl]; exact (Nat.le_log2 (by omega)).2 h1)
    rw [Nat.pow_zero, Nat.mul_one, rq_up hX h2, rq_up (B := 1) (by omega) (by rw [Nat.div_one]; exact h1)]
    have := stick_down (fb := fb) (v := 0) hX h hN
    rw [Nat.pow_zero, Nat.mul_one] at this
    rw [this]
theorem rqN_ge (A D : Nat) : A / D ≤ rqN A D := by
  unfold rqN
  cases Nat.blt D (2 * (A % D)) || (Nat.beq D (2 * (A % D)) && Nat.beq (A / D % 2) 1)
  · exact Nat.le_refl _
  · exact Nat.le_succ _
theorem rqN_le (A D : Nat) : rqN A D ≤ A / D + 1 := by
  unfold rqN
  cases Nat.blt D (2 * (A % D)) || (Nat.beq D (2 * (A % D)) && Nat.beq (A / D % 2) 1)
  · exact Nat.le_succ _
  · exact Nat.le_refl _
theorem rqS_lo {fb A B : Nat} (h : 0 < rqS fb A B) : 2 ^ fb ≤ A / (B * 2 ^ rqS fb A B) := by
  have hL : rqS fb A B = (A / B).log2 - fb := rfl
  generalize rqS fb A B = s at *
  have h0 : A / B ≠ 0 := fun e => by rw [e] at hL; simp at hL; omega
  have h1 := le_log22 h0
  rw [show (A / B).log2 = fb + s by omega, Nat.pow_add] at h1
  rw [← Nat.div_div_eq_div_mul]
  exact (Nat.le_div_iff_mul_le (Nat.two_pow_pos _)).2 h1
theorem rqS_hi {fb A B : Nat} : A / (B * 2 ^ rqS fb A B) < 2 ^ (fb + 1) := by
  have hL : rqS fb A B = (A / B).log2 - fb := rfl
  generalize rqS fb A B = s at *
  rw [← Nat.div_div_eq_div_mul]
  refine (Nat.div_lt_iff_lt_mul (Nat.two_pow_pos _)).2 ?_
  rw [← Nat.pow_add]
  exact Nat.lt_of_lt_of_le log2_lt2 (Nat.pow_le_pow_right (by omega) (by omega))
theorem rq_kept_le {fb A B : Nat} : rqN A (B * 2 ^ rqS fb A B) ≤ 2 ^ (fb + 1) := Nat.le_trans (rqN_le _ _) (rqS_hi (B := B))
theorem rq_kept_ge {fb A B : Nat} (h : 0 < rqS fb A B) : 2 ^ fb ≤ rqN A (B * 2 ^ rqS fb A B) := Nat.le_trans (rqS_lo h) (rqN_ge _ _)
end Go.Fw

/-
  What the model's rounding to a float gives, as a whole number of the format's least units.
-/
namespace Go.Fw
open Ieee (Datum Format Toward signed)
theorem cut_rqN (neg : Bool) (n drop : Nat) : Toward.even.cut neg n drop = rqN n (2 ^ drop) := by
  unfold Toward.cut rqN
  simp only
  have key : ∀ D, n / D + (decide (D < 2 * (n % D)) || D == 2 * (n % D) && n / D % 2 == 1).toNat = bif Nat.blt D (2 * (n % D)) || (Nat.beq D (2 * (n % D)) && Nat.beq (n / D % 2) 1) then n / D + 1 else n / D := fun D => by
    have e1 : Nat.blt D (2 * (n % D)) = decide (D < 2 * (n % D)) := by rw [Bool.eq_iff_iff, Nat.blt_eq, decide_eq_true_iff]
    have e2 : Nat.beq D (2 * (n % D)) = (D == 2 * (n % D)) := by rw [Bool.eq_iff_iff, Nat.beq_eq, beq_iff_eq]
    have e3 : Nat.beq (n / D % 2) 1 = (n / D % 2 == 1) := by rw [Bool.eq_iff_iff, Nat.beq_eq, beq_iff_eq]
    rw [e1, e2, e3]
    cases decide (D < 2 * (n % D)) || D == 2 * (n % D) && n / D % 2 == 1 <;> rfl
  by_cases hd : drop ≤ n.log2 + 2
  · rw [Nat.min_eq_left hd, shl_eq, Nat.one_mul]
    exact key _
  · rw [Nat.min_eq_right (by omega), shl_eq, Nat.one_mul, key]
    have a1 : ∀ d, n.log2 + 2 ≤ d → n < 2 ^ d ∧ 2 * n < 2 ^ d := fun d hd => by
      have h1 : n < 2 ^ (n.log2 + 1) := log2_lt'
      have h2 : 2 ^ (n.log2 + 2) ≤ 2 ^ d := Nat.pow_le_pow_right (by omega) hd
      rw [show n.log2 + 2 = (n.log2 + 1) + 1 from rfl, Nat.pow_succ] at h2
      omega
    have key0 : ∀ D, n < D → 2 * n < D → (bif Nat.blt D (2 * (n % D)) || (Nat.beq D (2 * (n % D)) && Nat.beq (n / D % 2) 1) then n / D + 1 else n / D) = 0 := fun D h1 h2 => by
      rw [Nat.mod_eq_of_lt h1, Nat.div_eq_of_lt h1]
      have e1 : Nat.blt D (2 * n) = false := by rw [Bool.eq_false_iff]; intro h; rw [Nat.blt_eq] at h; omega
      have e2 : Nat.beq D (2 * n) = false := by rw [Bool.eq_false_iff]; intro h; have := Nat.eq_of_beq_eq_true h; omega
      rw [e1, e2]; rfl
    rw [key0 _ (a1 _ (Nat.le_refl _)).1 (a1 _ (Nat.le_refl _)).2, key0 _ (a1 _ (by omega)).1 (a1 _ (by omega)).2]
def lim (f : Format) : Nat := f.binade * 2 ^ (2 ^ f.exponentBits - 2)
theorem near_kept {f : Format} {m : Nat} {i last : Int} (neg : Bool) (hm : m ≠ 0) (hlast : last = max (i + m.log2 - f.fractionBits) f.leastPlace) :
    let A := m * 2 ^ (i - f.leastPlace).toNat
    let B := 2 ^ (f.leastPlace - i).toNat
    (last - f.leastPlace).toNat = rqS f.fractionBits A B ∧ Toward.even.cut neg (m <<< (i - last).toNat) (last - i).toNat = rqN A (B * 2 ^ rqS f.fractionBits A B) := by
  intro A B
  have hs : (last - f.leastPlace).toNat = rqS f.fractionBits A B := by
    show _ = (A / B).log2 - f.fractionBits
    rcases Int.le_total f.leastPlace i with h | h
    · have hB : B = 1 := by show 2 ^ (f.leastPlace - i).toNat = 1; rw [show (f.leastPlace - i).toNat = 0 by omega]
      rw [hB, Nat.div_one, show A = m * 2 ^ (i - f.leastPlace).toNat from rfl, log2_mul_pow hm]
      omega
    · have hA : A = m := by show m * 2 ^ (i - f.leastPlace).toNat = m; rw [show (i - f.leastPlace).toNat = 0 by omega, Nat.pow_zero, Nat.mul_one]
      rw [hA]
      have : (m / B).log2 = m.log2 - (f.leastPlace - i).toNat := by
        show (m / 2 ^ (f.leastPlace - i).toNat).log2 = _
        generalize (f.leastPlace - i).toNat = v
        have h1 := le_log2 hm
        have h2 := @log2_lt' m
        rcases Nat.lt_or_ge m.log2 v with hl | hl
        · rw [Nat.div_eq_of_lt (Nat.lt_of_lt_of_le h2 (Nat.pow_le_pow_right (by omega) hl)), show m.log2 - v = 0 by omega]; rfl
        · refine log2_of ?_ ?_
          · refine (Nat.le_div_iff_mul_le (Nat.two_pow_pos _)).2 ?_
            rw [← Nat.pow_add, show m.log2 - v + v = m.log2 by omega]; exact h1
          · refine (Nat.div_lt_iff_lt_mul (Nat.two_pow_pos _)).2 ?_
            rw [← Nat.pow_add, show m.log2 - v + 1 + v = m.log2 + 1 by omega]; exact h2
      rw [this]
      omega
  refine ⟨hs, ?_⟩
  rw [cut_rqN, ← hs, shl_eq]
  have hl : f.leastPlace ≤ last := by omega
  rcases Int.le_total last i with h | h
  · have e1 : (last - i).toNat = 0 := by omega
    have e2 : B = 1 := by show 2 ^ (f.leastPlace - i).toNat = 1; rw [show (f.leastPlace - i).toNat = 0 by omega]
    rw [e1, e2, Nat.one_mul, Nat.pow_zero, show A = m * 2 ^ (i - f.leastPlace).toNat from rfl, show (i - f.leastPlace).toNat = (i - last).toNat + (last - f.leastPlace).toNat by omega, Nat.pow_add, ← Nat.mul_assoc]
    have := rqN_scale (A := m * 2 ^ (i - last).toNat) (D := 1) (Nat.two_pow_pos (last - f.leastPlace).toNat)
    rw [Nat.one_mul] at this
    rw [this]
  · have e1 : (i - last).toNat = 0 := by omega
    rw [e1, Nat.pow_zero, Nat.mul_one, show A = m * 2 ^ (i - f.leastPlace).toNat from rfl, show B = 2 ^ (f.leastPlace - i).toNat from rfl, ← Nat.pow_add]
    rw [show (f.leastPlace - i).toNat + (last - f.leastPlace).toNat = (last - i).toNat + (i - f.leastPlace).toNat by omega, Nat.pow_add, rqN_scale (Nat.two_pow_pos _)]
theorem near_val {f : Format} {m : Nat} {i : Int} (neg : Bool) {A B : Nat} (hB : 0 < B) (hf : 2 ≤ f.exponentBits) (hv : m * 2 ^ (i - f.leastPlace).toNat * B = A * 2 ^ (f.leastPlace - i).toNat) (hlt : rq f.fractionBits A B < lim f) :
    ∃ m' i', f.read (f.nearest neg m i) = .number neg m' i' ∧ f.leastPlace ≤ i' ∧ m' * 2 ^ (i' - f.leastPlace).toNat = rq f.fractionBits A B := by
  have hbp : 0 < f.binade := Nat.two_pow_pos _
  have hT : 4 ≤ 2 ^ f.exponentBits := Nat.pow_le_pow_right (n := 2) (by omega) hf
  have hsw := f.infRung_lt
  unfold Format.nearest
  by_cases hm : m = 0
  · subst hm
    rw [if_pos rfl, read_word f neg (by have := Nat.two_pow_pos (f.exponentBits + f.fractionBits); exact this), if_pos hbp]
    refine ⟨0, _, rfl, Int.le_refl _, ?_⟩
    have hA : A = 0 := by
      rw [Nat.zero_mul, Nat.zero_mul] at hv
      rcases Nat.mul_eq_zero.1 hv.symm with h | h
      · exact h
      · exact absurd h (by have := Nat.two_pow_pos (f.leastPlace - i).toNat; omega)
    subst hA
    unfold rq rqN
    rw [Nat.zero_mod, Nat.zero_div]
    have : Nat.beq (0 % 2) 1 = false := rfl
    rw [this, Bool.and_false]
    have : ∀ D, Nat.blt D (2 * 0) = false := fun D => by rw [Bool.eq_false_iff]; intro h; rw [Nat.blt_eq] at h; omega
    rw [this]
    simp
  rw [if_neg hm]
  rw [← rq_congr (A := m * 2 ^ (i - f.leastPlace).toNat) (B := 2 ^ (f.leastPlace - i).toNat) (Nat.two_pow_pos _) hB hv] at hlt ⊢
  obtain ⟨h1, h2⟩ := near_kept (f := f) (i := i) neg hm rfl
  generalize hA : m * 2 ^ (i - f.leastPlace).toNat = A' at *
  generalize hB' : 2 ^ (f.leastPlace - i).toNat = B' at *
  dsimp only
  rw [h2, h1]
  have k1 := rq_kept_le (fb := f.fractionBits) (A := A') (B := B')
  have k2 := rq_kept_ge (fb := f.fractionBits) (A := A') (B := B')
  have hb2 : f.binade = 2 ^ f.fractionBits := rfl
  rw [Nat.pow_succ, ← hb2] at k1
  rw [← hb2] at k2
  unfold rq at hlt ⊢
  generalize rqS f.fractionBits A' B' = s at *
  generalize rqN A' (B' * 2 ^ s) = k at *
  have hinf : f.infRung = (2 ^ f.exponentBits - 1) * f.binade := rfl
  unfold lim at hlt
  have low : ∀ t, f.binade * 2 ^ t < f.binade * 2 ^ (2 ^ f.exponentBits - 2) → t + 1 < 2 ^ f.exponentBits - 1 := fun t h => by
    have := Nat.lt_of_mul_lt_mul_left h
    have := (Nat.pow_lt_pow_iff_right (a := 2) (by omega)).1 this
    omega
  by_cases hk : k < f.binade
  · have hs : s = 0 := by
      rcases Nat.eq_zero_or_pos s with h | h
      · exact h
      · have := k2 h; omega
    subst hs
    rw [Nat.zero_mul, Nat.zero_add, Nat.min_eq_left (by rw [hinf]; exact Nat.le_trans (Nat.le_of_lt hk) (Nat.le_mul_of_pos_left _ (by omega)))]
    rw [read_word f neg (by rw [hinf] at hsw; exact Nat.lt_trans (Nat.lt_of_lt_of_le hk (Nat.le_mul_of_pos_left _ (by omega))) hsw), if_pos hk]
    exact ⟨k, _, rfl, Int.le_refl _, by rw [Int.sub_self]; rfl⟩
  · have hkb : f.binade ≤ k := by omega
    by_cases hk2 : k < f.binade * 2
    · have h3 : s + 1 < 2 ^ f.exponentBits - 1 := low s (Nat.lt_of_le_of_lt (Nat.mul_le_mul_right _ hkb) hlt)
      have h4 : s * f.binade + k < f.infRung := by
        rw [hinf]
        have : (s + 2) * f.binade ≤ (2 ^ f.exponentBits - 1) * f.binade := Nat.mul_le_mul_right _ (by omega)
        rw [Nat.add_mul] at this
        omega
      have h5 : s * f.binade + k = (k - f.binade) + (s + 1) * f.binade := by rw [Nat.add_mul]; omega
      have h6 : (s * f.binade + k) / f.binade = s + 1 := by rw [h5, Nat.add_mul_div_right _ _ hbp, Nat.div_eq_of_lt (by omega), Nat.zero_add]
      have h7 : (s * f.binade + k) % f.binade = k - f.binade := by rw [h5, Nat.add_mul_mod_self_right, Nat.mod_eq_of_lt (by omega)]
      rw [Nat.min_eq_left (Nat.le_of_lt h4), read_word f neg (by omega), if_neg (by omega), if_pos h4, h6, h7]
      refine ⟨_, _, rfl, by omega, ?_⟩
      rw [show f.binade + (k - f.binade) = k by omega, show (f.leastPlace + ((s + 1 - 1 : Nat) : Int) - f.leastPlace).toNat = s by omega]
    · have hk3 : k = f.binade * 2 := by omega
      subst hk3
      have h3 : s + 1 + 1 < 2 ^ f.exponentBits - 1 := low (s + 1) (by rw [Nat.pow_succ, Nat.mul_comm (2 ^ s) 2, ← Nat.mul_assoc]; exact hlt)
      have h4 : s * f.binade + f.binade * 2 = (s + 2) * f.binade := by rw [Nat.add_mul]; omega
      have h5 : (s + 2) * f.binade < f.infRung := by rw [hinf]; exact Nat.mul_lt_mul_of_pos_right (by omega) hbp
      rw [h4, Nat.min_eq_left (Nat.le_of_lt h5), read_word f neg (by omega), if_neg (by have : 2 * f.binade ≤ (s + 2) * f.binade := Nat.mul_le_mul_right _ (by omega); omega), if_pos h5, Nat.mul_div_cancel _ hbp, Nat.mul_mod_left]
      refine ⟨_, _, rfl, by omega, ?_⟩
      rw [Nat.add_zero, show (f.leastPlace + ((s + 2 - 1 : Nat) : Int) - f.leastPlace).toNat = s + 1 by omega, Nat.pow_succ, Nat.mul_comm (2 ^ s) 2, Nat.mul_assoc]
end Go.Fw

/-
  Floats that are finite numbers, told as whole numbers of the format's least units; what the operations make of them.
-/
namespace Go.Fw
open Ieee (Datum Format Toward signed)
def Fin (k : FloatKind) (w : Nat) (n : Int) : Prop := ∃ s m i, k.format.read w = .number s m i ∧ k.format.leastPlace ≤ i ∧ n = signed s m (i - k.format.leastPlace).toNat
def sg (s : Bool) (n : Nat) : Int := if s then -(n : Int) else n
theorem signed_sg (s : Bool) (m a : Nat) : signed s m a = sg s (m * 2 ^ a) := by
  unfold signed sg; rw [shl_eq]
theorem sg_zero (s : Bool) : sg s 0 = 0 := by cases s <;> rfl
theorem sg_abs (s : Bool) (n : Nat) : (sg s n).natAbs = n := by
  unfold sg; cases s <;> simp
def fbK : FloatKind → Nat
  | .f32 => 23
  | .f64 => 52
def scK : FloatKind → Nat
  | .f32 => 149
  | .f64 => 1074
def limE : FloatKind → Nat
  | .f32 => 277
  | .f64 => 2098
def limK (k : FloatKind) : Nat := 2 ^ limE k
theorem limK_pow (k : FloatKind) : limK k = 2 ^ limE k := rfl
theorem limK_pos (k : FloatKind) : 0 < limK k := by rw [limK_pow]; exact Nat.two_pow_pos _
theorem fbK_eq (k : FloatKind) : k.format.fractionBits = fbK k := by cases k <;> rfl
theorem scK_eq (k : FloatKind) : k.format.leastPlace = -((scK k : Nat) : Int) := by cases k <;> rfl
theorem limK_eq (k : FloatKind) : lim k.format = limK k := by cases k <;> decide +kernel
theorem eb_le (k : FloatKind) : 2 ≤ k.format.exponentBits := by cases k <;> decide
theorem fin_write {k : FloatKind} {s : Bool} {m : Nat} {i : Int} {A B : Nat} (hB : 0 < B) (hv : m * 2 ^ (i + scK k).toNat * B = A * 2 ^ (-(scK k : Int) - i).toNat) (hlt : rq (fbK k) A B < limK k) :
    Fin k (k.format.write (.number s m i)) (sg s (rq (fbK k) A B)) := by
  rw [← fbK_eq, ← limK_eq] at hlt
  obtain ⟨m', i', h1, h2, h3⟩ := near_val (f := k.format) (m := m) (i := i) s hB (eb_le k) (by
    rw [scK_eq, show i - -((scK k : Nat) : Int) = i + scK k by omega]; exact hv) hlt
  refine ⟨s, m', i', h1, h2, ?_⟩
  rw [signed_sg, h3, fbK_eq]
def rI (k : FloatKind) (z : Int) (D : Nat) : Int := sg (decide (z < 0)) (rq (fbK k) z.natAbs D)
theorem rq_zero (fb B : Nat) : rq fb 0 B = 0 := by
  unfold rq rqN
  rw [Nat.zero_mod, Nat.zero_div]
  have h1 : Nat.beq (0 % 2) 1 = false := rfl
  have h2 : ∀ D, Nat.blt D (2 * 0) = false := fun D => by rw [Bool.eq_false_iff]; intro h; rw [Nat.blt_eq] at h; omega
  rw [h1, Bool.and_false, h2]
  simp
theorem rI_sg (k : FloatKind) (s : Bool) (n D : Nat) : rI k (sg s n) D = sg s (rq (fbK k) n D) := by
  unfold rI
  rw [sg_abs]
  rcases Nat.eq_zero_or_pos n with h | h
  · subst h; rw [rq_zero, sg_zero, sg_zero]
  · have : decide (sg s n < 0) = s := by unfold sg; cases s <;> simp <;> omega
    rw [this]
theorem rI_abs (k : FloatKind) (z : Int) (D : Nat) : (rI k z D).natAbs = rq (fbK k) z.natAbs D := sg_abs _ _
theorem Fin.unique {k : FloatKind} {w : Nat} {a b : Int} (h : Fin k w a) (h' : Fin k w b) : a = b := by
  obtain ⟨s, m, i, h1, _, rfl⟩ := h
  obtain ⟨t, n, j, h2, _, rfl⟩ := h'
  rw [h1] at h2
  injection h2 with e1 e2 e3
  subst e1 e2 e3
  rfl
theorem Fin.notNaN {k : FloatKind} {w : Nat} {a : Int} (h : Fin k w a) : isNaN k w = false := by
  obtain ⟨s, m, i, h1, _, _⟩ := h
  show (k.format.read w).isNaN = false
  rw [h1]; rfl
theorem fop_some {op : BinOp} {k : FloatKind} {x y r : Nat} (h : floatBits op k x y = some r) : fop op k x y = r := by unfold fop; rw [h]
theorem sum_units {k : FloatKind} {s t : Bool} {m n : Nat} {i j : Int} (hi : k.format.leastPlace ≤ i) (hj : k.format.leastPlace ≤ j) :
    (signed s m (i - min i j).toNat + signed t n (j - min i j).toNat) * (2 ^ (min i j - k.format.leastPlace).toNat : Nat) = signed s m (i - k.format.leastPlace).toNat + signed t n (j - k.format.leastPlace).toNat := by
  rw [Int.add_mul]
  have key : ∀ (s : Bool) (m : Nat) (i b : Int), k.format.leastPlace ≤ b → b ≤ i → signed s m (i - b).toNat * (2 ^ (b - k.format.leastPlace).toNat : Nat) = signed s m (i - k.format.leastPlace).toNat := fun s m i b h1 h2 => by
    rw [signed_sg, signed_sg, show (i - k.format.leastPlace).toNat = (i - b).toNat + (b - k.format.leastPlace).toNat by omega, Nat.pow_add, ← Nat.mul_assoc]
    unfold sg
    cases s
    · simp
    · simp [Int.neg_mul]
  rw [key s m i (min i j) (by omega) (by omega), key t n j (min i j) (by omega) (by omega)]
theorem rI_units (k : FloatKind) (z : Int) (p : Nat) {b : Bool} (hb : z = 0 ∨ b = decide (z < 0)) : rI k (z * (2 ^ p : Nat)) 1 = sg b (rq (fbK k) (z.natAbs * 2 ^ p) 1) := by
  rcases hb with hb | hb
  · subst hb
    rw [Int.zero_mul, Int.natAbs_zero, Nat.zero_mul]
    unfold rI
    rw [Int.natAbs_zero, rq_zero, sg_zero, sg_zero]
  · have hz : z * (2 ^ p : Nat) = sg b (z.natAbs * 2 ^ p) := by
      rw [hb]
      unfold sg
      by_cases h : z < 0
      · rw [decide_eq_true h, if_pos rfl, Int.natCast_mul, Int.ofNat_natAbs_of_nonpos (by omega), Int.neg_mul, Int.neg_neg]
      · rw [decide_eq_false h, if_neg (by simp), Int.natCast_mul, Int.natAbs_of_nonneg (by omega)]
    rw [hz, rI_sg]
theorem fin_sum {k : FloatKind} {s t : Bool} {m n : Nat} {i j : Int} {b : Bool} (hi : k.format.leastPlace ≤ i) (hj : k.format.leastPlace ≤ j)
    (hb : signed s m (i - min i j).toNat + signed t n (j - min i j).toNat = 0 ∨ b = decide (signed s m (i - min i j).toNat + signed t n (j - min i j).toNat < 0))
    (hlt : (rI k (signed s m (i - k.format.leastPlace).toNat + signed t n (j - k.format.leastPlace).toNat) 1).natAbs < limK k) :
    Fin k (k.format.write (.number b (signed s m (i - min i j).toNat + signed t n (j - min i j).toNat).natAbs (min i j))) (rI k (signed s m (i - k.format.leastPlace).toNat + signed t n (j - k.format.leastPlace).toNat) 1) := by
  have hu := sum_units (s := s) (t := t) (m := m) (n := n) hi hj
  generalize signed s m (i - min i j).toNat + signed t n (j - min i j).toNat = z at *
  rw [← hu] at hlt ⊢
  have hsc := scK_eq k
  have hle : k.format.leastPlace ≤ min i j := by omega
  generalize min i j = c at *
  rw [rI_abs, Int.natAbs_mul, Int.natAbs_natCast] at hlt
  have e1 : (c - k.format.leastPlace).toNat = (c + scK k).toNat := by rw [hsc, Int.sub_neg]
  have e2 : (-(scK k : Int) - c).toNat = 0 := by omega
  have hfw := fin_write (k := k) (s := b) (m := z.natAbs) (i := c) (A := z.natAbs * 2 ^ (c - k.format.leastPlace).toNat) (B := 1) (by omega) (by rw [e1, e2, Nat.pow_zero]) hlt
  have e3 := rI_units k z (c - k.format.leastPlace).toNat hb
  rw [e3]
  exact hfw
theorem Fin.add {k : FloatKind} {x y : Nat} {a b : Int} (hx : Fin k x a) (hy : Fin k y b) (hlt : (rI k (a + b) 1).natAbs < limK k) : Fin k (fop .add k x y) (rI k (a + b) 1) := by
  obtain ⟨s, m, i, h1, h2, rfl⟩ := hx
  obtain ⟨t, n, j, h3, h4, rfl⟩ := hy
  have e : floatBits .add k x y = some (k.format.write (.number (if signed s m (i - min i j).toNat + signed t n (j - min i j).toNat = 0 then s && t else decide (signed s m (i - min i j).toNat + signed t n (j - min i j).toNat < 0)) (signed s m (i - min i j).toNat + signed t n (j - min i j).toNat).natAbs (min i j))) := by
    show ((k.format.read x).sum (k.format.read y)).map k.format.write = _
    rw [h1, h3]; rfl
  rw [fop_some e]
  refine fin_sum h2 h4 ?_ hlt
  by_cases h : signed s m (i - min i j).toNat + signed t n (j - min i j).toNat = 0
  · exact .inl h
  · right; rw [if_neg h]
theorem signed_not (s : Bool) (m a : Nat) : signed (!s) m a = -signed s m a := by
  unfold signed; cases s <;> simp
theorem Fin.sub {k : FloatKind} {x y : Nat} {a b : Int} (hx : Fin k x a) (hy : Fin k y b) (hlt : (rI k (a - b) 1).natAbs < limK k) : Fin k (fop .sub k x y) (rI k (a - b) 1) := by
  obtain ⟨s, m, i, h1, h2, rfl⟩ := hx
  obtain ⟨t, n, j, h3, h4, rfl⟩ := hy
  have e : floatBits .sub k x y = some (k.format.write (.number (if signed s m (i - min i j).toNat + signed (!t) n (j - min i j).toNat = 0 then s && !t else decide (signed s m (i - min i j).toNat + signed (!t) n (j - min i j).toNat < 0)) (signed s m (i - min i j).toNat + signed (!t) n (j - min i j).toNat).natAbs (min i j))) := by
    show ((k.format.read x).sum (k.format.read y).opposite).map k.format.write = _
    rw [h1, h3]; rfl
  rw [fop_some e]
  have e3 : signed s m (i - k.format.leastPlace).toNat - signed t n (j - k.format.leastPlace).toNat = signed s m (i - k.format.leastPlace).toNat + signed (!t) n (j - k.format.leastPlace).toNat := by rw [signed_not]; omega
  rw [e3] at hlt ⊢
  refine fin_sum h2 h4 ?_ hlt
  by_cases h : signed s m (i - min i j).toNat + signed (!t) n (j - min i j).toNat = 0
  · exact .inl h
  · right; rw [if_neg h]
theorem sg_mul (s t : Bool) (a b : Nat) : sg s a * sg t b = sg (s ^^ t) (a * b) := by
  unfold sg; cases s <;> cases t <;> simp [Int.neg_mul, Int.mul_neg]
theorem Fin.mul {k : FloatKind} {x y : Nat} {a b : Int} (hx : Fin k x a) (hy : Fin k y b) (hlt : (rI k (a * b) (2 ^ scK k)).natAbs < limK k) : Fin k (fop .mul k x y) (rI k (a * b) (2 ^ scK k)) := by
  obtain ⟨s, m, i, h1, h2, rfl⟩ := hx
  obtain ⟨t, n, j, h3, h4, rfl⟩ := hy
  have e : floatBits .mul k x y = some (k.format.write (.number (s ^^ t) (m * n) (i + j))) := by
    show ((k.format.read x).product (k.format.read y)).map k.format.write = _
    rw [h1, h3]; rfl
  rw [fop_some e]
  rw [signed_sg, signed_sg, sg_mul, rI_sg] at hlt ⊢
  rw [sg_abs] at hlt
  refine fin_write (Nat.two_pow_pos _) ?_ hlt
  rw [scK_eq] at h2 h4 ⊢
  have : ∀ p q : Nat, p + scK k = q + ((i - -((scK k : Nat) : Int)).toNat + (j - -((scK k : Nat) : Int)).toNat) → False ∨ True := fun _ _ _ => .inr trivial
  have e1 : (i + j + (scK k : Int)).toNat + scK k = (i - -((scK k : Nat) : Int)).toNat + (j - -((scK k : Nat) : Int)).toNat + (-(scK k : Int) - (i + j)).toNat := by omega
  have e2 : m * 2 ^ (i - -((scK k : Nat) : Int)).toNat * (n * 2 ^ (j - -((scK k : Nat) : Int)).toNat) = m * n * 2 ^ ((i - -((scK k : Nat) : Int)).toNat + (j - -((scK k : Nat) : Int)).toNat) := by
    rw [Nat.pow_add]; generalize 2 ^ (i - -((scK k : Nat) : Int)).toNat = u; generalize 2 ^ (j - -((scK k : Nat) : Int)).toNat = v
    rw [Nat.mul_assoc, Nat.mul_left_comm u, ← Nat.mul_assoc m n]
  rw [e2, Nat.mul_assoc (m * n), ← Nat.pow_add, e1, Nat.mul_assoc (m * n), ← Nat.pow_add]
theorem quo_stick {m n more : Nat} (hn : 0 < n) : Stick (2 * (m * 2 ^ more / n) + ((m * 2 ^ more) % n != 0).toNat) (2 * (m * 2 ^ more)) n := by
  generalize m * 2 ^ more = d
  have h1 := Nat.div_add_mod d n
  have h2 := Nat.mod_lt d hn
  generalize d / n = q at *
  generalize hr : d % n = r at *
  unfold Stick
  by_cases h : r = 0
  · left
    subst h
    simp
    rw [← h1, Nat.mul_comm n q, Nat.mul_assoc]
    omega
  · right
    have : (r != 0).toNat = 1 := by simp [h]
    rw [this]
    refine ⟨by omega, ?_, ?_⟩
    · rw [Nat.add_sub_cancel, Nat.mul_assoc, Nat.mul_comm q n]; omega
    · have : (2 * q + 1 + 1) * n = 2 * (n * q) + 2 * n := by rw [show 2 * q + 1 + 1 = 2 * q + 2 by omega, Nat.add_mul, Nat.mul_assoc, Nat.mul_comm q n]
      rw [this]; omega
theorem sg_sign (s : Bool) (n : Nat) (h : n ≠ 0) : (sg s n).sign = if s then -1 else 1 := by
  unfold sg
  cases s
  · simp; omega
  · simp [Int.sign_neg]; omega
theorem Fin.quo {k : FloatKind} {x y : Nat} {a b : Int} (hx : Fin k x a) (hy : Fin k y b) (hb : b ≠ 0) (hlt : (rI k (a * b.sign * (2 ^ scK k : Nat)) b.natAbs).natAbs < limK k) : Fin k (fop .quo k x y) (rI k (a * b.sign * (2 ^ scK k : Nat)) b.natAbs) := by
  obtain ⟨s, m, i, h1, h2, rfl⟩ := hx
  obtain ⟨t, n, j, h3, h4, rfl⟩ := hy
  have hn : n ≠ 0 := fun e => hb (by subst e; rw [signed_sg, Nat.zero_mul, sg_zero])
  have hn' : 0 < n := by omega
  generalize hmo : (k.format.fractionBits + 2) + n.log2 - m.log2 = more
  have e : floatBits .quo k x y = some (k.format.write (.number (s ^^ t) (2 * (m <<< more / n) + ((m <<< more) % n != 0).toNat) (i - j - more - 1))) := by
    show ((k.format.read x).quotient (k.format.fractionBits + 2) (k.format.read y)).map k.format.write = _
    rw [h1, h3]
    unfold Datum.quotient
    simp only
    rw [if_neg hn, hmo]
    rfl
  rw [fop_some e]
  rw [signed_sg, signed_sg] at hlt ⊢
  have hnp : n * 2 ^ (j - k.format.leastPlace).toNat ≠ 0 := by have := Nat.mul_pos hn' (Nat.two_pow_pos (j - k.format.leastPlace).toNat); omega
  rw [sg_sign _ _ hnp] at hlt ⊢
  have es : ∀ z : Nat, sg s z * (if t then -1 else 1) * (2 ^ scK k : Nat) = sg (s ^^ t) (z * 2 ^ scK k) := fun z => by
    unfold sg; cases s <;> cases t <;> simp [Int.neg_mul, Int.mul_neg]
  rw [es, rI_sg, sg_abs] at hlt ⊢
  rw [sg_abs] at hlt
  rw [shl_eq]
  rcases Nat.eq_zero_or_pos m with hm | hm
  · subst hm
    rw [Nat.zero_mul, Nat.zero_mul, Nat.zero_mul, Nat.zero_div, Nat.zero_mod, rq_zero]
    rw [Nat.zero_mul, Nat.zero_mul] at hlt
    have := fin_write (k := k) (s := s ^^ t) (m := 0) (i := i - j - more - 1) (A := 0) (B := 1) (by omega) (by simp) (by rw [rq_zero]; rw [rq_zero] at hlt; exact hlt)
    rw [rq_zero] at this
    exact this
  have hst := quo_stick (m := m) (more := more) hn'
  generalize hN : 2 * (m * 2 ^ more / n) + ((m * 2 ^ more) % n != 0).toNat = N at *
  have hNb : 2 ^ (fbK k + 2) ≤ N := by
    have hq : 2 ^ (fbK k + 1) ≤ m * 2 ^ more / n := by
      refine (Nat.le_div_iff_mul_le hn').2 ?_
      have l1 := le_log22 (m := m) (by omega)
      have l2 := @log2_lt2 n
      rw [fbK_eq] at hmo
      calc 2 ^ (fbK k + 1) * n ≤ 2 ^ (fbK k + 1) * 2 ^ (n.log2 + 1) := Nat.mul_le_mul_left _ (Nat.le_of_lt l2)
        _ = 2 ^ (fbK k + 2 + n.log2) := by rw [← Nat.pow_add]; congr 1; omega
        _ ≤ 2 ^ (m.log2 + more) := Nat.pow_le_pow_right (by omega) (by omega)
        _ = 2 ^ m.log2 * 2 ^ more := Nat.pow_add ..
        _ ≤ m * 2 ^ more := Nat.mul_le_mul_right _ l1
    rw [Nat.pow_succ]
    rw [← hN]
    omega
  generalize hu : (i - j - more - 1 + scK k).toNat = u
  generalize hv : (-(scK k : Int) - (i - j - more - 1)).toNat = v
  have huv : u = 0 ∨ v = 0 := by omega
  have key := stick_rq (u := u) (v := v) hn' hst hNb huv
  have rat : rq (fbK k) (2 * (m * 2 ^ more) * 2 ^ u) (n * 2 ^ v) = rq (fbK k) (m * 2 ^ (i - k.format.leastPlace).toNat * 2 ^ scK k) (n * 2 ^ (j - k.format.leastPlace).toNat) := by
    refine rq_congr (Nat.mul_pos hn' (Nat.two_pow_pos _)) (Nat.mul_pos hn' (Nat.two_pow_pos _)) ?_
    rw [scK_eq] at h2 h4 ⊢
    have e5 : 1 + more + u + (j - -((scK k : Nat) : Int)).toNat = (i - -((scK k : Nat) : Int)).toNat + scK k + v := by omega
    have e6 : 2 * (m * 2 ^ more) * 2 ^ u * (n * 2 ^ (j - -((scK k : Nat) : Int)).toNat) = m * n * 2 ^ (1 + more + u + (j - -((scK k : Nat) : Int)).toNat) := by
      rw [Nat.pow_add, Nat.pow_add, Nat.pow_add, Nat.pow_one]
      generalize 2 ^ more = p1; generalize 2 ^ u = p2; generalize 2 ^ (j - -((scK k : Nat) : Int)).toNat = p3
      simp only [Nat.mul_assoc, Nat.mul_left_comm, Nat.mul_comm]
    have e7 : m * 2 ^ (i - -((scK k : Nat) : Int)).toNat * 2 ^ scK k * (n * 2 ^ v) = m * n * 2 ^ ((i - -((scK k : Nat) : Int)).toNat + scK k + v) := by
      rw [Nat.pow_add, Nat.pow_add]
      generalize 2 ^ (i - -((scK k : Nat) : Int)).toNat = p1; generalize 2 ^ scK k = p2; generalize 2 ^ v = p3
      simp only [Nat.mul_assoc, Nat.mul_left_comm, Nat.mul_comm]
    rw [e6, e7, e5]
  rw [rat] at key
  rw [key] at hlt ⊢
  refine fin_write (Nat.two_pow_pos _) ?_ hlt
  rw [hu, hv]
theorem read_neg {k : FloatKind} {x m : Nat} {s : Bool} {i : Int} (h : k.format.read x = .number s m i) : k.format.read (Op.negFloat k x) = .number (!s) m i := by
  have e1 := negFloat_mod k x
  have e2 : (Op.negFloat k x / k.format.signWeight % 2 == 1) = !(x / k.format.signWeight % 2 == 1) := by
    have t1 : ∀ y : Nat, (y / k.format.signWeight % 2 == 1) = y.testBit (k.format.exponentBits + k.format.fractionBits) := fun y => by
      rw [Nat.testBit_eq_decide_div_mod_eq]
      rfl
    rw [t1, t1]
    unfold Op.negFloat
    rw [Nat.testBit_xor, Nat.testBit_two_pow_self, Bool.xor_true]
  unfold Format.read at h ⊢
  simp only [e1, e2] at h ⊢
  split at h
  · rename_i hr
    rw [if_pos hr]; injection h with a b c; subst a b c; rfl
  · rename_i hr
    rw [if_neg hr]
    split at h
    · rename_i hr2
      rw [if_pos hr2]; injection h with a b c; subst a b c; rfl
    · split at h <;> cases h
theorem Fin.neg {k : FloatKind} {x : Nat} {a : Int} (hx : Fin k x a) : Fin k (fneg k x) (-a) := by
  have hn := hx.notNaN
  obtain ⟨s, m, i, h1, h2, rfl⟩ := hx
  unfold fneg
  rw [hn]
  refine ⟨!s, m, i, ?_, h2, (signed_not _ _ _).symm⟩
  show k.format.read (Op.negFloat k x) = _
  exact read_neg h1
end Go.Fw

/-
  Conversions, roots, comparisons of floats that are finite numbers.
-/
namespace Go.Fw
open Ieee (Datum Format Toward signed)
theorem rqN_exact {q D : Nat} (hD : 0 < D) : rqN (q * D) D = q := by
  unfold rqN
  rw [Nat.mul_mod_left, Nat.mul_div_cancel _ hD]
  have h2 : Nat.blt D (2 * 0) = false := by rw [Bool.eq_false_iff]; intro h; rw [Nat.blt_eq] at h; omega
  have h3 : Nat.beq D (2 * 0) = false := by rw [Bool.eq_false_iff]; intro h; have := Nat.eq_of_beq_eq_true h; omega
  rw [h2, h3]; rfl
theorem rq_exact {fb m p : Nat} (hm : m < 2 ^ (fb + 1)) : rq fb (m * 2 ^ p) 1 = m * 2 ^ p := by
  rcases Nat.eq_zero_or_pos m with h | h
  · subst h; rw [Nat.zero_mul, rq_zero]
  · have hl : m.log2 < fb + 1 := (Nat.log2_lt (by omega)).2 hm
    unfold rq rqS
    rw [Nat.div_one, log2_mul_pow (by omega), Nat.one_mul]
    generalize hs : m.log2 + p - fb = s
    have : m * 2 ^ p = m * 2 ^ (p - s) * 2 ^ s := by rw [Nat.mul_assoc, ← Nat.pow_add]; congr 2; omega
    rw [this, rqN_exact (Nat.two_pow_pos _)]
theorem Fin.small {k : FloatKind} {w : Nat} {n : Int} (h : Fin k w n) : ∃ m p, n.natAbs = m * 2 ^ p ∧ m < 2 ^ (fbK k + 1) := by
  obtain ⟨s, m, i, h1, h2, rfl⟩ := h
  have := (read_number h1).1
  rw [fbK_eq] at this
  exact ⟨m, _, by rw [signed_sg, sg_abs], this⟩
theorem rI_exact {k : FloatKind} {z : Int} {m p : Nat} (h : z.natAbs = m * 2 ^ p) (hm : m < 2 ^ (fbK k + 1)) : rI k z 1 = z := by
  unfold rI
  rw [h, rq_exact hm, ← h]
  unfold sg
  by_cases hz : z < 0
  · rw [decide_eq_true hz, if_pos rfl]; omega
  · rw [decide_eq_false hz, if_neg (by simp)]; omega
theorem Fin.lt_lim {k : FloatKind} {w : Nat} {n : Int} (h : Fin k w n) : n.natAbs < limK k := by
  obtain ⟨s, m, i, h1, h2, rfl⟩ := h
  rw [signed_sg, sg_abs]
  have hr : k.format.read w = .number s m i := h1
  unfold Format.read at hr
  simp only at hr
  have hbp : 0 < k.format.binade := Nat.two_pow_pos _
  have lim1 : k.format.binade ≤ limK k := by cases k <;> decide +kernel
  split at hr
  · rename_i h5
    injection hr with e1 e2 e3
    subst e2 e3
    rw [Int.sub_self]
    simp only [Int.toNat_zero, Nat.pow_zero, Nat.mul_one]
    omega
  · split at hr
    · rename_i h5 h6
      injection hr with e1 e2 e3
      subst e2 e3
      have hmod : w % k.format.signWeight % k.format.binade < k.format.binade := Nat.mod_lt _ hbp
      have hq : w % k.format.signWeight / k.format.binade < 2 ^ k.format.exponentBits - 1 := (Nat.div_lt_iff_lt_mul hbp).2 h6
      rw [show (k.format.leastPlace + ((w % k.format.signWeight / k.format.binade - 1 : Nat) : Int) - k.format.leastPlace).toNat = w % k.format.signWeight / k.format.binade - 1 by omega]
      generalize w % k.format.signWeight / k.format.binade = q at *
      generalize w % k.format.signWeight % k.format.binade = r at *
      rw [← limK_eq]
      unfold lim
      have hT : 4 ≤ 2 ^ k.format.exponentBits := Nat.pow_le_pow_right (n := 2) (by omega) (eb_le k)
      calc (k.format.binade + r) * 2 ^ (q - 1) < (k.format.binade * 2) * 2 ^ (q - 1) := Nat.mul_lt_mul_of_pos_right (by omega) (Nat.two_pow_pos _)
        _ ≤ k.format.binade * 2 * 2 ^ (2 ^ k.format.exponentBits - 3) := Nat.mul_le_mul_left _ (Nat.pow_le_pow_right (by omega) (by omega))
        _ = k.format.binade * 2 ^ (2 ^ k.format.exponentBits - 2) := by rw [Nat.mul_assoc, ← Nat.pow_succ']; congr 2; omega
    · split at hr <;> cases hr
theorem Fin.widen {x q : Nat} {n : Int} (hq : q = 925) (h : Fin .f32 x n) : Fin .f64 (fcvt .f32 .f64 x) (n * (2 ^ q : Nat)) := by
  have hs := h.small
  have hl := h.lt_lim
  obtain ⟨s, m, i, h1, h2, rfl⟩ := h
  have h1' : FloatKind.f32.decode x = .number s m i := h1
  have e : fcvt .f32 .f64 x = FloatKind.f64.format.write (.number s m i) := by
    unfold fcvt; rw [h1']; rfl
  rw [e]
  have hm := (read_number h1).1
  rw [fbK_eq] at hm
  have h2' : -149 ≤ i := h2
  rw [signed_sg] at hl ⊢
  rw [sg_abs] at hl
  have lp : FloatKind.f32.format.leastPlace = -149 := rfl
  rw [lp] at hl ⊢
  have ev : (m * 2 ^ (i - -149).toNat) * 2 ^ q = m * 2 ^ (i + 1074).toNat := by rw [Nat.mul_assoc, pow_split (show (i - -149).toNat + q = (i + 1074).toNat by omega)]
  have ex : rq (fbK .f64) (m * 2 ^ (i + 1074).toNat) 1 = m * 2 ^ (i + 1074).toNat := rq_exact (Nat.lt_of_lt_of_le hm (by decide))
  have := fin_write (k := .f64) (s := s) (m := m) (i := i) (A := m * 2 ^ (i + 1074).toNat) (B := 1) (by omega) (by
    show m * 2 ^ (i + 1074).toNat * 1 = m * 2 ^ (i + 1074).toNat * 2 ^ (-1074 - i).toNat
    rw [show (-1074 - i).toNat = 0 by omega]) (by
    rw [ex, ← ev]
    rw [limK_pow] at hl ⊢
    calc m * 2 ^ (i - -149).toNat * 2 ^ q < 2 ^ limE .f32 * 2 ^ q := Nat.mul_lt_mul_of_pos_right hl (Nat.two_pow_pos _)
      _ = 2 ^ (limE .f32 + q) := (Nat.pow_add ..).symm
      _ ≤ 2 ^ limE .f64 := Nat.pow_le_pow_right (by omega) (by rw [hq]; decide))
  rw [ex, ← ev] at this
  have e2 : sg s (m * 2 ^ (i - -149).toNat) * (2 ^ q : Nat) = sg s (m * 2 ^ (i - -149).toNat * 2 ^ q) := by
    generalize m * 2 ^ (i - -149).toNat = z
    generalize (2 ^ q : Nat) = p at *
    unfold sg
    cases s
    · simp
    · simp [Int.neg_mul]
  rw [e2]
  exact this
theorem Fin.narrow {x q : Nat} {n : Int} (hq : q = 925) (h : Fin .f64 x n) (hlt : (rI .f32 n (2 ^ q)).natAbs < limK .f32) : Fin .f32 (fcvt .f64 .f32 x) (rI .f32 n (2 ^ q)) ∧ fcvtOk .f64 .f32 x = true := by
  obtain ⟨s, m, i, h1, h2, rfl⟩ := h
  have h1' : FloatKind.f64.decode x = .number s m i := h1
  have e : fcvt .f64 .f32 x = FloatKind.f32.format.write (.number s m i) := by
    unfold fcvt; rw [h1']; rfl
  have h2' : -1074 ≤ i := h2
  have lp : FloatKind.f64.format.leastPlace = -1074 := rfl
  rw [signed_sg, rI_sg] at hlt ⊢
  rw [sg_abs] at hlt
  rw [lp] at hlt ⊢
  have fw := fin_write (k := .f32) (s := s) (m := m) (i := i) (A := m * 2 ^ (i - -1074).toNat) (B := 2 ^ q) (Nat.two_pow_pos _) (by
    show m * 2 ^ (i + 149).toNat * 2 ^ q = m * 2 ^ (i - -1074).toNat * 2 ^ (-149 - i).toNat
    rw [Nat.mul_assoc, Nat.mul_assoc, pow_split (show (i + 149).toNat + q = (i - -1074).toNat + (-149 - i).toNat by omega), pow_split rfl]) hlt
  refine ⟨by rw [e]; exact fw, ?_⟩
  unfold fcvtOk
  rw [h1']
  show (!(FloatKind.f32.format.read (FloatKind.f32.format.write (.number s m i))).isInfinity) = true
  obtain ⟨s', m', i', h5, _⟩ := fw
  rw [h5]; rfl
def scD : Nat := 925
theorem scD_eq : scD = 925 := rfl
theorem compare_scale {a b p : Int} (hp : 0 < p) : compare (a * p) (b * p) = compare a b := by
  show compareOfLessAndEq _ _ = compareOfLessAndEq _ _
  unfold compareOfLessAndEq
  have h1 : a * p < b * p ↔ a < b := Int.mul_lt_mul_right hp
  have h2 : a * p = b * p ↔ a = b := ⟨fun h => Int.eq_of_mul_eq_mul_right (by omega) h, fun h => by rw [h]⟩
  simp only [h1, h2]
theorem Fin.order {k : FloatKind} {x y : Nat} {a b : Int} (hx : Fin k x a) (hy : Fin k y b) : forder k x y = some (compare a b) := by
  obtain ⟨s, m, i, h1, h2, rfl⟩ := hx
  obtain ⟨t, n, j, h3, h4, rfl⟩ := hy
  have hu : ∀ (s : Bool) (m : Nat) (i b : Int), k.format.leastPlace ≤ b → b ≤ i → signed s m (i - b).toNat * (2 ^ (b - k.format.leastPlace).toNat : Nat) = signed s m (i - k.format.leastPlace).toNat := fun s m i b h1 h2 => by
    rw [signed_sg, signed_sg, show (i - k.format.leastPlace).toNat = (i - b).toNat + (b - k.format.leastPlace).toNat by omega, Nat.pow_add, ← Nat.mul_assoc]
    unfold sg
    cases s
    · simp
    · simp [Int.neg_mul]
  show (k.format.read x).order (k.format.read y) = _
  rw [h1, h3]
  show some (compare (signed s m (i - min i j).toNat) (signed t n (j - min i j).toNat)) = _
  rw [← hu s m i (min i j) (by omega) (by omega), ← hu t n j (min i j) (by omega) (by omega), compare_scale (by exact_mod_cast Nat.two_pow_pos _)]
theorem rootFrom_sq (n : Nat) : ∀ (todo root : Nat), root * root ≤ n → n < (root + 2 ^ todo) * (root + 2 ^ todo) →
    Datum.rootFrom n todo root * Datum.rootFrom n todo root ≤ n ∧ n < (Datum.rootFrom n todo root + 1) * (Datum.rootFrom n todo root + 1)
  | 0, root, h1, h2 => ⟨h1, h2⟩
  | todo + 1, root, h1, h2 => by
    simp only [Datum.rootFrom]
    rw [shl_eq, Nat.one_mul]
    split
    · rename_i h
      refine rootFrom_sq n todo _ h ?_
      rw [Nat.add_assoc, ← Nat.two_mul, ← Nat.pow_succ']
      exact h2
    · rename_i h
      exact rootFrom_sq n todo _ h1 (by omega)
theorem rootFrom_ok (n : Nat) : Datum.rootFrom n (n.log2 / 2 + 1) 0 * Datum.rootFrom n (n.log2 / 2 + 1) 0 ≤ n ∧ n < (Datum.rootFrom n (n.log2 / 2 + 1) 0 + 1) * (Datum.rootFrom n (n.log2 / 2 + 1) 0 + 1) := by
  refine rootFrom_sq n _ 0 (by omega) ?_
  rw [Nat.zero_add, ← Nat.pow_add]
  exact Nat.lt_of_lt_of_le (log2_lt2 (m := n)) (Nat.pow_le_pow_right (by omega) (by omega))
theorem root_stick {X S W e : Nat} (hS : S * S ≤ X) (hS' : X < (S + 1) * (S + 1)) (hW : W * W * (2 ^ e * 2 ^ e) ≤ X) (hW' : X < (W + 1) * (W + 1) * (2 ^ e * 2 ^ e)) :
    Stick (2 * W + (W * W * (2 ^ e * 2 ^ e) != X).toNat) (2 * S + (S * S != X).toNat) (2 ^ e) := by
  have hp : 0 < 2 ^ e := Nat.two_pow_pos _
  generalize 2 ^ e = p at *
  have sq : ∀ a b : Nat, a * a < b * b → a < b := fun a b h => by
    rcases Nat.lt_or_ge a b with h1 | h1
    · exact h1
    · exact absurd (Nat.mul_le_mul h1 h1) (by omega)
  have sqe : ∀ a b : Nat, a * a = b * b → a = b := fun a b h => by
    rcases Nat.lt_trichotomy a b with h1 | h1 | h1
    · have := Nat.mul_lt_mul'' h1 h1; omega
    · exact h1
    · have := Nat.mul_lt_mul'' h1 h1; omega
  have re : W * W * (p * p) = (W * p) * (W * p) := by rw [Nat.mul_mul_mul_comm]
  have re' : (W + 1) * (W + 1) * (p * p) = ((W + 1) * p) * ((W + 1) * p) := by rw [Nat.mul_mul_mul_comm]
  rw [re] at hW ⊢
  rw [re'] at hW'
  have h1 : W * p < S + 1 := sq _ _ (by omega)
  have h2 : S < (W + 1) * p := sq _ _ (by omega)
  by_cases hx : W * p * (W * p) = X
  · left
    have : S = W * p := by
      have a : S < W * p + 1 := sq _ _ (by have : (W * p + 1) * (W * p + 1) = W * p * (W * p) + 2 * (W * p) + 1 := by rw [Nat.add_mul, Nat.mul_add]; omega
                                           omega)
      omega
    rw [this, hx]
    simp [Nat.mul_assoc]
  · right
    have e1 : (W * p * (W * p) != X).toNat = 1 := by simp [hx]
    rw [e1]
    refine ⟨by omega, ?_, ?_⟩
    · rw [Nat.add_sub_cancel, Nat.mul_assoc]
      by_cases hs : S * S = X
      · have hne : W * p ≠ S := fun h => hx (by rw [h, hs])
        omega
      · have : (S * S != X).toNat = 1 := by simp [hs]
        omega
    · have e2 : (2 * W + 1 + 1) * p = 2 * ((W + 1) * p) := by rw [← Nat.mul_assoc]; congr 1
      rw [e2]
      have : (S * S != X).toNat ≤ 1 := by cases (S * S != X) <;> decide
      omega
theorem Fin.sqrt {x n S X : Nat} (h : Fin .f64 x (n : Int)) (hX0 : X = n * 2 ^ scK .f64) (hS : S * S ≤ X) (hS' : X < (S + 1) * (S + 1)) :
    Fin .f64 (fsqrt x) ((rq 52 (2 * S + (S * S != X).toNat) 2 : Nat) : Int) := by
  have hl := h.lt_lim
  rw [Int.natAbs_natCast] at hl
  obtain ⟨s, m, i, h1, h2, h3⟩ := h
  have h2' : -1074 ≤ i := h2
  have lp : FloatKind.f64.format.leastPlace = -1074 := rfl
  rw [lp, signed_sg] at h3
  have hm := (read_number h1).1
  rcases Nat.eq_zero_or_pos m with h0 | h0
  · subst h0
    rw [Nat.zero_mul, sg_zero] at h3
    have hn : n = 0 := by omega
    subst hn
    rw [Nat.zero_mul] at hX0
    subst hX0
    have : S = 0 := by
      rcases Nat.eq_zero_or_pos S with h | h
      · exact h
      · have := Nat.mul_pos h h; omega
    subst this
    have e : fsqrt x = FloatKind.f64.format.write (.number s 0 i) := by
      have : FloatKind.f64.format.sqrt x = some (FloatKind.f64.format.write (.number s 0 i)) := by
        show ((FloatKind.f64.format.read x).root 54).map FloatKind.f64.format.write = _
        rw [h1]; rfl
      unfold fsqrt; rw [this]
    rw [e]
    have := fin_write (k := .f64) (s := s) (m := 0) (i := i) (A := 0) (B := 1) (by omega) (by rw [Nat.zero_mul, Nat.zero_mul, Nat.zero_mul]) (by rw [rq_zero]; exact limK_pos _)
    rw [rq_zero, sg_zero] at this
    have key : rq 52 (2 * 0 + (0 * 0 != 0).toNat) 2 = 0 := rq_zero _ _
    rw [key]
    exact this
  · have hs : s = false := by
      cases s
      · rfl
      · exfalso
        have : (0 : Int) < (m * 2 ^ (i - -1074).toNat : Nat) := by exact Int.natCast_pos.2 (Nat.mul_pos h0 (Nat.two_pow_pos _))
        unfold sg at h3
        rw [if_pos rfl] at h3
        omega
    subst hs
    have hn : n = m * 2 ^ (i + 1074).toNat := by
      have : sg false (m * 2 ^ (i - -1074).toNat) = ((m * 2 ^ (i - -1074).toNat : Nat) : Int) := rfl
      rw [this, show i - -1074 = i + 1074 by omega] at h3
      exact Int.ofNat.inj h3
    generalize hmore : 2 * 54 - m.log2 + ((i - ((2 * 54 - m.log2 : Nat) : Int)) % 2).toNat = more
    generalize hW : Datum.rootFrom (m <<< more) ((m <<< more).log2 / 2 + 1) 0 = W
    have e : fsqrt x = FloatKind.f64.format.write (.number false (2 * W + (W * W != m <<< more).toNat) ((i - more) / 2 - 1)) := by
      have : FloatKind.f64.format.sqrt x = some (FloatKind.f64.format.write (.number false (2 * W + (W * W != m <<< more).toNat) ((i - more) / 2 - 1))) := by
        show ((FloatKind.f64.format.read x).root 54).map FloatKind.f64.format.write = _
        rw [h1]
        unfold Datum.root
        simp only
        rw [if_neg (by omega), hmore, hW]
        rfl
      unfold fsqrt; rw [this]
    rw [e]
    have hr := rootFrom_ok (m <<< more)
    rw [hW, shl_eq] at hr
    rw [shl_eq]
    have hml : m.log2 < 53 := (Nat.log2_lt (by omega)).2 hm
    have heven : (i - more) % 2 = 0 := by omega
    have hmo : 108 ≤ m.log2 + more ∧ more ≤ 109 := by omega
    obtain ⟨E, hE⟩ : ∃ E : Nat, 2 * (E : Int) = 2148 + i - more := ⟨((2148 + i - more) / 2).toNat, by omega⟩
    have hX : X = m * 2 ^ more * (2 ^ E * 2 ^ E) := by
      have hsc : scK .f64 = 1074 := rfl
      rw [hX0, hn, Nat.mul_assoc, Nat.mul_assoc, ← Nat.pow_add, ← Nat.pow_add, ← Nat.pow_add]
      congr 2
      omega
    have hpE : 0 < 2 ^ E * 2 ^ E := Nat.mul_pos (Nat.two_pow_pos _) (Nat.two_pow_pos _)
    have hne : (W * W != m * 2 ^ more) = (W * W * (2 ^ E * 2 ^ E) != X) := by
      rw [hX]
      rw [Bool.eq_iff_iff, bne_iff_ne, bne_iff_ne]
      exact ⟨fun h h' => h (Nat.eq_of_mul_eq_mul_right hpE h'), fun h h' => h (by rw [h'])⟩
    rw [hne]
    have st := root_stick (e := E) hS hS' (by rw [hX]; exact Nat.mul_le_mul_right _ hr.1) (by rw [hX]; exact Nat.mul_lt_mul_of_pos_right hr.2 hpE)
    generalize hN : 2 * W + (W * W * (2 ^ E * 2 ^ E) != X).toNat = N at *
    generalize hY : 2 * S + (S * S != X).toNat = Y at *
    have hWb : 2 ^ 53 ≤ W := by
      rcases Nat.lt_or_ge W (2 ^ 53) with h | h
      · exfalso
        have h5 : (W + 1) * (W + 1) ≤ 2 ^ 53 * 2 ^ 53 := Nat.mul_le_mul h h
        have h6 : 2 ^ 108 ≤ m * 2 ^ more := by
          calc 2 ^ 108 ≤ 2 ^ (m.log2 + more) := Nat.pow_le_pow_right (by omega) (by omega)
            _ = 2 ^ m.log2 * 2 ^ more := Nat.pow_add ..
            _ ≤ m * 2 ^ more := Nat.mul_le_mul_right _ (le_log22 (by omega))
        have h7 : (2 : Nat) ^ 53 * 2 ^ 53 < 2 ^ 108 := by decide
        omega
      · exact h
    have hNb : 2 ^ (52 + 2) ≤ N := by rw [← hN]; omega
    have hE1 : 1 ≤ E := by omega
    have key := stick_rq (fb := 52) (u := E - 1) (v := 0) (Nat.two_pow_pos E) st hNb (.inr rfl)
    rw [Nat.pow_zero, Nat.mul_one] at key
    have rat : rq 52 (Y * 2 ^ (E - 1)) (2 ^ E) = rq 52 Y 2 := by
      obtain ⟨F, rfl⟩ : ∃ F, E = F + 1 := ⟨E - 1, by omega⟩
      rw [Nat.add_sub_cancel, Nat.pow_succ', rq_scale (Nat.two_pow_pos _)]
    rw [rat] at key
    have hlt : rq 52 (N * 2 ^ (E - 1)) 1 < limK .f64 := by
      rw [limK_pow]
      have hb : N * 2 ^ (E - 1) < 2 ^ 1700 := by
        have hW2 : W < 2 ^ 82 := by
          rcases Nat.lt_or_ge W (2 ^ 82) with h | h
          · exact h
          · exfalso
            have a1 := Nat.mul_le_mul h h
            have a2 : m * 2 ^ more < 2 ^ 53 * 2 ^ 109 := by
              calc m * 2 ^ more < 2 ^ 53 * 2 ^ more := Nat.mul_lt_mul_of_pos_right hm (Nat.two_pow_pos _)
                _ ≤ 2 ^ 53 * 2 ^ 109 := Nat.mul_le_mul_left _ (Nat.pow_le_pow_right (by omega) hmo.2)
            have a3 : (2 : Nat) ^ 53 * 2 ^ 109 < 2 ^ 82 * 2 ^ 82 := by decide +kernel
            omega
        have hNlt : N < 2 ^ 84 := by
          have : (W * W * (2 ^ E * 2 ^ E) != X).toNat ≤ 1 := by cases (W * W * (2 ^ E * 2 ^ E) != X) <;> decide
          have a4 : (2 : Nat) ^ 84 = 4 * 2 ^ 82 := by decide +kernel
          omega
        have hi : i ≤ 1000 := by
          rcases Int.lt_or_le 1000 i with h | h
          · have hi2 := (read_number h1).2.2
            have : (FloatKind.f64.format.infRung / FloatKind.f64.format.binade : Nat) = 2047 := by decide +kernel
            rw [this, lp] at hi2
            omega
          · exact h
        calc N * 2 ^ (E - 1) < 2 ^ 84 * 2 ^ (E - 1) := Nat.mul_lt_mul_of_pos_right hNlt (Nat.two_pow_pos _)
          _ = 2 ^ (84 + (E - 1)) := (Nat.pow_add ..).symm
          _ ≤ 2 ^ 1700 := Nat.pow_le_pow_right (by omega) (by omega)
      have h5 : rq 52 (N * 2 ^ (E - 1)) 1 ≤ 2 * (N * 2 ^ (E - 1)) + 2 ^ 53 := by
        generalize N * 2 ^ (E - 1) = A
        unfold rq
        rw [Nat.one_mul]
        have a1 := rqN_le A (2 ^ rqS 52 A 1)
        have a2 := Nat.mul_le_mul_right (2 ^ rqS 52 A 1) a1
        rw [Nat.add_mul, Nat.one_mul] at a2
        have a3 := Nat.div_mul_le_self A (2 ^ rqS 52 A 1)
        have a4 : 2 ^ rqS 52 A 1 ≤ A + 1 := by
          unfold rqS
          rw [Nat.div_one]
          rcases Nat.eq_zero_or_pos A with h | h
          · subst h; decide
          · exact Nat.le_trans (Nat.pow_le_pow_right (by omega) (Nat.sub_le _ _)) (Nat.le_trans (le_log22 (by omega)) (Nat.le_succ _))
        omega
      have h6 : (2 : Nat) ^ 1700 * 2 + 2 ^ 53 < 2 ^ limE .f64 := by decide +kernel
      generalize 2 ^ limE .f64 = l at *
      generalize 2 ^ 1700 = l' at *
      omega
    have hfw := fin_write (k := .f64) (s := false) (m := N) (i := (i - more) / 2 - 1) (A := N * 2 ^ (E - 1)) (B := 1) (by omega) (by
      show N * 2 ^ ((i - more) / 2 - 1 + 1074).toNat * 1 = N * 2 ^ (E - 1) * 2 ^ (-1074 - ((i - more) / 2 - 1)).toNat
      rw [show ((i - more) / 2 - 1 + 1074).toNat = E - 1 by omega, show (-1074 - ((i - more) / 2 - 1)).toNat = 0 by omega]) hlt
    rw [key]
    exact hfw
end Go.Fw

/-
  Floats evaluated by the kernel: mantissas and exponents as natural numbers; 'bad': nothing is said.
-/
namespace Go.Fw
open Ieee (Datum Format Toward signed)
inductive V where
  | zero
  | num (b : Bool) (m s : Nat)
  | bad
def Rep (k : FloatKind) (w : Nat) : V → Prop
  | .zero => Fin k w 0
  | .num b m s => Fin k w (sg b (m * 2 ^ s))
  | .bad => True
theorem rqN_fast {A D : Nat} (hD : 0 < D) : (2 * A + (D - 1) + A / D % 2) / (2 * D) = rqN A D := by
  unfold rqN
  have h1 := Nat.div_add_mod A D
  have h2 := Nat.mod_lt A hD
  generalize A / D = q at *
  generalize A % D = r at *
  have h3 := Nat.mod_lt q (show 0 < 2 by omega)
  generalize hp : q % 2 = p at *
  have e : 2 * A + (D - 1) + p = (2 * r + (D - 1) + p) + q * (2 * D) := by
    rw [← h1, Nat.mul_add, Nat.mul_comm D q, Nat.mul_left_comm]; omega
  rw [e, Nat.add_mul_div_right _ _ (by omega)]
  by_cases h : D < 2 * r ∨ (D = 2 * r ∧ p = 1)
  · have : (Nat.blt D (2 * r) || (Nat.beq D (2 * r) && Nat.beq p 1)) = true := by
      rcases h with h | ⟨h, h'⟩
      · rw [show Nat.blt D (2 * r) = true by rw [Nat.blt_eq]; exact h]; rfl
      · rw [show Nat.beq D (2 * r) = true by rw [Nat.beq_eq]; exact h, show Nat.beq p 1 = true by rw [Nat.beq_eq]; exact h']; simp
    rw [this, cond_true]
    have : (2 * r + (D - 1) + p) / (2 * D) = 1 := Nat.div_eq_of_lt_le (by omega) (by omega)
    omega
  · have : (Nat.blt D (2 * r) || (Nat.beq D (2 * r) && Nat.beq p 1)) = false := by
      rw [Bool.eq_false_iff]
      intro hh
      simp only [Bool.or_eq_true, Bool.and_eq_true, Nat.blt_eq, Nat.beq_eq] at hh
      exact h hh
    rw [this, cond_false]
    have : (2 * r + (D - 1) + p) / (2 * D) = 0 := Nat.div_eq_of_lt (by omega)
    omega
theorem rq_at {fb A D s : Nat} (hD : 0 < D) (h1 : 2 ^ fb ≤ A / D) (h2 : A / D < 2 ^ (fb + 1)) : rq fb (A * 2 ^ s) D = rqN A D * 2 ^ s := by
  have hl : (A / D).log2 = fb := log2_of h1 h2
  rw [rq_up hD h1]
  unfold rq rqS
  rw [hl, Nat.sub_self, Nat.pow_zero, Nat.mul_one, Nat.mul_one]
noncomputable def vfix (H H2 : Nat) (b : Bool) (k s : Nat) : V := Bool.rec (V.num b k s) (V.num b H (Nat.add s 1)) (Nat.beq k H2)
noncomputable def vrnd2 (H H2 : Nat) (b : Bool) (A D s t : Nat) : V :=
  vfix H H2 b (Nat.div (Nat.add (Nat.add (Nat.mul 2 A) (Nat.sub D 1)) (Nat.mod t 2)) (Nat.mul 2 D)) s
noncomputable def vrnd1 (H H2 EL : Nat) (b : Bool) (A D s t : Nat) : V :=
  Bool.rec V.bad (Bool.rec V.bad (Bool.rec V.bad (vrnd2 H H2 b A D s t) (Nat.ble s EL)) (Nat.ble (Nat.succ t) H2)) (Nat.ble H t)
noncomputable def vrnd (H H2 EL : Nat) (b : Bool) (A D s : Nat) : V := vrnd1 H H2 EL b A D s (Nat.div A D)
structure KOk (k : FloatKind) (fb H H2 sc EL : Nat) : Prop where
  efb : fb = fbK k
  eH : H = 2 ^ fb
  eH2 : H2 = 2 ^ (fb + 1)
  esc : sc = scK k
  eEL : fb + 1 + EL < limE k
  scp : fb < sc
theorem rep_rnd {k : FloatKind} {fb H H2 sc EL w A D s : Nat} {b : Bool} (ok : KOk k fb H H2 sc EL) (hD : 0 < D)
    (h : rq (fbK k) (A * 2 ^ s) D < limK k → Fin k w (sg b (rq (fbK k) (A * 2 ^ s) D))) : Rep k w (vrnd H H2 EL b A D s) := by
  unfold vrnd vrnd1
  cases h1 : Nat.ble H (Nat.div A D)
  · trivial
  cases h2 : Nat.ble (Nat.succ (Nat.div A D)) H2
  · trivial
  cases h3 : Nat.ble s EL
  · trivial
  have h1 : H ≤ A / D := Nat.le_of_ble_eq_true h1
  have h2 : A / D + 1 ≤ H2 := Nat.le_of_ble_eq_true h2
  have h3 : s ≤ EL := Nat.le_of_ble_eq_true h3
  rw [ok.eH, ok.efb] at h1
  rw [ok.eH2, ok.efb] at h2
  have hr : rq (fbK k) (A * 2 ^ s) D = rqN A D * 2 ^ s := rq_at hD h1 h2
  rw [hr] at h
  have hk : rqN A D ≤ 2 ^ (fbK k + 1) := Nat.le_trans (rqN_le _ _) h2
  have hlt : rqN A D * 2 ^ s < limK k := by
    rw [limK_pow]
    calc rqN A D * 2 ^ s ≤ 2 ^ (fbK k + 1) * 2 ^ s := Nat.mul_le_mul_right _ hk
      _ = 2 ^ (fbK k + 1 + s) := (Nat.pow_add ..).symm
      _ < 2 ^ limE k := Nat.pow_lt_pow_right (by omega) (by have := ok.eEL; rw [ok.efb] at this; omega)
  have hF := h hlt
  show Rep k w (vfix H H2 b ((2 * A + (D - 1) + A / D % 2) / (2 * D)) s)
  rw [rqN_fast hD]
  unfold vfix
  cases h4 : Nat.beq (rqN A D) H2
  · exact hF
  · have h4 := Nat.eq_of_beq_eq_true h4
    rw [h4, ok.eH2, ok.efb, Nat.pow_succ, Nat.mul_assoc, ← Nat.pow_succ'] at hF
    show Fin k w (sg b (H * 2 ^ (s + 1)))
    rw [ok.eH, ok.efb]
    exact hF
noncomputable def bx (b c : Bool) : Bool := Bool.rec c (Bool.rec true false c) b
theorem bx_eq (b c : Bool) : bx b c = (b ^^ c) := by cases b <;> cases c <;> rfl
noncomputable def vmul2 (H H2 sc EL HH : Nat) (b : Bool) (p q : Nat) : V :=
  Bool.rec V.bad (Bool.rec (vrnd H H2 EL b p H2 (Nat.sub (Nat.succ q) sc)) (vrnd H H2 EL b p H (Nat.sub q sc)) (Nat.ble (Nat.succ p) HH)) (Nat.ble sc q)
noncomputable def vmulG (fb H H2 sc EL HH : Nat) (x y : V) : V :=
  V.rec (V.rec V.zero (fun _ _ _ => V.zero) V.bad y)
    (fun b m s => V.rec V.zero (fun c n t => vmul2 H H2 sc EL HH (bx b c) (Nat.mul m n) (Nat.add (Nat.add s t) fb)) V.bad y)
    V.bad x
theorem rep_mul2 {k : FloatKind} {fb H H2 sc EL HH w m n s t : Nat} {b : Bool} (ok : KOk k fb H H2 sc EL)
    (h : rq (fbK k) (m * 2 ^ s * (n * 2 ^ t)) (2 ^ scK k) < limK k → Fin k w (sg b (rq (fbK k) (m * 2 ^ s * (n * 2 ^ t)) (2 ^ scK k)))) : Rep k w (vmul2 H H2 sc EL HH b (m * n) (s + t + fb)) := by
  unfold vmul2
  cases h1 : Nat.ble sc (s + t + fb)
  · trivial
  have h1 : sc ≤ s + t + fb := Nat.le_of_ble_eq_true h1
  have ev : ∀ sh u : Nat, s + t + sh = sc + u → rq (fbK k) (m * n * 2 ^ u) (2 ^ sh) = rq (fbK k) (m * 2 ^ s * (n * 2 ^ t)) (2 ^ scK k) := fun sh u hu => by
    refine rq_congr (Nat.two_pow_pos _) (Nat.two_pow_pos _) ?_
    rw [← ok.esc, Nat.mul_mul_mul_comm, ← Nat.pow_add, Nat.mul_assoc (m * n), Nat.mul_assoc (m * n), ← Nat.pow_add, ← Nat.pow_add, hu, Nat.add_comm]
  show Rep k w (Bool.rec (vrnd H H2 EL b (m * n) H2 (Nat.sub (Nat.succ (s + t + fb)) sc)) (vrnd H H2 EL b (m * n) H (Nat.sub (s + t + fb) sc)) (Nat.ble (Nat.succ (m * n)) HH))
  cases Nat.ble (Nat.succ (m * n)) HH
  · refine rep_rnd ok (by rw [ok.eH2]; exact Nat.two_pow_pos _) fun hl => ?_
    have := ev (fb + 1) (s + t + fb + 1 - sc) (by omega)
    rw [ok.eH2] at hl ⊢
    have e : Nat.sub (Nat.succ (s + t + fb)) sc = s + t + fb + 1 - sc := rfl
    rw [e, this] at hl ⊢
    exact h hl
  · refine rep_rnd ok (by rw [ok.eH]; exact Nat.two_pow_pos _) fun hl => ?_
    have := ev fb (s + t + fb - sc) (by omega)
    rw [ok.eH] at hl ⊢
    have e : Nat.sub (s + t + fb) sc = s + t + fb - sc := rfl
    rw [e, this] at hl ⊢
    exact h hl
theorem rI_0 {k : FloatKind} (D : Nat) : rI k 0 D = 0 := by unfold rI; rw [Int.natAbs_zero, rq_zero, sg_zero]
theorem Fin.mul0 {k : FloatKind} {x y : Nat} {a b : Int} (hx : Fin k x a) (hy : Fin k y b) (h : a * b = 0) : Fin k (fop .mul k x y) 0 := by
  have := Fin.mul hx hy
  rw [h, rI_0] at this
  exact this (limK_pos k)
theorem rep_mulG {k : FloatKind} {fb H H2 sc EL HH x y : Nat} {a b : V} (ok : KOk k fb H H2 sc EL) (hx : Rep k x a) (hy : Rep k y b) : Rep k (fop .mul k x y) (vmulG fb H H2 sc EL HH a b) := by
  cases a with
  | bad => trivial
  | zero => cases b with
    | bad => trivial
    | zero => exact Fin.mul0 hx hy (Int.zero_mul _)
    | num c n t => exact Fin.mul0 hx hy (Int.zero_mul _)
  | num b m s => cases b with
    | _ => cases ‹V› with
      | bad => trivial
      | zero => exact Fin.mul0 hx hy (Int.mul_zero _)
      | num c n t =>
        show Rep k _ (vmul2 H H2 sc EL HH (bx _ c) (m * n) (s + t + fb))
        rw [bx_eq]
        refine rep_mul2 ok fun hl => ?_
        have := Fin.mul hx hy
        rw [sg_mul, rI_sg, sg_abs] at this
        exact this hl
noncomputable def vquo2 (fb H H2 sc EL : Nat) (b : Bool) (m s n t : Nat) : V :=
  Bool.rec V.bad (Bool.rec (vrnd H H2 EL b (Nat.mul m H2) n (Nat.sub (Nat.sub (Nat.add s sc) t) (Nat.succ fb))) (vrnd H H2 EL b (Nat.mul m H) n (Nat.sub (Nat.sub (Nat.add s sc) t) fb)) (Nat.ble n m))
    (Nat.ble (Nat.add t (Nat.succ fb)) (Nat.add s sc))
noncomputable def vquo1 (fb H H2 sc EL : Nat) (b : Bool) (m s n t : Nat) : V := Bool.rec (vquo2 fb H H2 sc EL b m s n t) V.bad (Nat.beq n 0)
noncomputable def vquoG (fb H H2 sc EL : Nat) (x y : V) : V :=
  V.rec (V.rec V.bad (fun _ n _ => Bool.rec V.zero V.bad (Nat.beq n 0)) V.bad y)
    (fun b m s => V.rec V.bad (fun c n t => vquo1 fb H H2 sc EL (bx b c) m s n t) V.bad y)
    V.bad x
theorem sg_ne {b : Bool} {n : Nat} (h : n ≠ 0) : sg b n ≠ 0 := fun e => by have := sg_abs b n; rw [e] at this; simp at this; omega
theorem sg_quo (b c : Bool) (A n p : Nat) (hn : n ≠ 0) : sg b A * (sg c n).sign * (p : Nat) = sg (b ^^ c) (A * p) := by
  rw [sg_sign c n hn]
  unfold sg; cases b <;> cases c <;> simp [Int.neg_mul, Int.mul_neg]
theorem rep_quoG {k : FloatKind} {fb H H2 sc EL x y : Nat} {a b : V} (ok : KOk k fb H H2 sc EL) (hx : Rep k x a) (hy : Rep k y b) : Rep k (fop .quo k x y) (vquoG fb H H2 sc EL a b) := by
  have nz : ∀ n t : Nat, Nat.beq n 0 = false → n * 2 ^ t ≠ 0 := fun n t h0 => by
    have h0 : n ≠ 0 := fun e => by subst e; cases h0
    have := Nat.mul_pos (show 0 < n by omega) (Nat.two_pow_pos t)
    omega
  cases a with
  | bad => trivial
  | zero => cases b with
    | bad => trivial
    | zero => trivial
    | num c n t =>
      show Rep k _ (Bool.rec V.zero V.bad (Nat.beq n 0))
      cases h0 : Nat.beq n 0
      · have := Fin.quo hx hy (sg_ne (nz n t h0))
        rw [Int.zero_mul, Int.zero_mul, rI_0] at this
        exact this (limK_pos k)
      · trivial
  | num b m s => cases b with
    | _ => cases ‹V› with
      | bad => trivial
      | zero => trivial
      | num c n t =>
        show Rep k _ (Bool.rec (vquo2 fb H H2 sc EL (bx _ c) m s n t) V.bad (Nat.beq n 0))
        cases h0 : Nat.beq n 0
        · have hn := nz n t h0
          have hn' : 0 < n := by
            rcases Nat.eq_zero_or_pos n with h | h
            · subst h; cases h0
            · exact h
          have := Fin.quo hx hy (sg_ne hn)
          rw [sg_quo _ _ _ _ _ hn, sg_abs, rI_sg, sg_abs] at this
          show Rep k _ (vquo2 fb H H2 sc EL (bx _ c) m s n t)
          unfold vquo2
          rw [bx_eq]
          cases h1 : Nat.ble (Nat.add t (Nat.succ fb)) (Nat.add s sc)
          · trivial
          have h1 : t + (fb + 1) ≤ s + sc := Nat.le_of_ble_eq_true h1
          have ev : ∀ sh u : Nat, s + sc = sh + u + t → rq (fbK k) (m * 2 ^ sh * 2 ^ u) n = rq (fbK k) (m * 2 ^ s * 2 ^ scK k) (n * 2 ^ t) := fun sh u hu => by
            refine rq_congr hn' (by omega) ?_
            rw [← ok.esc]
            have e1 : m * 2 ^ sh * 2 ^ u * (n * 2 ^ t) = m * n * 2 ^ (sh + u + t) := by
              rw [Nat.pow_add, Nat.pow_add]
              simp only [Nat.mul_assoc, Nat.mul_left_comm, Nat.mul_comm]
            have e2 : m * 2 ^ s * 2 ^ sc * n = m * n * 2 ^ (s + sc) := by
              rw [Nat.pow_add]
              simp only [Nat.mul_assoc, Nat.mul_left_comm, Nat.mul_comm]
            rw [e1, e2, hu]
          show Rep k _ (Bool.rec (vrnd H H2 EL _ (m * H2) n (s + sc - t - (fb + 1))) (vrnd H H2 EL _ (m * H) n (s + sc - t - fb)) (Nat.ble n m))
          cases Nat.ble n m
          · refine rep_rnd ok hn' fun hl => ?_
            have e := ev (fb + 1) (s + sc - t - (fb + 1)) (by omega)
            rw [ok.eH2] at hl ⊢
            rw [e] at hl ⊢
            exact this hl
          · refine rep_rnd ok hn' fun hl => ?_
            have e := ev fb (s + sc - t - fb) (by omega)
            rw [ok.eH] at hl ⊢
            rw [e] at hl ⊢
            exact this hl
        · trivial
end Go.Fw

/-
  Floats evaluated by the kernel: sums, roots, conversions, comparisons.
-/
namespace Go.Fw
open Ieee (Datum Format Toward signed)
noncomputable def vsum3 (H H2 EL : Nat) (b : Bool) (p e d P : Nat) : V :=
  Bool.rec (vrnd H H2 EL b p (Nat.mul 2 P) (Nat.add e (Nat.succ d))) (vrnd H H2 EL b p P (Nat.add e d)) (Nat.ble (Nat.succ p) (Nat.mul H2 P))
noncomputable def vsum2 (H H2 EL : Nat) (b : Bool) (m n e d P : Nat) : V := vsum3 H H2 EL b (Nat.add (Nat.mul m P) n) e d P
noncomputable def vsum1 (H H2 EL : Nat) (b : Bool) (m n e d : Nat) : V := vsum2 H H2 EL b m n e d (Nat.pow 2 d)
noncomputable def vsum (H H2 EL : Nat) (b : Bool) (m s n t : Nat) : V :=
  Bool.rec (vsum1 H H2 EL b n m s (Nat.sub t s)) (vsum1 H H2 EL b m n t (Nat.sub s t)) (Nat.ble t s)
noncomputable def vnrm (b : Bool) (p e j P : Nat) : V := Bool.rec V.bad (V.num b (Nat.mul p P) (Nat.sub e j)) (Nat.ble j e)
noncomputable def vsh (b : Bool) (p e j : Nat) : V := vnrm b p e j (Nat.pow 2 j)
noncomputable def lift (H : Nat) (p : Nat) : Nat → Nat → Nat → Nat := fun n q j =>
  Nat.rec (motive := fun _ => Nat → Nat → Nat) (fun _ j => j) (fun i ih q j => Bool.rec (ih q j) (ih (Nat.mul q (Nat.pow 2 (Nat.pow 2 i))) (Nat.add j (Nat.pow 2 i))) (Nat.ble (Nat.succ (Nat.mul q (Nat.pow 2 (Nat.pow 2 i)))) (Nat.mul 2 H))) n q j
noncomputable def vnorm (H : Nat) (b : Bool) (p e : Nat) : V := vsh b p e (lift H p 6 p 0)
noncomputable def vdif4 (H H2 EL : Nat) (b : Bool) (p e d P : Nat) : V :=
  Bool.rec
    (Bool.rec (Bool.rec V.bad (vsum3 H H2 EL b p e (Nat.sub d 1) (Nat.div P 2)) (Nat.ble 1 d)) (vrnd H H2 EL b p P (Nat.add e d)) (Nat.ble (Nat.mul H P) p))
    (vnorm H b p e)
    (Nat.ble (Nat.succ p) H2)
noncomputable def vdif3 (H H2 EL : Nat) (b : Bool) (a n e d P : Nat) : V :=
  Bool.rec (Bool.rec (vdif4 H H2 EL (bx b true) (Nat.sub n a) e d P) V.zero (Nat.beq a n)) (vdif4 H H2 EL b (Nat.sub a n) e d P) (Nat.ble (Nat.succ n) a)
noncomputable def vdif2 (H H2 EL : Nat) (b : Bool) (m n e d P : Nat) : V := vdif3 H H2 EL b (Nat.mul m P) n e d P
noncomputable def vdif1 (H H2 EL : Nat) (b : Bool) (m n e d : Nat) : V := vdif2 H H2 EL b m n e d (Nat.pow 2 d)
noncomputable def vdif (H H2 EL : Nat) (b : Bool) (m s n t : Nat) : V :=
  Bool.rec (vdif1 H H2 EL (bx b true) n m s (Nat.sub t s)) (vdif1 H H2 EL b m n t (Nat.sub s t)) (Nat.ble t s)
noncomputable def vaddG (H H2 EL : Nat) (x y : V) : V :=
  V.rec y (fun b m s => V.rec (V.num b m s) (fun c n t => Bool.rec (vsum H H2 EL b m s n t) (vdif H H2 EL b m s n t) (bx b c)) V.bad y) V.bad x
noncomputable def vneg (x : V) : V := V.rec V.zero (fun b m s => V.num (bx b true) m s) V.bad x
noncomputable def vsubG (H H2 EL : Nat) (x y : V) : V := vaddG H H2 EL x (vneg y)
def RR (k : FloatKind) (w : Nat) (b : Bool) (A : Nat) : Prop := rq (fbK k) A 1 < limK k → Fin k w (sg b (rq (fbK k) A 1))
theorem rep_sum3 {k : FloatKind} {fb H H2 sc EL w p e d P : Nat} {b : Bool} (ok : KOk k fb H H2 sc EL) (hP : P = 2 ^ d) (h : RR k w b (p * 2 ^ e)) : Rep k w (vsum3 H H2 EL b p e d P) := by
  have ev : ∀ u, rq (fbK k) (p * 2 ^ (e + u)) (2 ^ u) = rq (fbK k) (p * 2 ^ e) 1 := fun u => by
    have := rq_scale (fb := fbK k) (A := p * 2 ^ e) (B := 1) (Nat.two_pow_pos u)
    rw [Nat.one_mul, Nat.mul_assoc, ← Nat.pow_add] at this
    exact this
  unfold vsum3
  cases Nat.ble (Nat.succ p) (Nat.mul H2 P)
  · refine rep_rnd ok (by rw [hP]; exact Nat.mul_pos (by omega) (Nat.two_pow_pos _)) fun hl => ?_
    have e1 : Nat.mul 2 P = 2 ^ (d + 1) := by rw [hP, Nat.pow_succ']; rfl
    rw [e1] at hl ⊢
    have := ev (d + 1)
    have e2 : Nat.add e (Nat.succ d) = e + (d + 1) := rfl
    rw [e2, this] at hl ⊢
    exact h hl
  · refine rep_rnd ok (by rw [hP]; exact Nat.two_pow_pos _) fun hl => ?_
    rw [hP] at hl ⊢
    have e2 : Nat.add e d = e + d := rfl
    rw [e2, ev d] at hl ⊢
    exact h hl
theorem rep_sum {k : FloatKind} {fb H H2 sc EL w m s n t : Nat} {b : Bool} (ok : KOk k fb H H2 sc EL) (h : RR k w b (m * 2 ^ s + n * 2 ^ t)) : Rep k w (vsum H H2 EL b m s n t) := by
  have key : ∀ m s n t, t ≤ s → (m * 2 ^ (s - t) + n) * 2 ^ t = m * 2 ^ s + n * 2 ^ t := fun m s n t hst => by
    rw [Nat.add_mul, Nat.mul_assoc, ← Nat.pow_add, show s - t + t = s by omega]
  unfold vsum
  cases h1 : Nat.ble t s
  · have hst : s ≤ t := by
      rcases Nat.le_total s t with h | h
      · exact h
      · rw [Nat.ble_eq_true_of_le h] at h1; cases h1
    exact rep_sum3 (p := n * 2 ^ (t - s) + m) ok rfl (by rw [key _ _ _ _ hst, Nat.add_comm]; exact h)
  · have hst : t ≤ s := Nat.le_of_ble_eq_true h1
    exact rep_sum3 (p := m * 2 ^ (s - t) + n) ok rfl (by rw [key _ _ _ _ hst]; exact h)
theorem rep_sh {k : FloatKind} {fb H H2 sc EL w p e : Nat} {b : Bool} (j : Nat) (ok : KOk k fb H H2 sc EL) (hp : p < H2) (h : RR k w b (p * 2 ^ e)) (hl : p * 2 ^ e < limK k) : Rep k w (vsh b p e j) := by
  have he : rq (fbK k) (p * 2 ^ e) 1 = p * 2 ^ e := rq_exact (by rw [ok.eH2, ok.efb] at hp; exact hp)
  unfold RR at h
  rw [he] at h
  have hF := h hl
  unfold vsh vnrm
  cases h1 : Nat.ble j e
  · trivial
  · have h1 : j ≤ e := Nat.le_of_ble_eq_true h1
    show Fin k w (sg b (p * 2 ^ j * 2 ^ (e - j)))
    rw [Nat.mul_assoc, ← Nat.pow_add, show j + (e - j) = e by omega]
    exact hF
theorem rep_norm {k : FloatKind} {fb H H2 sc EL w p e : Nat} {b : Bool} (ok : KOk k fb H H2 sc EL) (hp : p < H2) (h : RR k w b (p * 2 ^ e)) (hl : p * 2 ^ e < limK k) : Rep k w (vnorm H b p e) :=
  rep_sh _ ok hp h hl
theorem rep_dif4 {k : FloatKind} {fb H H2 sc EL w p e d P : Nat} {b : Bool} (ok : KOk k fb H H2 sc EL) (hP : P = 2 ^ d) (h : RR k w b (p * 2 ^ e)) (hl : p * 2 ^ e < limK k) : Rep k w (vdif4 H H2 EL b p e d P) := by
  unfold vdif4
  cases h1 : Nat.ble (Nat.succ p) H2
  · cases h2 : Nat.ble (Nat.mul H P) p
    · cases h3 : Nat.ble 1 d
      · trivial
      · have h3 : 1 ≤ d := Nat.le_of_ble_eq_true h3
        obtain ⟨c, rfl⟩ : ∃ c, d = c + 1 := ⟨d - 1, by omega⟩
        refine rep_sum3 (d := c) ok ?_ h
        rw [hP, Nat.pow_succ]
        exact Nat.mul_div_cancel _ (by omega)
    · refine rep_rnd ok (by rw [hP]; exact Nat.two_pow_pos _) fun hl => ?_
      have := rq_scale (fb := fbK k) (A := p * 2 ^ e) (B := 1) (Nat.two_pow_pos d)
      rw [Nat.one_mul, Nat.mul_assoc, ← Nat.pow_add] at this
      rw [hP] at hl ⊢
      have e2 : Nat.add e d = e + d := rfl
      rw [e2, this] at hl ⊢
      exact h hl
  · exact rep_norm ok (Nat.le_of_ble_eq_true h1) h hl
def RI (k : FloatKind) (w : Nat) (z : Int) : Prop := (rI k z 1).natAbs < limK k → Fin k w (rI k z 1)
theorem RI.sg {k : FloatKind} {w A : Nat} {b : Bool} (h : RI k w (sg b A)) : RR k w b A := fun hl => by
  unfold RI at h
  rw [rI_sg, sg_abs] at h
  exact h hl
theorem sg_not (b : Bool) (n : Nat) : sg (!b) n = -sg b n := by unfold sg; cases b <;> simp
theorem rep_dif3 {k : FloatKind} {fb H H2 sc EL w a n e d P : Nat} {b : Bool} (ok : KOk k fb H H2 sc EL) (hP : P = 2 ^ d) (h : RI k w (sg b (a * 2 ^ e) + sg (!b) (n * 2 ^ e))) (ha : a * 2 ^ e < limK k) (hn : n * 2 ^ e < limK k) : Rep k w (vdif3 H H2 EL b a n e d P) := by
  have e1 : ∀ x y : Nat, y ≤ x → sg b (x * 2 ^ e) + sg (!b) (y * 2 ^ e) = sg b ((x - y) * 2 ^ e) := fun x y hxy => by
    have hm := Nat.mul_le_mul_right (2 ^ e) hxy
    rw [Nat.sub_mul]
    generalize x * 2 ^ e = X at *
    generalize y * 2 ^ e = Y at *
    unfold sg
    cases b
    · simp; omega
    · simp; omega
  unfold vdif3
  cases h1 : Nat.ble (Nat.succ n) a
  · have h1 : ¬ n < a := fun h => by
      rw [Nat.ble_eq_true_of_le (show Nat.succ n ≤ a from h)] at h1; cases h1
    cases h2 : Nat.beq a n
    · have hlt : a < n := by
        rcases Nat.lt_trichotomy a n with h | h | h
        · exact h
        · subst h; rw [Nat.beq_refl] at h2; cases h2
        · exact absurd h h1
      have e2 : sg b (a * 2 ^ e) + sg (!b) (n * 2 ^ e) = sg (!b) ((n - a) * 2 ^ e) := by
        have hm := Nat.mul_le_mul_right (2 ^ e) (Nat.le_of_lt hlt)
        rw [Nat.sub_mul]
        generalize a * 2 ^ e = X at *
        generalize n * 2 ^ e = Y at *
        unfold sg
        cases b
        · simp; omega
        · simp; omega
      rw [e2] at h
      rw [bx_eq, Bool.xor_true]
      refine rep_dif4 ok hP h.sg (Nat.lt_of_le_of_lt (Nat.mul_le_mul_right _ (Nat.sub_le _ _)) hn)
    · have h2 := Nat.eq_of_beq_eq_true h2
      subst h2
      have := e1 a a (Nat.le_refl _)
      rw [this, Nat.sub_self, Nat.zero_mul, sg_zero] at h
      unfold RI at h
      rw [rI_0] at h
      exact h (limK_pos k)
  · have h1 : n < a := Nat.le_of_ble_eq_true h1
    rw [e1 a n (Nat.le_of_lt h1)] at h
    exact rep_dif4 ok hP h.sg (Nat.lt_of_le_of_lt (Nat.mul_le_mul_right _ (Nat.sub_le _ _)) ha)
theorem rep_dif {k : FloatKind} {fb H H2 sc EL w m s n t : Nat} {b : Bool} (ok : KOk k fb H H2 sc EL) (h : RI k w (sg b (m * 2 ^ s) + sg (!b) (n * 2 ^ t))) (ha : m * 2 ^ s < limK k) (hn : n * 2 ^ t < limK k) : Rep k w (vdif H H2 EL b m s n t) := by
  have key : ∀ m s t, t ≤ s → m * 2 ^ (s - t) * 2 ^ t = m * 2 ^ s := fun m s t hst => by
    rw [Nat.mul_assoc, ← Nat.pow_add, show s - t + t = s by omega]
  unfold vdif
  cases h1 : Nat.ble t s
  · have hst : s ≤ t := by
      rcases Nat.le_total s t with h | h
      · exact h
      · rw [Nat.ble_eq_true_of_le h] at h1; cases h1
    rw [bx_eq, Bool.xor_true]
    refine rep_dif3 (a := n * 2 ^ (t - s)) ok rfl ?_ (by rw [key _ _ _ hst]; exact hn) ha
    rw [key _ _ _ hst, Bool.not_not, Int.add_comm]
    exact h
  · have hst : t ≤ s := Nat.le_of_ble_eq_true h1
    refine rep_dif3 (a := m * 2 ^ (s - t)) ok rfl ?_ (by rw [key _ _ _ hst]; exact ha) hn
    rw [key _ _ _ hst]
    exact h
theorem Fin.exact {k : FloatKind} {w : Nat} {n : Int} (h : Fin k w n) : rI k n 1 = n := by
  obtain ⟨m, p, h1, h2⟩ := h.small
  exact rI_exact h1 h2
theorem rep_addI {k : FloatKind} {fb H H2 sc EL w : Nat} {x y : Nat} {a b : V} (ok : KOk k fb H H2 sc EL) (hx : Rep k x a) (hy : Rep k y b)
    (h : ∀ p q : Int, Fin k x p → Fin k y q → RI k w (p + q)) : Rep k w (vaddG H H2 EL a b) := by
  cases a with
  | bad => trivial
  | zero =>
    cases b with
    | bad => trivial
    | zero =>
      have := h _ _ hx hy
      unfold RI at this
      rw [Int.add_zero, rI_0] at this
      exact this (limK_pos k)
    | num c n t =>
      have := h _ _ hx hy
      unfold RI at this
      have hy' : Fin k y (sg c (n * 2 ^ t)) := hy
      rw [Int.zero_add, hy'.exact] at this
      exact this hy'.lt_lim
  | num b m s => cases b with
    | _ => cases ‹V› with
      | bad => trivial
      | zero =>
        have := h _ _ hx hy
        unfold RI at this
        rw [Int.add_zero, Fin.exact hx] at this
        exact this (Fin.lt_lim hx)
      | num c n t =>
        have hz := h _ _ hx hy
        have l1 := Fin.lt_lim hx
        have l2 := Fin.lt_lim hy
        rw [sg_abs] at l1 l2
        show Rep k w (Bool.rec (vsum H H2 EL _ m s n t) (vdif H H2 EL _ m s n t) (bx _ c))
        rw [bx_eq]
        first
        | (cases c
           · refine rep_sum ok (RI.sg ?_)
             unfold sg at hz ⊢
             simpa using hz
           · exact rep_dif ok hz l1 l2)
        | (cases c
           · exact rep_dif ok hz l1 l2
           · refine rep_sum ok (RI.sg ?_)
             unfold sg at hz ⊢
             simp at hz ⊢
             rw [Int.neg_add]
             exact hz)
theorem rep_neg {k : FloatKind} {x : Nat} {a : V} (hx : Rep k x a) : Rep k (fneg k x) (vneg a) := by
  cases a with
  | bad => trivial
  | zero => exact Fin.neg hx
  | num b m s =>
    show Fin k _ (sg (bx b true) _)
    rw [bx_eq, Bool.xor_true, sg_not]
    exact Fin.neg hx
theorem rep_subG {k : FloatKind} {fb H H2 sc EL x y : Nat} {a b : V} (ok : KOk k fb H H2 sc EL) (hx : Rep k x a) (hy : Rep k y b) : Rep k (fop .sub k x y) (vsubG H H2 EL a b) := by
  have key : ∀ v : Int, Fin k y v → Rep k (fop .sub k x y) (vaddG H H2 EL a (vneg b)) := fun v hv =>
    rep_addI (y := fneg k y) ok hx (rep_neg hy) fun p q hp hq hl => by
      have e := hv.neg.unique hq
      subst e
      rw [← Int.sub_eq_add_neg] at hl ⊢
      exact Fin.sub hp hv hl
  cases b with
  | bad => cases a <;> trivial
  | zero => exact key _ hy
  | num c n t => exact key _ hy
end Go.Fw

/-
  Floats evaluated by the kernel: conversions, roots, comparisons; the operations of 32 and of 64 bits.
-/
namespace Go.Fw
open Ieee (Datum Format Toward signed)
theorem ok32 : KOk .f32 23 8388608 16777216 149 252 := ⟨rfl, by decide, by decide, rfl, by decide, by decide⟩
noncomputable def vsub (x y : V) : V := vsubG 8388608 16777216 252 x y
noncomputable def vmul (x y : V) : V := vmulG 23 8388608 16777216 149 252 140737488355328 x y
noncomputable def vquo (x y : V) : V := vquoG 23 8388608 16777216 149 252 x y
theorem rep_sub {x y : Nat} {a b : V} (hx : Rep .f32 x a) (hy : Rep .f32 y b) : Rep .f32 (fop .sub .f32 x y) (vsub a b) := rep_subG ok32 hx hy
theorem rep_mul {x y : Nat} {a b : V} (hx : Rep .f32 x a) (hy : Rep .f32 y b) : Rep .f32 (fop .mul .f32 x y) (vmul a b) := rep_mulG ok32 hx hy
theorem rep_quo {x y : Nat} {a b : V} (hx : Rep .f32 x a) (hy : Rep .f32 y b) : Rep .f32 (fop .quo .f32 x y) (vquo a b) := rep_quoG ok32 hx hy
noncomputable def vgood (x : V) : Bool := V.rec true (fun _ _ _ => true) false x
theorem exists_root (X : Nat) : ∃ S, S * S ≤ X ∧ X < (S + 1) * (S + 1) := ⟨_, rootFrom_ok X⟩
noncomputable def vmag (x : V) : Nat := V.rec 0 (fun _ m s => Nat.mul m (Nat.pow 2 s)) 0 x
noncomputable def vlow (x : V) : Bool := V.rec false (fun b _ _ => b) false x
theorem rep_val {k : FloatKind} {x : Nat} {a : V} (hx : Rep k x a) (h : vgood a = true) : Fin k x (sg (vlow a) (vmag a)) := by
  cases a with
  | bad => cases h
  | zero => exact hx
  | num b m s => exact hx
def vofD (k : FloatKind) : Datum → V
  | .number s m i => if m = 0 then .zero else .num s m (i - k.format.leastPlace).toNat
  | _ => .bad
def vof (k : FloatKind) (w : Nat) : V := vofD k (k.format.read w)
theorem rep_of (k : FloatKind) (w : Nat) : Rep k w (vof k w) := by
  unfold vof
  cases h : k.format.read w with
  | nan s t => trivial
  | infinity s => trivial
  | number s m i =>
    have hl : k.format.leastPlace ≤ i := by
      rcases (read_number h).2.1 with h1 | h1
      · omega
      · exact h1.2
    unfold vofD
    simp only
    by_cases h0 : m = 0
    · subst h0
      rw [if_pos rfl]
      exact ⟨s, 0, i, h, hl, by rw [signed_sg, Nat.zero_mul, sg_zero]⟩
    · rw [if_neg h0]
      exact ⟨s, m, i, h, hl, by rw [signed_sg]⟩
end Go.Fw

/-
  Floats that are finite numbers, told as fractions; how far from the exact results the operations' are.
-/
namespace Go.Fw
def Near (d e : Rat) : Prop := -e ≤ d ∧ d ≤ e
theorem Near.nonneg {d e : Rat} (h : Near d e) : 0 ≤ e := by unfold Near at h; grind
theorem Near.add {a b A B : Rat} (h : Near a A) (h' : Near b B) : Near (a + b) (A + B) := by unfold Near at *; grind
theorem Near.sub {a b A B : Rat} (h : Near a A) (h' : Near b B) : Near (a - b) (A + B) := by unfold Near at *; grind
theorem Near.mono {a A B : Rat} (h : Near a A) (h' : A ≤ B) : Near a B := by unfold Near at *; grind
theorem rqN_near {A D : Nat} (hD : 0 < D) : 2 * (rqN A D * D) ≤ 2 * A + D ∧ 2 * A ≤ 2 * (rqN A D * D) + D := by
  unfold rqN
  have h1 := Nat.div_add_mod A D
  have h2 := Nat.mod_lt A hD
  generalize A / D = q at *
  generalize A % D = r at *
  cases h : (Nat.blt D (2 * r) || (Nat.beq D (2 * r) && Nat.beq (q % 2) 1))
  · have : ¬ D < 2 * r := fun h' => by
      rw [show Nat.blt D (2 * r) = true by rw [Nat.blt_eq]; exact h'] at h; cases h
    rw [cond_false, Nat.mul_comm q D]
    show 2 * (D * q) ≤ _ ∧ _ ≤ 2 * (D * q) + D
    omega
  · have : D ≤ 2 * r := by
      simp only [Bool.or_eq_true, Bool.and_eq_true, Nat.blt_eq, Nat.beq_eq] at h
      omega
    rw [cond_true, Nat.add_mul, Nat.mul_comm q D]; omega
theorem rq_near {fb A B : Nat} (hB : 0 < B) : rq fb A B * B * 2 ^ (fb + 1) ≤ A * 2 ^ (fb + 1) + (A + B * 2 ^ fb) ∧ A * 2 ^ (fb + 1) ≤ rq fb A B * B * 2 ^ (fb + 1) + (A + B * 2 ^ fb) := by
  have hp := Nat.two_pow_pos (rqS fb A B)
  have hD : 0 < B * 2 ^ rqS fb A B := Nat.mul_pos hB hp
  obtain ⟨h1, h2⟩ := rqN_near (A := A) hD
  have e : rq fb A B * B = rqN A (B * 2 ^ rqS fb A B) * (B * 2 ^ rqS fb A B) := by
    unfold rq
    rw [Nat.mul_assoc, Nat.mul_comm (2 ^ rqS fb A B) B]
  rw [e]
  have h3 : B * 2 ^ rqS fb A B * 2 ^ fb ≤ A + B * 2 ^ fb := by
    rcases Nat.eq_zero_or_pos (rqS fb A B) with h | h
    · rw [h, Nat.pow_zero, Nat.mul_one]; omega
    · have := rqS_lo h
      have := (Nat.le_div_iff_mul_le hD).1 this
      rw [Nat.mul_comm] at this
      omega
  generalize rqN A (B * 2 ^ rqS fb A B) * (B * 2 ^ rqS fb A B) = N at *
  generalize B * 2 ^ rqS fb A B = D at *
  rw [Nat.pow_succ]
  have a1 := Nat.mul_le_mul_right (2 ^ fb) h1
  have a2 := Nat.mul_le_mul_right (2 ^ fb) h2
  rw [Nat.add_mul] at a1 a2
  have e1 : N * (2 ^ fb * 2) = 2 * N * 2 ^ fb := by rw [Nat.mul_comm (2 ^ fb) 2, ← Nat.mul_assoc, Nat.mul_comm N 2]
  have e2 : A * (2 ^ fb * 2) = 2 * A * 2 ^ fb := by rw [Nat.mul_comm (2 ^ fb) 2, ← Nat.mul_assoc, Nat.mul_comm A 2]
  rw [e1, e2]
  omega
def ur (k : FloatKind) : Rat := 1 / ((2 ^ (fbK k + 1) : Nat) : Rat)
def hf : Rat := 1 / 2
theorem hf2 : hf + hf = 1 := by decide +kernel
def unit (k : FloatKind) : Rat := ((2 ^ scK k : Nat) : Rat)
def tiny (k : FloatKind) : Rat := 1 / (2 * unit k)
theorem unit_pos (k : FloatKind) : 0 < unit k := Rat.natCast_pos.2 (Nat.two_pow_pos _)
theorem ur_pos (k : FloatKind) : 0 < ur k := by
  unfold ur
  rw [Rat.lt_div_iff (Rat.natCast_pos.2 (Nat.two_pow_pos _)), Rat.zero_mul]; decide
theorem tiny_unit (k : FloatKind) : tiny k * unit k = hf := by
  unfold tiny
  have := unit_pos k
  have h : (2 * unit k) ≠ 0 := by grind
  have := Rat.div_mul_cancel (a := 1) h
  have := hf2
  grind
theorem tiny_pos (k : FloatKind) : 0 < tiny k := by
  have h1 := unit_pos k
  have h2 := tiny_unit k
  by_cases h : 0 < tiny k
  · exact h
  · have := Rat.mul_le_mul_of_nonneg_right (show tiny k ≤ 0 by grind) (show 0 ≤ unit k by grind)
    have := hf2
    grind
def Val (k : FloatKind) (w : Nat) (q : Rat) : Prop := ∃ n : Int, Fin k w n ∧ (n : Rat) = q * unit k
theorem Val.unique {k : FloatKind} {w : Nat} {a b : Rat} (h : Val k w a) (h' : Val k w b) : a = b := by
  obtain ⟨n, h1, h2⟩ := h
  obtain ⟨m, h3, h4⟩ := h'
  rw [h1.unique h3, h4] at h2
  have := unit_pos k
  have h5 : (a - b) * unit k = 0 := by grind
  rcases Rat.mul_eq_zero.1 h5 with h | h <;> grind
theorem Fin.val {k : FloatKind} {w : Nat} {n : Int} (h : Fin k w n) : Val k w ((n : Rat) / unit k) := ⟨n, h, by
  have := unit_pos k
  rw [Rat.div_mul_cancel (by grind)]⟩
theorem rI_near {k : FloatKind} {z : Int} {D : Nat} {x X : Rat} (hD : 0 < D) (hx : x * (D : Rat) = (z : Rat)) (hX : Near x X) : Near ((rI k z D : Rat) - x) (X * ur k + hf) := by
  have hd : (0 : Rat) < (D : Rat) := Rat.natCast_pos.2 hD
  obtain ⟨h1, h2⟩ := rq_near (fb := fbK k) (A := z.natAbs) hD
  have h1 := Rat.natCast_le_natCast.2 h1
  have h2 := Rat.natCast_le_natCast.2 h2
  simp only [Rat.natCast_mul, Rat.natCast_add] at h1 h2
  have hP : (0 : Rat) < ((2 ^ fbK k : Nat) : Rat) := Rat.natCast_pos.2 (Nat.two_pow_pos _)
  have hP1 : ((2 ^ (fbK k + 1) : Nat) : Rat) = 2 * ((2 ^ fbK k : Nat) : Rat) := by
    rw [Nat.pow_succ', Rat.natCast_mul]; rfl
  have hu : ur k * (2 * ((2 ^ fbK k : Nat) : Rat)) = 1 := by
    unfold ur
    rw [hP1, Rat.div_mul_cancel (by grind)]
  rw [hP1] at h1 h2
  have hh := hf2
  have main : ∀ y : Rat, y * (D : Rat) = (z.natAbs : Rat) → y ≤ X → Near ((rq (fbK k) z.natAbs D : Rat) - y) (X * ur k + hf) := fun y hy hyX => by
    rw [← hy] at h1 h2
    generalize (rq (fbK k) z.natAbs D : Rat) = r at *
    generalize ((2 ^ fbK k : Nat) : Rat) = P at *
    generalize (D : Rat) = d at *
    have hX0 := hX.nonneg
    have a1 : (d * P) * (2 * r) ≤ (d * P) * (2 * y + y * (ur k * 2) + 1) := by
      have : y * d = y * d * (ur k * (2 * P)) := by rw [hu, Rat.mul_one]
      grind
    have a2 : (d * P) * (2 * y) ≤ (d * P) * (2 * r + y * (ur k * 2) + 1) := by
      have : y * d = y * d * (ur k * (2 * P)) := by rw [hu, Rat.mul_one]
      grind
    have hdP := Rat.mul_pos hd hP
    have a1 := Rat.le_of_mul_le_mul_left a1 hdP
    have a2 := Rat.le_of_mul_le_mul_left a2 hdP
    have hur := ur_pos k
    have := Rat.mul_le_mul_of_nonneg_right hyX (Rat.le_of_lt hur)
    unfold Near
    constructor <;> grind
  unfold Near at hX
  by_cases hz : z < 0
  · have hn : (z.natAbs : Rat) = -(z : Rat) := by
      have e : (z.natAbs : Int) = -z := by omega
      rw [← Rat.intCast_natCast, e, Rat.intCast_neg]
    have := main (-x) (by rw [hn]; grind) (by grind)
    unfold rI sg
    rw [decide_eq_true hz, if_pos rfl, Rat.intCast_neg, Rat.intCast_natCast]
    unfold Near at *
    constructor <;> grind
  · have hn : (z.natAbs : Rat) = (z : Rat) := by
      have e : (z.natAbs : Int) = z := by omega
      rw [← Rat.intCast_natCast, e]
    have := main x (by rw [hn]; grind) (by grind)
    unfold rI sg
    rw [decide_eq_false hz, if_neg (by decide), Rat.intCast_natCast]
    exact this
def most : Rat := 2 ^ 100
theorem lim_most (k : FloatKind) : most * 2 * unit k + 1 ≤ ((limK k : Nat) : Rat) := by cases k <;> decide +kernel
theorem ur_half (k : FloatKind) : ur k ≤ hf := by cases k <;> decide +kernel
theorem rI_lim {k : FloatKind} {z : Int} {D : Nat} {x X : Rat} (hD : 0 < D) (hx : x * (D : Rat) = (z : Rat)) (hX : Near x (X * unit k)) (hm : X ≤ most) : (rI k z D).natAbs < limK k := by
  have h := rI_near (k := k) hD hx hX
  have hu := unit_pos k
  have h0 := hX.nonneg
  have h1 := lim_most k
  have h2 := ur_half k
  have h4 := Rat.mul_le_mul_of_nonneg_left h2 h0
  have h5 := Rat.mul_le_mul_of_nonneg_right hm (Rat.le_of_lt hu)
  have hh := hf2
  have h6 : (0 : Rat) ≤ most := by decide
  have h7 := Rat.mul_nonneg h6 (Rat.le_of_lt hu)
  have h8 : X * unit k * hf + X * unit k * hf = X * unit k := by rw [← Rat.mul_add, hh, Rat.mul_one]
  unfold Near at *
  have k1 : (rI k z D : Rat) < ((limK k : Nat) : Rat) := by grind
  have k2 : -((limK k : Nat) : Rat) < (rI k z D : Rat) := by grind
  rw [← Rat.intCast_natCast] at k1 k2
  rw [← Rat.intCast_neg] at k2
  have k1 := Rat.intCast_lt_intCast.1 k1
  have k2 := Rat.intCast_lt_intCast.1 k2
  omega
theorem Val.neg {k : FloatKind} {x : Nat} {a : Rat} (hx : Val k x a) : Val k (fneg k x) (-a) := by
  obtain ⟨n, h1, h2⟩ := hx
  exact ⟨-n, h1.neg, by rw [Rat.intCast_neg, h2]; grind⟩
end Go.Fw

/-
  Roots, widening and narrowing as fractions.
-/
namespace Go.Fw
theorem sc_add : scK .f64 = scK .f32 + scD := by rw [scD_eq]; rfl
theorem unit_64 : unit .f64 = unit .f32 * ((2 ^ scD : Nat) : Rat) := by
  unfold unit
  rw [← Rat.natCast_mul, ← Nat.pow_add, sc_add]
theorem Val.widen {x : Nat} {a : Rat} (hx : Val .f32 x a) : Val .f64 (fcvt .f32 .f64 x) a := by
  obtain ⟨n, h1, h2⟩ := hx
  refine ⟨_, Fin.widen scD_eq h1, ?_⟩
  rw [Rat.intCast_mul, h2, Rat.intCast_natCast]
  rw [unit_64]
  grind
def e53 : Rat := 1 / 9007199254740992
theorem e53_pos : 0 < e53 := by decide +kernel
theorem e53_small : e53 * 1024 ≤ 1 := by decide +kernel
theorem sq_mono {a b : Rat} (h : 0 ≤ a) (h' : a ≤ b) : a * a ≤ b * b := by
  have h1 := Rat.mul_le_mul_of_nonneg_right h' h
  have h2 := Rat.mul_le_mul_of_nonneg_left h' (Rat.le_trans h h')
  exact Rat.le_trans h1 h2
theorem root_core {r S X e : Rat} (he : 0 < e) (hs : e * 1024 ≤ 1) (hS : 1 ≤ S * e) (h1 : S * S ≤ X) (h2 : X ≤ (S + 1) * (S + 1)) (h3 : r ≤ S * (1 + e) + 2) (h4 : S * (1 - e) - 1 ≤ r) (hS0 : 0 < S) : Near (r * r - X) (X * (8 * e)) := by
  have a1 : r ≤ S * (1 + 3 * e) := by grind
  have a2 : S * (1 - 2 * e) ≤ r := by grind
  have hSe := Rat.mul_pos hS0 he
  have hS2e : 2 * e ≤ 1 := by grind
  have hlow : 0 ≤ S * (1 - 2 * e) := Rat.mul_nonneg (Rat.le_of_lt hS0) (by grind)
  have a3 := sq_mono (Rat.le_trans hlow a2) a1
  have a4 := sq_mono hlow a2
  have hSS := Rat.mul_pos hS0 hS0
  have hSSe := Rat.mul_pos hSS he
  have ee : (S * S * e) * (e * 1024) ≤ (S * S * e) * 1 := Rat.mul_le_mul_of_nonneg_left hs (Rat.le_of_lt hSSe)
  have b1 : r * r ≤ S * S + 7 * (S * S * e) := by grind
  have b2 : S * S - 4 * (S * S * e) ≤ r * r := by
    have : 0 ≤ S * S * e * e := Rat.le_of_lt (Rat.mul_pos hSSe he)
    grind
  have hXe : S * S * e ≤ X * e := Rat.mul_le_mul_of_nonneg_right h1 (Rat.le_of_lt he)
  have c1 : X ≤ S * S + 3 * (S * S * e) := by
    have k1 : S ≤ S * S * e := by
      have := Rat.mul_le_mul_of_nonneg_left hS (Rat.le_of_lt hS0)
      grind
    have k2 : 1 ≤ S := by
      have : S * e * 1024 ≤ S := by
        have := Rat.mul_le_mul_of_nonneg_left hs (Rat.le_of_lt hS0)
        grind
      grind
    grind
  unfold Near
  constructor <;> grind
theorem Val.root64 {x : Nat} {a : Rat} (hx : Val .f64 x a) (h0 : a = 0 ∨ (1 : Rat) / 2 ^ 200 ≤ a) : ∃ s, Val .f64 (fsqrt x) s ∧ 0 ≤ s ∧ Near (s * s - a) (a * (8 * e53)) := by
  obtain ⟨n, h1, h2⟩ := hx
  have hu := unit_pos .f64
  rcases h0 with h0 | h0
  · subst h0
    rw [Rat.zero_mul] at h2
    have hn : n = 0 := Rat.intCast_eq_zero_iff.1 h2
    subst hn
    have h0 := Fin.sqrt (x := x) (n := 0) (X := 0) (S := 0) h1 (by rw [Nat.zero_mul]) (by omega) (by omega)
    have e0 : (rq 52 (2 * 0 + (0 * 0 != 0).toNat) 2 : Nat) = 0 := rq_zero _ _
    rw [e0] at h0
    exact ⟨0, ⟨0, h0, by rw [Rat.zero_mul]; rfl⟩, by decide, by unfold Near; constructor <;> grind⟩
  · have hpos : (0 : Rat) < (n : Rat) := by
      rw [h2]
      exact Rat.mul_pos (by have : (0 : Rat) < 1 / 2 ^ 200 := by decide +kernel
                            grind) hu
    have hn0 : 0 < n := Rat.intCast_pos.1 hpos
    obtain ⟨m, rfl⟩ : ∃ m : Nat, n = (m : Int) := ⟨n.toNat, (Int.toNat_of_nonneg (by omega)).symm⟩
    obtain ⟨S, hS, hS'⟩ := exists_root (m * 2 ^ scK .f64)
    have hq := Fin.sqrt h1 rfl hS hS'
    generalize hd : (S * S != m * 2 ^ scK .f64).toNat = d at hq
    have hd1 : d ≤ 1 := by rw [← hd]; cases (S * S != m * 2 ^ scK .f64) <;> decide
    obtain ⟨q1, q2⟩ := rq_near (fb := 52) (A := 2 * S + d) (B := 2) (by omega)
    generalize rq 52 (2 * S + d) 2 = r at *
    have hXr : ((m * 2 ^ scK .f64 : Nat) : Rat) = a * unit .f64 * unit .f64 := by
      rw [Rat.natCast_mul, ← Rat.intCast_natCast m, h2]; rfl
    have big : (2 : Rat) ^ 120 ≤ (S : Rat) := by
      by_cases hb : (2 : Rat) ^ 120 ≤ (S : Rat)
      · exact hb
      · exfalso
        have hlt : (S : Rat) < 2 ^ 120 := by grind
        have hlt' : S < 2 ^ 120 := by
          have : (S : Rat) < ((2 ^ 120 : Nat) : Rat) := by
            rw [show ((2 ^ 120 : Nat) : Rat) = 2 ^ 120 by decide +kernel]; exact hlt
          exact Rat.natCast_lt_natCast.1 this
        have : (S + 1) * (S + 1) ≤ 2 ^ 120 * 2 ^ 120 := Nat.mul_le_mul hlt' hlt'
        have h5 : m * 2 ^ scK .f64 < 2 ^ 240 := Nat.lt_of_lt_of_le hS' (by rw [← Nat.pow_add] at this; exact this)
        have h6 := Rat.natCast_lt_natCast.2 h5
        rw [hXr] at h6
        have k1 := Rat.mul_le_mul_of_nonneg_right h0 (Rat.le_of_lt (Rat.mul_pos hu hu))
        have k2 : ((2 ^ 240 : Nat) : Rat) ≤ 1 / 2 ^ 200 * (unit .f64 * unit .f64) := by decide +kernel
        grind
    have hS0 : (0 : Rat) < (S : Rat) := by
      have : (0 : Rat) < 2 ^ 120 := by decide +kernel
      grind
    have core : Near ((r : Rat) * r - ((m * 2 ^ scK .f64 : Nat) : Rat)) (((m * 2 ^ scK .f64 : Nat) : Rat) * (8 * e53)) := by
      refine root_core (S := (S : Rat)) e53_pos e53_small ?_ ?_ ?_ ?_ ?_ hS0
      · have := Rat.mul_le_mul_of_nonneg_right big (Rat.le_of_lt e53_pos)
        have k : (1 : Rat) ≤ 2 ^ 120 * e53 := by decide +kernel
        grind
      · have := Rat.natCast_le_natCast.2 hS
        rw [Rat.natCast_mul] at this
        exact this
      · have := Rat.natCast_le_natCast.2 (Nat.le_of_lt hS')
        rw [Rat.natCast_mul (S + 1), Rat.natCast_add] at this
        exact this
      · have q1 := Rat.natCast_le_natCast.2 q1
        have hdr := Rat.natCast_le_natCast.2 hd1
        simp only [Rat.natCast_mul, Rat.natCast_add] at q1
        have p1 : ((2 ^ (52 + 1) : Nat) : Rat) * e53 = 1 := by decide +kernel
        have p2 : ((2 ^ 52 : Nat) : Rat) * e53 = hf := by decide +kernel
        have hh := hf2
        have k1 := Rat.mul_le_mul_of_nonneg_right q1 (Rat.le_of_lt e53_pos)
        have d0 : (0 : Rat) ≤ (d : Rat) := Rat.natCast_nonneg
        have l1 : ((2 : Nat) : Rat) = 2 := rfl
        have l2 : ((1 : Nat) : Rat) = 1 := rfl
        rw [l1] at k1
        rw [l2] at hdr
        generalize ((2 ^ (52 + 1) : Nat) : Rat) = P at *
        generalize ((2 ^ 52 : Nat) : Rat) = Q at *
        have es := e53_small
        have ep := e53_pos
        have g1 : (r : Rat) * 2 * P * e53 = (r : Rat) * 2 := by rw [Rat.mul_assoc, p1, Rat.mul_one]
        have g2 : (2 * (S : Rat) + (d : Rat)) * P * e53 = 2 * (S : Rat) + (d : Rat) := by rw [Rat.mul_assoc, p1, Rat.mul_one]
        have g3 : 2 * Q * e53 = 1 := by rw [Rat.mul_assoc, p2]; grind
        have g4 : (d : Rat) * e53 ≤ 1 * e53 := Rat.mul_le_mul_of_nonneg_right hdr (Rat.le_of_lt ep)
        grind
      · have q2 := Rat.natCast_le_natCast.2 q2
        have hdr := Rat.natCast_le_natCast.2 hd1
        simp only [Rat.natCast_mul, Rat.natCast_add] at q2
        have p1 : ((2 ^ (52 + 1) : Nat) : Rat) * e53 = 1 := by decide +kernel
        have p2 : ((2 ^ 52 : Nat) : Rat) * e53 = hf := by decide +kernel
        have hh := hf2
        have k1 := Rat.mul_le_mul_of_nonneg_right q2 (Rat.le_of_lt e53_pos)
        have d0 : (0 : Rat) ≤ (d : Rat) := Rat.natCast_nonneg
        have l1 : ((2 : Nat) : Rat) = 2 := rfl
        have l2 : ((1 : Nat) : Rat) = 1 := rfl
        rw [l1] at k1
        rw [l2] at hdr
        generalize ((2 ^ (52 + 1) : Nat) : Rat) = P at *
        generalize ((2 ^ 52 : Nat) : Rat) = Q at *
        have es := e53_small
        have ep := e53_pos
        have g1 : (r : Rat) * 2 * P * e53 = (r : Rat) * 2 := by rw [Rat.mul_assoc, p1, Rat.mul_one]
        have g2 : (2 * (S : Rat) + (d : Rat)) * P * e53 = 2 * (S : Rat) + (d : Rat) := by rw [Rat.mul_assoc, p1, Rat.mul_one]
        have g3 : 2 * Q * e53 = 1 := by rw [Rat.mul_assoc, p2]; grind
        have g4 : (d : Rat) * e53 ≤ 1 * e53 := Rat.mul_le_mul_of_nonneg_right hdr (Rat.le_of_lt ep)
        grind
    refine ⟨_, hq.val, ?_, ?_⟩
    · rw [Rat.intCast_natCast]
      refine Rat.le_of_mul_le_mul_right (c := unit .f64) ?_ hu
      rw [Rat.div_mul_cancel (by grind), Rat.zero_mul]
      exact Rat.natCast_nonneg
    · rw [Rat.intCast_natCast]
      have hc : (r : Rat) / unit .f64 * unit .f64 = (r : Rat) := Rat.div_mul_cancel (by grind)
      generalize (r : Rat) / unit .f64 = c at *
      rw [hXr, ← hc] at core
      have huu := Rat.mul_pos hu hu
      unfold Near at *
      constructor
      · refine Rat.le_of_mul_le_mul_right (c := unit .f64 * unit .f64) ?_ huu; grind
      · refine Rat.le_of_mul_le_mul_right (c := unit .f64 * unit .f64) ?_ huu; grind
end Go.Fw

/-
  32-bit numbers near exact fractions: bounds in parts of 2 ^ 60, which the kernel computes.
-/
namespace Go.Fw
theorem le_of_sq {a b : Rat} (hb : 0 ≤ b) (h : a * a ≤ b * b) : a ≤ b := by
  by_cases h' : a ≤ b
  · exact h'
  · have h1 : b < a := by grind
    have h2 := Rat.mul_lt_mul_of_pos_right h1 (show 0 < a by grind)
    have h3 := Rat.mul_le_mul_of_nonneg_left (Rat.le_of_lt h1) hb
    grind
end Go.Fw

/-
  Quarters: numbers that are exact; words told by their values.
-/
namespace Go.Fw
noncomputable def isV (k : FloatKind) (v : V) (q : Rat) : Bool := vgood v && decide (((sg (vlow v) (vmag v) : Int) : Rat) = q * unit k)
theorem Val.of_rep {k : FloatKind} {w : Nat} {v : V} {q : Rat} (hr : Rep k w v) (h : isV k v q = true) : Val k w q := by
  unfold isV at h
  simp only [Bool.and_eq_true, decide_eq_true_eq] at h
  exact ⟨_, rep_val hr h.1, h.2⟩
theorem Val.of_vof {k : FloatKind} {w : Nat} {q : Rat} (h : isV k (vof k w) q = true) : Val k w q := .of_rep (rep_of k w) h
theorem forder_lt {k : FloatKind} {x y : Nat} {a b : Rat} (hx : Val k x a) (hy : Val k y b) (h : a < b) : forder k x y = some .lt := by
  obtain ⟨n, h1, h2⟩ := hx
  obtain ⟨m, h3, h4⟩ := hy
  rw [Fin.order h1 h3]
  have : (n : Rat) < (m : Rat) := by rw [h2, h4]; exact Rat.mul_lt_mul_of_pos_right h (unit_pos k)
  have := Rat.intCast_lt_intCast.1 this
  show some (compareOfLessAndEq _ _) = _
  unfold compareOfLessAndEq
  rw [if_pos this]
theorem forder_eq {k : FloatKind} {x y : Nat} {a : Rat} (hx : Val k x a) (hy : Val k y a) : forder k x y = some .eq := by
  obtain ⟨n, h1, h2⟩ := hx
  obtain ⟨m, h3, h4⟩ := hy
  rw [Fin.order h1 h3]
  have e : n = m := Rat.intCast_inj.1 (by rw [h2, h4])
  subst e
  show some (compareOfLessAndEq _ _) = _
  unfold compareOfLessAndEq
  rw [if_neg (Int.lt_irrefl _), if_pos rfl]
theorem forder_gt {k : FloatKind} {x y : Nat} {a b : Rat} (hx : Val k x a) (hy : Val k y b) (h : b < a) : forder k x y = some .gt := by
  obtain ⟨n, h1, h2⟩ := hx
  obtain ⟨m, h3, h4⟩ := hy
  rw [Fin.order h1 h3]
  have : (m : Rat) < (n : Rat) := by rw [h2, h4]; exact Rat.mul_lt_mul_of_pos_right h (unit_pos k)
  have := Rat.intCast_lt_intCast.1 this
  show some (compareOfLessAndEq _ _) = _
  unfold compareOfLessAndEq
  rw [if_neg (by omega), if_neg (by omega)]
theorem fmax_val {k : FloatKind} {x y : Nat} {a b : Rat} (hx : Val k x a) (hy : Val k y b) : Val k (fmax k x y) (if a ≤ b then b else a) := by
  unfold fmax
  by_cases h1 : a < b
  · rw [forder_lt hx hy h1, if_pos (Rat.le_of_lt h1)]; exact hy
  · by_cases h2 : b < a
    · rw [forder_gt hx hy h2, if_neg (by grind)]; exact hx
    · have e : a = b := by grind
      subst e
      rw [forder_eq hx hy, if_pos Rat.le_refl]
      simp only
      split <;> assumption
end Go.Fw

/-
  Quotients as fractions; numbers that are not below nought.
-/
namespace Go.Fw
theorem sign_natAbs (m : Int) : m.sign * m = (m.natAbs : Int) := by
  rcases Int.lt_trichotomy m 0 with h | h | h
  · rw [Int.sign_eq_neg_one_of_neg h]; omega
  · subst h; rfl
  · rw [Int.sign_eq_one_of_pos h]; omega
theorem sqn (t : Rat) : 0 ≤ t * t := by
  by_cases h : 0 ≤ t
  · exact Rat.mul_nonneg h h
  · have := Rat.mul_nonneg (show 0 ≤ -t by grind) (show 0 ≤ -t by grind); grind
def b1 : Nat := 1152921504606846976
end Go.Fw

/-
  Rounding as a function of fractions: a float operation's number hangs on its arguments' numbers alone.
-/
namespace Go.Fw
theorem mul_den (q : Rat) : q * (q.den : Rat) = (q.num : Rat) := by
  have h := Rat.mkRat_self q
  rw [Rat.mkRat_eq_div] at h
  have hd : (q.den : Rat) ≠ 0 := by have := Rat.natCast_pos.2 q.den_pos; grind
  have := Rat.div_mul_cancel (a := (q.num : Rat)) hd
  rw [h] at this
  exact this
theorem rI_congr {k : FloatKind} {z z' : Int} {D D' : Nat} (hD : 0 < D) (hD' : 0 < D') (h : z * (D' : Int) = z' * (D : Int)) : rI k z D = rI k z' D' := by
  have hz : decide (z < 0) = decide (z' < 0) := by
    by_cases h1 : z < 0
    · have : z * (D' : Int) < 0 := Int.mul_neg_of_neg_of_pos h1 (by omega)
      rw [h] at this
      have h2 : z' < 0 := by
        by_cases h3 : z' < 0
        · exact h3
        · have := Int.mul_nonneg (show 0 ≤ z' by omega) (show 0 ≤ (D : Int) by omega); omega
      rw [decide_eq_true h1, decide_eq_true h2]
    · have h1' := Int.mul_nonneg (show 0 ≤ z by omega) (show 0 ≤ (D' : Int) by omega)
      rw [h] at h1'
      have h2 : ¬ z' < 0 := fun h3 => by
        have : z' * (D : Int) < 0 := Int.mul_neg_of_neg_of_pos h3 (by omega)
        omega
      rw [decide_eq_false h1, decide_eq_false h2]
  have hn : z.natAbs * D' = z'.natAbs * D := by
    have := congrArg Int.natAbs h
    simpa [Int.natAbs_mul] using this
  unfold rI
  rw [hz, rq_congr hD hD' hn]
def rnd (k : FloatKind) (q : Rat) : Rat := (rI k (q * unit k).num (q * unit k).den : Rat) / unit k
theorem rnd_unit (k : FloatKind) (q : Rat) : rnd k q * unit k = (rI k (q * unit k).num (q * unit k).den : Rat) := by
  have := unit_pos k
  exact Rat.div_mul_cancel (by grind)
theorem rnd_of {k : FloatKind} {z : Int} {D : Nat} {x : Rat} (hD : 0 < D) (hx : x * unit k * (D : Rat) = (z : Rat)) : (rI k z D : Rat) = rnd k x * unit k := by
  rw [rnd_unit]
  congr 1
  refine rI_congr hD (x * unit k).den_pos ?_
  have h1 := mul_den (x * unit k)
  have : ((z * ((x * unit k).den : Int) : Int) : Rat) = (((x * unit k).num * (D : Int) : Int) : Rat) := by
    rw [Rat.intCast_mul, Rat.intCast_mul, Rat.intCast_natCast, Rat.intCast_natCast, ← hx, ← h1]
    grind
  exact Rat.intCast_inj.1 this
theorem rI_valR {k : FloatKind} {w : Nat} {z : Int} {D : Nat} {x X : Rat} (hD : 0 < D) (hx : x * unit k * (D : Rat) = (z : Rat)) (hX : Near x X) (hm : X ≤ most) (h : (rI k z D).natAbs < limK k → Fin k w (rI k z D)) : Val k w (rnd k x) := by
  have hu := unit_pos k
  have hXu : Near (x * unit k) (X * unit k) := by
    unfold Near at *
    have := Rat.mul_le_mul_of_nonneg_right hX.1 (Rat.le_of_lt hu)
    have := Rat.mul_le_mul_of_nonneg_right hX.2 (Rat.le_of_lt hu)
    grind
  exact ⟨_, h (rI_lim hD hx hXu hm), rnd_of hD hx⟩
theorem rnd_near {k : FloatKind} {x X : Rat} (hX : Near x X) : Near (rnd k x - x) (X * ur k + tiny k) := by
  have hu := unit_pos k
  have hXu : Near (x * unit k) (X * unit k) := by
    unfold Near at *
    have := Rat.mul_le_mul_of_nonneg_right hX.1 (Rat.le_of_lt hu)
    have := Rat.mul_le_mul_of_nonneg_right hX.2 (Rat.le_of_lt hu)
    grind
  have hn := rI_near (k := k) (x * unit k).den_pos (mul_den (x * unit k)) hXu
  rw [← rnd_unit] at hn
  have ht := tiny_unit k
  have hh := hf2
  generalize rnd k x = c at *
  unfold Near at *
  constructor
  · refine Rat.le_of_mul_le_mul_right (c := unit k) ?_ hu; grind
  · refine Rat.le_of_mul_le_mul_right (c := unit k) ?_ hu; grind
theorem Val.addR {k : FloatKind} {x y : Nat} {a b X : Rat} (hx : Val k x a) (hy : Val k y b) (hX : Near (a + b) X) (hm : X ≤ most) : Val k (fop .add k x y) (rnd k (a + b)) := by
  obtain ⟨n, h1, h2⟩ := hx
  obtain ⟨m, h3, h4⟩ := hy
  exact rI_valR (z := n + m) (D := 1) (by omega) (by rw [Rat.intCast_add, h2, h4]; grind) hX hm (Fin.add h1 h3)
theorem Val.subR {k : FloatKind} {x y : Nat} {a b X : Rat} (hx : Val k x a) (hy : Val k y b) (hX : Near (a - b) X) (hm : X ≤ most) : Val k (fop .sub k x y) (rnd k (a - b)) := by
  obtain ⟨n, h1, h2⟩ := hx
  obtain ⟨m, h3, h4⟩ := hy
  exact rI_valR (z := n - m) (D := 1) (by omega) (by rw [Rat.intCast_sub, h2, h4]; grind) hX hm (Fin.sub h1 h3)
theorem Val.mulR {k : FloatKind} {x y : Nat} {a b X : Rat} (hx : Val k x a) (hy : Val k y b) (hX : Near (a * b) X) (hm : X ≤ most) : Val k (fop .mul k x y) (rnd k (a * b)) := by
  obtain ⟨n, h1, h2⟩ := hx
  obtain ⟨m, h3, h4⟩ := hy
  exact rI_valR (z := n * m) (D := 2 ^ scK k) (Nat.two_pow_pos _) (by rw [Rat.intCast_mul, h2, h4]; show a * b * unit k * unit k = _; grind) hX hm (Fin.mul h1 h3)
theorem Val.quoR {k : FloatKind} {x y : Nat} {a b X : Rat} (hx : Val k x a) (hy : Val k y b) (hb : b ≠ 0) (hX : Near (a / b) X) (hm : X ≤ most) : Val k (fop .quo k x y) (rnd k (a / b)) := by
  obtain ⟨n, h1, h2⟩ := hx
  obtain ⟨m, h3, h4⟩ := hy
  have hu := unit_pos k
  have hm0 : m ≠ 0 := fun e => by
    subst e
    have : b * unit k = 0 := by rw [← h4]; rfl
    rcases Rat.mul_eq_zero.1 this with h | h
    · exact hb h
    · grind
  have key : a / b * unit k * ((m.natAbs : Nat) : Rat) = ((n * m.sign * ((2 ^ scK k : Nat) : Int) : Int) : Rat) := by
    have e1 : ((m.natAbs : Nat) : Rat) = (m.sign : Rat) * (m : Rat) := by
      rw [← Rat.intCast_natCast, ← Rat.intCast_mul, sign_natAbs]
    rw [e1, Rat.intCast_mul, Rat.intCast_mul, Rat.intCast_natCast, h2, h4]
    have e2 : a / b * b = a := Rat.div_mul_cancel hb
    show a / b * unit k * ((m.sign : Rat) * (b * unit k)) = a * unit k * (m.sign : Rat) * unit k
    have : a / b * unit k * ((m.sign : Rat) * (b * unit k)) = (a / b * b) * unit k * (m.sign : Rat) * unit k := by grind
    rw [this, e2]
  exact rI_valR (D := m.natAbs) (by omega) key hX hm (Fin.quo h1 h3 hm0)
theorem rnd_zero (k : FloatKind) : rnd k 0 = 0 := by
  have h : (rI k 0 1 : Rat) = rnd k 0 * unit k := rnd_of (by omega) (by rw [Rat.zero_mul, Rat.zero_mul]; rfl)
  rw [show rI k 0 1 = 0 by unfold rI; rw [Int.natAbs_zero, rq_zero, sg_zero]] at h
  have hu := unit_pos k
  have h : rnd k 0 * unit k = 0 := h.symm
  rcases Rat.mul_eq_zero.1 h with h | h
  · exact h
  · grind
theorem sg_natAbs (n : Int) : sg (decide (n < 0)) n.natAbs = n := by
  unfold sg
  by_cases h : n < 0
  · rw [decide_eq_true h, if_pos rfl]; omega
  · rw [decide_eq_false h, if_neg (by decide)]; omega
theorem Val.rnd_self {k : FloatKind} {w : Nat} {a : Rat} (h : Val k w a) : rnd k a = a := by
  obtain ⟨n, h1, h2⟩ := h
  obtain ⟨m, p, h3, h4⟩ := h1.small
  have h5 : (rI k n 1 : Rat) = rnd k a * unit k := rnd_of (by omega) (by rw [← h2]; show (n : Rat) * ((1 : Nat) : Rat) = _; rw [show ((1 : Nat) : Rat) = 1 from rfl, Rat.mul_one])
  rw [show rI k n 1 = n from by unfold rI; rw [h3, rq_exact h4, ← h3]; exact sg_natAbs n, h2] at h5
  have hu := unit_pos k
  have : (rnd k a - a) * unit k = 0 := by grind
  rcases Rat.mul_eq_zero.1 this with h | h <;> grind
theorem Val.narrowR {x : Nat} {a X : Rat} (hx : Val .f64 x a) (hX : Near a X) (hm : X ≤ most) : Val .f32 (fcvt .f64 .f32 x) (rnd .f32 a) ∧ fcvtOk .f64 .f32 x = true := by
  obtain ⟨n, h1, h2⟩ := hx
  have key : a * unit .f32 * ((2 ^ scD : Nat) : Rat) = (n : Rat) := by rw [h2, unit_64]; grind
  have hu := unit_pos .f32
  have hXu : Near (a * unit .f32) (X * unit .f32) := by
    unfold Near at *
    have := Rat.mul_le_mul_of_nonneg_right hX.1 (Rat.le_of_lt hu)
    have := Rat.mul_le_mul_of_nonneg_right hX.2 (Rat.le_of_lt hu)
    grind
  have hl := rI_lim (Nat.two_pow_pos scD) key hXu hm
  have h := Fin.narrow scD_eq h1 hl
  exact ⟨⟨_, h.1, rnd_of (Nat.two_pow_pos scD) key⟩, h.2⟩
theorem Val.orderR {k : FloatKind} {x y : Nat} {a b : Rat} (hx : Val k x a) (hy : Val k y b) : forder k x y = some (if a < b then .lt else if b < a then .gt else .eq) := by
  obtain ⟨n, h1, h2⟩ := hx
  obtain ⟨m, h3, h4⟩ := hy
  have hu := unit_pos k
  rw [h1.order h3]
  congr 1
  have hlt : ∀ {p q : Int} {c d : Rat}, (p : Rat) = c * unit k → (q : Rat) = d * unit k → (p < q ↔ c < d) := fun {p q c d} e1 e2 => by
    rw [← Rat.intCast_lt_intCast, e1, e2]
    exact Rat.mul_lt_mul_right hu
  by_cases c1 : a < b
  · rw [if_pos c1, Int.compare_eq_lt.2 ((hlt h2 h4).2 c1)]
  · rw [if_neg c1]
    by_cases c2 : b < a
    · rw [if_pos c2, Int.compare_eq_gt.2 ((hlt h4 h2).2 c2)]
    · rw [if_neg c2]
      have k1 : ¬ n < m := fun h => c1 ((hlt h2 h4).1 h)
      have k2 : ¬ m < n := fun h => c2 ((hlt h4 h2).1 h)
      rw [Int.compare_eq_eq.2 (by omega)]
end Go.Fw
