/-
  The pivot's row and the others; going back.
-/
import Derived.Test.YtoanjoamillpmaaLpA
import Derived.Test.YtoanjoamillpmaaFwC
import Derived.Test.YtoanjoamillpmaaFwD

namespace Go.Fw.T1
open Go.Proofs
def sumR (φ : List CQ → Rat) : List (List CQ) → Rat
  | [] => 0
  | r :: rs => φ r + sumR φ rs
theorem sumR_nonneg {φ : List CQ → Rat} (h : ∀ r, 0 ≤ φ r) : ∀ l, 0 ≤ sumR φ l
  | [] => Rat.le_refl
  | r :: rs => by have := h r; have := sumR_nonneg h rs; unfold sumR; grind
theorem sumR_mono {φ ψ : List CQ → Rat} : ∀ (l : List (List CQ)), (∀ r, r ∈ l → φ r ≤ ψ r) → sumR φ l ≤ sumR ψ l
  | [], _ => Rat.le_refl
  | r :: rs, h => by
    have h1 := h r List.mem_cons_self
    have h2 := sumR_mono rs fun q hq => h q (List.mem_cons_of_mem _ hq)
    unfold sumR; grind
theorem sumR_add (φ ψ : List CQ → Rat) : ∀ (l : List (List CQ)), sumR (fun r => φ r + ψ r) l = sumR φ l + sumR ψ l
  | [] => by unfold sumR; grind
  | r :: rs => by have := sumR_add φ ψ rs; simp only [sumR]; grind
theorem sumR_const (c : Rat) : ∀ (l : List (List CQ)), sumR (fun _ => c) l = (l.length : Rat) * c
  | [] => by show (0 : Rat) = ((0 : Nat) : Rat) * c; rw [show ((0 : Nat) : Rat) = 0 from rfl]; grind
  | r :: rs => by
    have := sumR_const c rs
    simp only [sumR, List.length_cons, Rat.natCast_add]
    rw [show ((1 : Nat) : Rat) = 1 from rfl]
    grind
theorem sumR_map (φ : List CQ → Rat) (g : List CQ → List CQ) : ∀ (l : List (List CQ)), sumR φ (l.map g) = sumR (fun r => φ (g r)) l
  | [] => rfl
  | r :: rs => by have := sumR_map φ g rs; simp only [List.map_cons, sumR]; grind
theorem sumR_set {φ : List CQ → Rat} (r : List CQ) : ∀ (rs : List (List CQ)) (k : Nat) (hk : k < rs.length), sumR φ (rs.set k r) + φ (rs[k]'hk) = φ r + sumR φ rs
  | q :: rs, 0, _ => by simp only [List.set_cons_zero, sumR, List.getElem_cons_zero]; grind
  | q :: rs, k + 1, hk => by
    have := sumR_set (φ := φ) r rs k (by simpa using hk)
    simp only [List.set_cons_succ, sumR, List.getElem_cons_succ]; grind
theorem pick_at : ∀ (rs : List (List CQ)) (i : Nat) (b : List CQ) (j : Nat), pickQ rs i b j = (b, j) ∨ ∃ k, ∃ hk : k < rs.length, pickQ rs i b j = (rs[k]'hk, i + k)
  | [], _, _, _ => .inl rfl
  | r :: rs, i, b, j => by
    rw [pickQ]
    by_cases hc : pwQ (hdq b) < pwQ (hdq r)
    · rw [if_pos hc]
      rcases pick_at rs (i + 1) r i with h | ⟨k, hk, h⟩
      · exact .inr ⟨0, by simp, by rw [h]; rfl⟩
      · exact .inr ⟨k + 1, by simpa using hk, by rw [h]; simp; omega⟩
    · rw [if_neg hc]
      rcases pick_at rs (i + 1) b j with h | ⟨k, hk, h⟩
      · exact .inl h
      · exact .inr ⟨k + 1, by simpa using hk, by rw [h]; simp; omega⟩
theorem pick_max : ∀ (rs : List (List CQ)) (i : Nat) (b : List CQ) (j : Nat), pwQ (hdq b) ≤ pwQ (hdq (pickQ rs i b j).1) ∧ ∀ r, r ∈ rs → pwQ (hdq r) ≤ pwQ (hdq (pickQ rs i b j).1)
  | [], _, _, _ => ⟨Rat.le_refl, fun r hr => by cases hr⟩
  | r :: rs, i, b, j => by
    rw [pickQ]
    by_cases hc : pwQ (hdq b) < pwQ (hdq r)
    · rw [if_pos hc]
      obtain ⟨h1, h2⟩ := pick_max rs (i + 1) r i
      refine ⟨by grind, fun q hq => ?_⟩
      rcases List.mem_cons.1 hq with rfl | hq
      · exact h1
      · exact h2 q hq
    · rw [if_neg hc]
      obtain ⟨h1, h2⟩ := pick_max rs (i + 1) b j
      refine ⟨h1, fun q hq => ?_⟩
      rcases List.mem_cons.1 hq with rfl | hq
      · grind
      · exact h2 q hq
theorem pick_sum (φ : List CQ → Rat) (r : List CQ) (rs : List (List CQ)) : sumR φ (r :: rs) = φ (pickQ rs 1 r 0).1 + sumR φ (oth r rs (pickQ rs 1 r 0).2) := by
  rcases pick_at rs 1 r 0 with h | ⟨k, hk, h⟩
  · rw [h]; rfl
  · rw [h, Nat.add_comm 1 k]
    have := sumR_set (φ := φ) r rs k hk
    simp only [oth, sumR]
    grind
theorem pick_mem (r : List CQ) (rs : List (List CQ)) : (pickQ rs 1 r 0).1 ∈ r :: rs := by
  rcases pick_at rs 1 r 0 with h | ⟨k, hk, h⟩
  · rw [h]; exact List.mem_cons_self
  · rw [h]; exact List.mem_cons_of_mem _ (List.getElem_mem hk)
theorem oth_len {r : List CQ} {rs : List (List CQ)} {j : Nat} : (oth r rs j).length = rs.length := by cases j <;> simp [oth]
theorem mem_split {r : List CQ} {rs : List (List CQ)} {q : List CQ} (h : q ∈ r :: rs) : q = (pickQ rs 1 r 0).1 ∨ q ∈ oth r rs (pickQ rs 1 r 0).2 := by
  rcases pick_at rs 1 r 0 with e | ⟨k, hk, e⟩
  · rw [e]
    rcases List.mem_cons.1 h with h | h
    · exact .inl h
    · exact .inr h
  · rw [e, Nat.add_comm 1 k]
    dsimp only [oth]
    rcases List.mem_cons.1 h with h | h
    · right; rw [h]; exact List.mem_set hk r
    · obtain ⟨i, hi, rfl⟩ := List.getElem_of_mem h
      by_cases hik : i = k
      · subst hik; exact .inl rfl
      · right
        have : (rs.set k r)[i]'(by simpa using hi) = rs[i] := by rw [List.getElem_set]; rw [if_neg (fun e => hik e.symm)]
        rw [← this]
        exact List.getElem_mem _
def eB : Nat → Rat
  | 0 => 0
  | k + 1 => 3 + eB k * (1001 / 1000)
theorem eB_nonneg : ∀ k, 0 ≤ eB k
  | 0 => Rat.le_refl
  | k + 1 => by have := eB_nonneg k; unfold eB; grind
theorem back_err {B : Rat} (hB : 1 ≤ B) : ∀ (xs l : List CQ) (b : CQ) (G : Rat), 1 ≤ G → l.length = xs.length + 1 → (∀ c, c ∈ l → N c ≤ B) → N b + B * sumN xs ≤ G →
    N (csub (backQ l xs b) (csub b (dot l xs))) ≤ eB xs.length * (uE * G)
  | [], l, b, G, hG, hl, _, _ => by
    obtain ⟨c, rfl⟩ : ∃ c, l = [c] := by
      cases l with
      | nil => simp at hl
      | cons c l => cases l with
        | nil => exact ⟨c, rfl⟩
        | cons d l => simp at hl
    simp only [backQ, dot, List.length_nil, eB]
    rw [show csub b (csub b (0, 0)) = (0, 0) by unfold csub; dsimp only; congr 1 <;> grind, N_zero]
    grind
  | x :: xs, l, b, G, hG, hl, hc, hb => by
    obtain ⟨c, cs, rfl⟩ : ∃ c cs, l = c :: cs := by
      cases l with
      | nil => simp at hl
      | cons c cs => exact ⟨c, cs, rfl⟩
    have h1 := hc c List.mem_cons_self
    have h2 := Rat.mul_le_mul_of_nonneg_right h1 (N_nonneg x)
    simp only [sumN] at hb
    have hs := sumN_nonneg xs
    have hBs := Rat.mul_nonneg (show 0 ≤ B by grind) hs
    have s := step_err b c x hG (by grind)
    have hu := uE_pos
    have huG := Rat.mul_nonneg (Rat.le_of_lt hu) (show 0 ≤ G by grind)
    have k1 : 3 * uE ≤ 1 / 1000 := by decide +kernel
    have k2 := Rat.mul_le_mul_of_nonneg_right k1 (show 0 ≤ G by grind)
    have t := N_tri s
    have t2 := N_sub b (cmul c x)
    have t3 := N_mul c x
    have ih := back_err hB xs cs (miQ b (tmQ c x)) (G * (1001 / 1000)) (by grind) (by simpa using hl) (fun d hd => hc d (List.mem_cons_of_mem _ hd)) (by grind)
    simp only [backQ, dot, List.length_cons, eB]
    have e := N_via ih (show N (csub (csub (miQ b (tmQ c x)) (dot cs xs)) (csub b (cadd (cmul c x) (dot cs xs)))) ≤ 3 * (uE * G) by
      rw [show csub (csub (miQ b (tmQ c x)) (dot cs xs)) (csub b (cadd (cmul c x) (dot cs xs))) = csub (miQ b (tmQ c x)) (csub b (cmul c x)) by unfold csub cadd; dsimp only; congr 1 <;> grind]
      exact s)
    grind
theorem dot_N {B : Rat} (hB : 0 ≤ B) : ∀ (l xs : List CQ), (∀ c, c ∈ l → N c ≤ B) → N (dot l xs) ≤ B * sumN xs
  | [], xs, _ => by have := Rat.mul_nonneg hB (sumN_nonneg xs); simp only [dot]; rw [N_zero]; exact this
  | c :: cs, [], _ => by simp only [dot, sumN]; rw [N_zero]; grind
  | c :: cs, x :: xs, h => by
    have h1 := Rat.mul_le_mul_of_nonneg_right (h c List.mem_cons_self) (N_nonneg x)
    have h2 := N_mul c x
    have h3 := dot_N hB cs xs fun d hd => h d (List.mem_cons_of_mem _ hd)
    have h4 := N_add (cmul c x) (dot cs xs)
    simp only [dot, sumN]
    grind
theorem dot_last : ∀ (xs l : List CQ), l.length = xs.length + 1 → dot l (xs ++ [m1]) = csub (dot l xs) (lastQ l)
  | [], l, hl => by
    obtain ⟨c, rfl⟩ : ∃ c, l = [c] := by
      cases l with
      | nil => simp at hl
      | cons c l => cases l with
        | nil => exact ⟨c, rfl⟩
        | cons d l => simp at hl
    show cadd (cmul c m1) (0, 0) = csub (0, 0) c
    unfold cadd cmul csub m1; dsimp only; congr 1 <;> grind
  | x :: xs, l, hl => by
    obtain ⟨c, cs, rfl⟩ : ∃ c cs, l = c :: cs := by
      cases l with
      | nil => simp at hl
      | cons c cs => exact ⟨c, cs, rfl⟩
    have ih := dot_last xs cs (by simpa using hl)
    have hlast : lastQ (c :: cs) = lastQ cs := by
      cases cs with
      | nil => simp at hl
      | cons d cs => simp [lastQ]
    rw [hlast]
    simp only [List.cons_append, dot]
    rw [ih]
    unfold cadd csub; dsimp only; congr 1 <;> grind
theorem last_mem {l : List CQ} (h : l ≠ []) : lastQ l ∈ l := by
  unfold lastQ
  rw [List.getLastD_eq_getLast?, List.getLast?_eq_some_getLast h]
  exact List.getLast_mem _
end Go.Fw.T1

/-
  One step of the solver: in bounds, with a residual that is next to nothing.
-/
namespace Go.Fw.T1
open Go.Proofs
structure Good (n : Nat) (B : Rat) (R : List (List CQ)) : Prop where
  len : R.length = n
  row : ∀ r, r ∈ R → r.length = n + 1
  bd : ∀ r, r ∈ R → ∀ a, a ∈ r → N a ≤ B
def nrm (R : List (List CQ)) (y : List CQ) : Rat := sumR (fun r => N (dot r y)) R
def Low (n : Nat) (l : Rat) (R : List (List CQ)) : Prop := ∀ y : List CQ, y.length = n → ∀ a, a ∈ y → N a ≤ l * nrm R y
def XB : Rat := 200000
structure Sol (n : Nat) (κ : Rat) (R : List (List CQ)) : Prop where
  safe : SafeQ n R
  len : (solQ n R).length = n
  bd : ∀ x, x ∈ solQ n R → N x ≤ XB
  res : ∀ r, r ∈ R → N (dot r (solQ n R ++ [m1])) ≤ κ * uE * (1 + sumN (solQ n R))
theorem sol_zero {κ B : Rat} {R : List (List CQ)} (h : Good 0 B R) : Sol 0 κ R := by
  have : R = [] := List.eq_nil_of_length_eq_zero h.len
  subst this
  exact ⟨trivial, rfl, fun x hx => by simp [solQ] at hx, fun r hr => by cases hr⟩
theorem cmul_zero (a : CQ) : cmul a (0, 0) = (0, 0) := by unfold cmul; dsimp only; congr 1 <;> grind
theorem cadd_zero (a : CQ) : cadd a (0, 0) = a := by unfold cadd; dsimp only; rw [Rat.add_zero, Rat.add_zero]
theorem dot_zeros : ∀ (l : List CQ) (n : Nat), dot l (List.replicate n (0, 0)) = (0, 0)
  | [], _ => by cases ‹Nat› <;> rfl
  | a :: l, 0 => rfl
  | a :: l, n + 1 => by simp only [List.replicate_succ, dot]; rw [cmul_zero, dot_zeros l n, cadd_zero]
theorem div_ex {p D : CQ} (h : 0 < sq p) : ∃ y, cadd (cmul p y) D = (0, 0) := by
  refine ⟨(-(D.1 * p.1 + D.2 * p.2) / sq p, -(D.2 * p.1 - D.1 * p.2) / sq p), ?_⟩
  have h1 : ∀ v : Rat, v / sq p * sq p = v := fun v => Rat.div_mul_cancel (by grind)
  have e1 := h1 (-(D.1 * p.1 + D.2 * p.2))
  have e2 := h1 (-(D.2 * p.1 - D.1 * p.2))
  generalize -(D.1 * p.1 + D.2 * p.2) / sq p = u at *
  generalize -(D.2 * p.1 - D.1 * p.2) / sq p = v at *
  have key : ∀ q : Rat, q * sq p = 0 → q = 0 := fun q hq => by
    rcases Rat.mul_eq_zero.1 hq with h | h
    · exact h
    · grind
  unfold cadd cmul
  dsimp only
  congr 1
  · refine key _ ?_; unfold sq at *; grind
  · refine key _ ?_; unfold sq at *; grind
def gB : Nat → Rat
  | 0 => 1
  | k + 1 => gB k * (1001 / 1000)
theorem gB_one : ∀ k, 1 ≤ gB k
  | 0 => Rat.le_refl
  | k + 1 => by have := gB_one k; unfold gB; grind
theorem back_safe {B : Rat} (hB : 1 ≤ B) (hBb : B ≤ big) : ∀ (xs l : List CQ) (b : CQ) (G : Rat), 1 ≤ G → (∀ c, c ∈ l → N c ≤ B) → (∀ x, x ∈ xs → N x ≤ big) → N b + B * sumN xs ≤ G → G * gB (xs.length + 1) ≤ big → BackSafe l xs b
  | [], l, b, G, hG, hl, _, hb, hg => by
    have hb' : N b ≤ big := by
      simp only [sumN, List.length_nil, gB] at hb hg; grind
    cases l <;> exact hb'
  | x :: xs, [], b, G, hG, hl, _, hb, hg => by
    have h1 := gB_one ((x :: xs).length + 1)
    have h2 := Rat.mul_le_mul_of_nonneg_left h1 (show 0 ≤ G by grind)
    have h3 := Rat.mul_nonneg (show 0 ≤ B by grind) (sumN_nonneg (x :: xs))
    have hb' : N b ≤ big := by grind
    exact hb'
  | x :: xs, c :: cs, b, G, hG, hl, hx, hb, hg => by
    have h1 := hl c List.mem_cons_self
    have h2 := Rat.mul_le_mul_of_nonneg_right h1 (N_nonneg x)
    simp only [sumN] at hb
    have hs := sumN_nonneg xs
    have hBs := Rat.mul_nonneg (show 0 ≤ B by grind) hs
    have s := step_err b c x hG (by grind)
    have hu := uE_pos
    have huG := Rat.mul_nonneg (Rat.le_of_lt hu) (show 0 ≤ G by grind)
    have k1 : 3 * uE ≤ 1 / 1000 := by decide +kernel
    have k2 := Rat.mul_le_mul_of_nonneg_right k1 (show 0 ≤ G by grind)
    have t := N_tri s
    have t2 := N_sub b (cmul c x)
    have t3 := N_mul c x
    have g1 := gB_one (xs.length + 1)
    have hg' : G * (gB (xs.length + 1) * (1001 / 1000)) ≤ big := hg
    have hGb : G * (1001 / 1000) ≤ big := by
      have := Rat.mul_le_mul_of_nonneg_left g1 (show 0 ≤ G by grind); grind
    have ht := tm_err c x
    have ht2 := N_tri ht
    have k3 : tE ≤ uE := by decide +kernel
    have k4 := Rat.mul_le_mul_of_nonneg_right (show N c * N x ≤ G by have := N_nonneg b; grind) (Rat.le_of_lt hu)
    have hb0 := N_nonneg b
    have hx0 := Rat.mul_nonneg (show 0 ≤ B by grind) (N_nonneg x)
    refine ⟨Rat.le_trans h1 hBb, hx x List.mem_cons_self, ?_, by grind, ?_⟩
    · have : uE ≤ uE * G := by have := Rat.mul_le_mul_of_nonneg_left hG (Rat.le_of_lt hu); grind
      grind
    · exact back_safe hB hBb xs cs (miQ b (tmQ c x)) (G * (1001 / 1000)) (by grind) (fun d hd => hl d (List.mem_cons_of_mem _ hd)) (fun d hd => hx d (List.mem_cons_of_mem _ hd)) (by grind) (by grind)
theorem ne_cons {r : List CQ} {n : Nat} (h : r.length = n + 1) : ∃ a t, r = a :: t ∧ t.length = n := by
  cases r with
  | nil => simp at h
  | cons a t => exact ⟨a, t, rfl, by simpa using h⟩
theorem pivot_ok {n : Nat} {l : Rat} {r : List CQ} {rs : List (List CQ)} (hn : n ≤ 2) (hl0 : 1 ≤ l) (hl : l ≤ 20) (hlen : (r :: rs).length = n + 1) (hrow : ∀ q, q ∈ r :: rs → q.length = n + 2) (hL : Low (n + 1) l (r :: rs)) :
    1 / 10000 ≤ sq (hdq (pickQ rs 1 r 0).1) ∧ 0 < pwQ (hdq (pickQ rs 1 r 0).1) ∧ ∀ q, q ∈ r :: rs → sq (hdq q) ≤ sq (hdq (pickQ rs 1 r 0).1) * (1 + 1 / 1000000) := by
  have hmax : ∀ q, q ∈ r :: rs → pwQ (hdq q) ≤ pwQ (hdq (pickQ rs 1 r 0).1) := fun q hq => by
    obtain ⟨h1, h2⟩ := pick_max rs 1 r 0
    rcases List.mem_cons.1 hq with rfl | hq
    · exact h1
    · exact h2 q hq
  generalize (pickQ rs 1 r 0).1 = b at *
  have hpw : ∀ q : CQ, sq q * (1 - uE) - tE ≤ pwQ q ∧ pwQ q ≤ sq q * (1 + uE) + tE := fun q => by
    have h := pw_err q
    have h1 := ab_near (pwQ q - sq q)
    have ht := tE_pos
    unfold Near at h1
    constructor <;> grind
  have hu := uE_pos
  have k1 : uE ≤ 1 / 10000000 := by decide +kernel
  have k2 : tE ≤ 1 / 100000000000000000000 := by decide +kernel
  have hex : ∃ q, q ∈ r :: rs ∧ 1 / 70 ≤ N (hdq q) := by
    refine Classical.byContradiction fun hno => ?_
    have hall : ∀ q, q ∈ r :: rs → N (hdq q) ≤ 1 / 70 := fun q hq => by
      by_cases h : 1 / 70 ≤ N (hdq q)
      · exact absurd ⟨q, hq, h⟩ hno
      · grind
    have h1 := hL ((1, 0) :: List.replicate n (0, 0)) (by simp) (1, 0) List.mem_cons_self
    have h2 : nrm (r :: rs) ((1, 0) :: List.replicate n (0, 0)) ≤ sumR (fun _ => 1 / 70) (r :: rs) := by
      unfold nrm
      refine sumR_mono _ fun q hq => ?_
      have hq2 := hall q hq
      obtain ⟨a, t, e, _⟩ := ne_cons (hrow q hq)
      have e1 : dot q ((1, 0) :: List.replicate n (0, 0)) = hdq q := by
        rw [e]
        simp only [dot, hdq]
        rw [dot_zeros, cadd_zero]
        unfold cmul; dsimp only; congr 1 <;> grind
      rw [e1]
      exact hq2
    rw [sumR_const, hlen] at h2
    have h3 : ((n + 1 : Nat) : Rat) ≤ 3 := by
      have : ((n + 1 : Nat) : Rat) ≤ ((3 : Nat) : Rat) := Rat.natCast_le_natCast.2 (by omega)
      exact this
    have h4 : nrm (r :: rs) ((1, 0) :: List.replicate n (0, 0)) ≤ 3 / 70 := by grind
    have h5 : N ((1, 0) : CQ) = 1 := by decide +kernel
    have h6 := Rat.mul_le_mul_of_nonneg_left h4 (show 0 ≤ l by grind)
    rw [h5] at h1
    grind
  obtain ⟨q0, hq0, hN0⟩ := hex
  have s0 := sq_N (hdq q0)
  have s1 : (1 / 70) * (1 / 70) ≤ N (hdq q0) * N (hdq q0) := Rat.le_trans (Rat.mul_le_mul_of_nonneg_left hN0 (by decide +kernel)) (Rat.mul_le_mul_of_nonneg_right hN0 (by grind))
  obtain ⟨p1, _⟩ := hpw (hdq q0)
  obtain ⟨b1, b2⟩ := hpw (hdq b)
  have hm := hmax q0 hq0
  have z0 := Rat.mul_le_mul_of_nonneg_left k1 (sq_nonneg (hdq q0))
  have zb := Rat.mul_le_mul_of_nonneg_left k1 (sq_nonneg (hdq b))
  have hb : 1 / 10000 ≤ sq (hdq b) := by grind
  refine ⟨hb, by grind, fun q hq => ?_⟩
  obtain ⟨c1, _⟩ := hpw (hdq q)
  have hm := hmax q hq
  have zq := Rat.mul_le_mul_of_nonneg_left k1 (sq_nonneg (hdq q))
  grind
end Go.Fw.T1

/-
  One step of the solver: the step itself.
-/
namespace Go.Fw.T1
open Go.Proofs
def kb (n : Nat) : Rat := 3 + eB n
theorem eB_le {n : Nat} (hn : n ≤ 2) : eB n ≤ 7 := by
  match n, hn with
  | 0, _ => decide +kernel
  | 1, _ => decide +kernel
  | 2, _ => decide +kernel
theorem gB_le {n : Nat} (hn : n ≤ 2) : gB (n + 1) ≤ 101 / 100 := by
  match n, hn with
  | 0, _ => decide +kernel
  | 1, _ => decide +kernel
  | 2, _ => decide +kernel
theorem nat_le3 {n : Nat} (hn : n ≤ 3) : (n : Rat) ≤ 3 := Rat.natCast_le_natCast.2 (show n ≤ 3 from hn)
section
variable {n : Nat} {B l κ : Rat} {r : List CQ} {rs : List (List CQ)}
theorem red_good {b : List CQ} (hB : 1 ≤ B) (hR : Good (n + 1) B (r :: rs)) (hb : b ∈ r :: rs) {j : Nat} (hf : ∀ q, q ∈ oth r rs j → N (ovQ (hdq q) (hdq b)) ≤ fM) :
    Good n (B * (243 / 100)) ((oth r rs j).map (redQ b)) := by
  have hrl := hR.len
  refine ⟨by rw [List.length_map, oth_len]; simpa using hrl, fun q hq => ?_, fun q hq a ha => ?_⟩
  · obtain ⟨q0, hq0, rfl⟩ := List.mem_map.1 hq
    obtain ⟨a, t, e, ht⟩ := ne_cons (hR.row q0 (oth_mem hq0))
    obtain ⟨a', t', e', ht'⟩ := ne_cons (hR.row b hb)
    unfold redQ
    rw [List.length_zipWith, e, e']
    simp only [tl, ht, ht']
    omega
  · obtain ⟨q0, hq0, rfl⟩ := List.mem_map.1 hq
    unfold redQ at ha
    obtain ⟨i, hi, rfl⟩ := List.getElem_of_mem ha
    rw [List.getElem_zipWith]
    have h1 : ∀ c, c ∈ tl q0 → N c ≤ B := fun c hc => hR.bd q0 (oth_mem hq0) c (tl_mem hc)
    have h2 : ∀ c, c ∈ tl b → N c ≤ B := fun c hc => hR.bd b hb c (tl_mem hc)
    exact (elem_err hB (h1 _ (List.getElem_mem _)) (hf q0 hq0) (h2 _ (List.getElem_mem _))).2
theorem row_step {b q : List CQ} {x0 : CQ} {Y : List CQ} (hB : 1 ≤ B) (hqr : q.length = n + 2) (hbr : b.length = n + 2) (hq : ∀ a, a ∈ q → N a ≤ B) (hb : ∀ a, a ∈ b → N a ≤ B) (hd : dE ≤ sq (hdq b)) (hf : N (ovQ (hdq q) (hdq b)) ≤ fM) :
    N (dot q (x0 :: Y)) ≤ fM * N (dot b (x0 :: Y)) + N (dot (redQ b q) Y) + 8 * (uE * B) * (N x0 + sumN Y) := by
  obtain ⟨a, t, rfl, ht⟩ := ne_cons hqr
  obtain ⟨a', t', rfl, ht'⟩ := ne_cons hbr
  exact res_step hB (by rw [ht, ht']) (hq a List.mem_cons_self) (hb a' List.mem_cons_self) (fun c hc => hq c (List.mem_cons_of_mem _ hc)) (fun c hc => hb c (List.mem_cons_of_mem _ hc)) hd hf
theorem red_low (hn : n ≤ 2) (hB : 1 ≤ B) (hB2 : B ≤ 1000) (hl0 : 1 ≤ l) (hl : l ≤ 20) (hR : Good (n + 1) B (r :: rs)) (hL : Low (n + 1) l (r :: rs)) (hd : dE ≤ sq (hdq (pickQ rs 1 r 0).1))
    (hf : ∀ q, q ∈ oth r rs (pickQ rs 1 r 0).2 → N (ovQ (hdq q) (hdq (pickQ rs 1 r 0).1)) ≤ fM) : Low n (l * (11 / 10)) ((oth r rs (pickQ rs 1 r 0).2).map (redQ (pickQ rs 1 r 0).1)) := by
  intro y hy a ha
  have hbm := pick_mem r rs
  have hsum := pick_sum (fun q => N (dot q (czq :: y))) r rs
  obtain ⟨a', t', e', ht'⟩ := ne_cons (hR.row _ hbm)
  have hp0 : 0 < sq a' := by
    have := hd; rw [e'] at this
    have h2 : dE ≤ sq a' := this
    have := dE_pos; grind
  obtain ⟨y0, hy0⟩ := div_ex (D := dot t' y) hp0
  have hzero : N (dot (pickQ rs 1 r 0).1 (y0 :: y)) = 0 := by
    rw [e']
    simp only [dot]
    rw [hy0, N_zero]
  have hT : nrm (r :: rs) (y0 :: y) = sumR (fun q => N (dot q (y0 :: y))) (oth r rs (pickQ rs 1 r 0).2) := by
    have := pick_sum (fun q => N (dot q (y0 :: y))) r rs
    unfold nrm
    rw [this, hzero]; grind
  have hall := hL (y0 :: y) (by simp [hy])
  generalize hTd : nrm (r :: rs) (y0 :: y) = T at *
  have hT0 : 0 ≤ T := by rw [← hTd]; exact sumR_nonneg (fun q => N_nonneg _) _
  have hN : N y0 + sumN y ≤ ((n + 1 : Nat) : Rat) * (l * T) := by
    have h := sumN_le (V := l * T) (y0 :: y) hall
    simp only [sumN, List.length_cons, hy] at h
    exact h
  have hn4 : ((n + 1 : Nat) : Rat) ≤ 4 := by
    have : ((n + 1 : Nat) : Rat) ≤ ((4 : Nat) : Rat) := Rat.natCast_le_natCast.2 (by omega)
    exact this
  have hlT : 0 ≤ l * T := Rat.mul_nonneg (by grind) hT0
  have hN2 : N y0 + sumN y ≤ 4 * (l * T) := Rat.le_trans hN (Rat.mul_le_mul_of_nonneg_right hn4 hlT)
  have hm : T ≤ sumR (fun q => N (dot (redQ (pickQ rs 1 r 0).1 q) y) + 8 * (uE * B) * (N y0 + sumN y)) (oth r rs (pickQ rs 1 r 0).2) := by
    rw [hT]
    refine sumR_mono _ fun q hq => ?_
    have := row_step (n := n) (x0 := y0) (Y := y) hB (hR.row q (oth_mem hq)) (hR.row _ hbm) (hR.bd q (oth_mem hq)) (hR.bd _ hbm) hd (hf q hq)
    rw [hzero] at this
    grind
  rw [sumR_add, sumR_const, oth_len] at hm
  have hlen : (rs.length : Rat) ≤ 2 := by
    have h1 := hR.len
    have : (rs.length : Rat) ≤ ((2 : Nat) : Rat) := Rat.natCast_le_natCast.2 (by simp at h1; omega)
    exact this
  have hnr : nrm ((oth r rs (pickQ rs 1 r 0).2).map (redQ (pickQ rs 1 r 0).1)) y = sumR (fun q => N (dot (redQ (pickQ rs 1 r 0).1 q) y)) (oth r rs (pickQ rs 1 r 0).2) := by
    unfold nrm; rw [sumR_map]
  rw [hnr]
  have hu := uE_pos
  have hBu : 8 * (uE * B) ≤ 1 / 1800 := by
    have k : uE * 1000 * 8 ≤ 1 / 1800 := by decide +kernel
    have := Rat.mul_le_mul_of_nonneg_left hB2 (Rat.le_of_lt hu)
    grind
  have hS0 : 0 ≤ N y0 + sumN y := by have := N_nonneg y0; have := sumN_nonneg y; grind
  have h8 : 8 * (uE * B) * (N y0 + sumN y) ≤ 1 / 1800 * (4 * (l * T)) := Rat.le_trans (Rat.mul_le_mul_of_nonneg_right hBu hS0) (Rat.mul_le_mul_of_nonneg_left hN2 (by decide +kernel))
  have h80 : 0 ≤ 8 * (uE * B) * (N y0 + sumN y) := Rat.mul_nonneg (Rat.mul_nonneg (by decide) (Rat.mul_nonneg (Rat.le_of_lt hu) (by grind))) hS0
  have h9 := Rat.mul_le_mul_of_nonneg_right hlen h80
  have h10 := Rat.mul_le_mul_of_nonneg_right hl hT0
  generalize sumR (fun q => N (dot (redQ (pickQ rs 1 r 0).1 q) y)) (oth r rs (pickQ rs 1 r 0).2) = T' at *
  have h11 : T ≤ T' * (11 / 10) := by grind
  have h12 := hall a (List.mem_cons_of_mem _ ha)
  have h13 := Rat.mul_le_mul_of_nonneg_left h11 (show 0 ≤ l by grind)
  grind
end
end Go.Fw.T1

/-
  One step of the solver: from the smaller equations' solution to the greater ones'.
-/
namespace Go.Fw.T1
open Go.Proofs
def kS (n : Nat) (B κ : Rat) : Rat := fM * (kb n * B) + κ + 8 * B
def kT (n : Nat) (B κ : Rat) : Rat := match n with
  | 0 => kb 0 * B
  | n + 1 => kS (n + 1) B κ
theorem kT_le {n : Nat} {B κ : Rat} (hB : 0 ≤ B) (hk : 0 ≤ κ) (hkb : 0 ≤ kb n) : kT n B κ ≤ kS n B κ ∧ kb n * B ≤ kT n B κ := by
  have hfM : (1 : Rat) ≤ fM := by decide +kernel
  have h := Rat.mul_le_mul_of_nonneg_right hfM (Rat.mul_nonneg hkb hB)
  unfold kT
  cases n with
  | zero => simp only [kS]; constructor <;> grind
  | succ n => simp only [kS]; constructor <;> grind
theorem tm_big {f c : CQ} (hf : N f ≤ fM) (hc : N c ≤ 1000) : N (tmQ f c) ≤ big := by
  have h1 := N_tri (tm_err f c)
  have h2 := N_mul f c
  have h3 := Rat.mul_le_mul_of_nonneg_right hf (N_nonneg c)
  have h4 := Rat.mul_le_mul_of_nonneg_left hc (show 0 ≤ fM by decide +kernel)
  have hu := uE_pos
  have h5 : N f * N c * uE ≤ fM * 1000 * uE := Rat.mul_le_mul_of_nonneg_right (by grind) (Rat.le_of_lt hu)
  have k : fM * 1000 + (fM * 1000 * uE + tE) ≤ big := by decide +kernel
  grind
section
variable {n : Nat} {B l κ : Rat} {r : List CQ} {rs : List (List CQ)}
theorem sol_step (hn : n ≤ 2) (hB : 1 ≤ B) (hB2 : B ≤ 1000) (hl0 : 1 ≤ l) (hl : l ≤ 20) (hκ0 : 0 ≤ κ) (hκ : κ ≤ 3000)
    (IH : ∀ R', Good n (B * (243 / 100)) R' → Low n (l * (11 / 10)) R' → Sol n κ R') (hR : Good (n + 1) B (r :: rs)) (hL : Low (n + 1) l (r :: rs)) : Sol (n + 1) (kT n B κ) (r :: rs) := by
  obtain ⟨hpv, hpos, hsq⟩ := pivot_ok hn hl0 hl hR.len hR.row hL
  have hd : dE ≤ sq (hdq (pickQ rs 1 r 0).1) := Rat.le_trans (by decide +kernel) hpv
  have hf : ∀ q, q ∈ oth r rs (pickQ rs 1 r 0).2 → N (ovQ (hdq q) (hdq (pickQ rs 1 r 0).1)) ≤ fM := fun q hq => ov_piv hd (hsq q (oth_mem hq))
  have hbm := pick_mem r rs
  have S' := IH _ (red_good hB hR hbm hf) (red_low hn hB hB2 hl0 hl hR hL hd hf)
  have hsolE : solQ (n + 1) (r :: rs) = ovQ (backQ (tl (pickQ rs 1 r 0).1) (solQ n ((oth r rs (pickQ rs 1 r 0).2).map (redQ (pickQ rs 1 r 0).1))) (lastQ (tl (pickQ rs 1 r 0).1))) (hdq (pickQ rs 1 r 0).1) :: solQ n ((oth r rs (pickQ rs 1 r 0).2).map (redQ (pickQ rs 1 r 0).1)) := rfl
  have hsafeE : SafeQ (n + 1) (r :: rs) = ((∀ q, q ∈ r :: rs → ∀ a, a ∈ q → N a ≤ big) ∧ dE ≤ sq (hdq (pickQ rs 1 r 0).1) ∧ 0 < pwQ (hdq (pickQ rs 1 r 0).1) ∧
    (∀ q, q ∈ oth r rs (pickQ rs 1 r 0).2 → N (ovQ (hdq q) (hdq (pickQ rs 1 r 0).1)) ≤ big ∧ ∀ c, c ∈ tl (pickQ rs 1 r 0).1 → N (tmQ (ovQ (hdq q) (hdq (pickQ rs 1 r 0).1)) c) ≤ big) ∧
    SafeQ n ((oth r rs (pickQ rs 1 r 0).2).map (redQ (pickQ rs 1 r 0).1)) ∧ BackSafe (tl (pickQ rs 1 r 0).1) (solQ n ((oth r rs (pickQ rs 1 r 0).2).map (redQ (pickQ rs 1 r 0).1))) (lastQ (tl (pickQ rs 1 r 0).1))) := rfl
  have hsplit : ∀ q, q ∈ r :: rs → q = (pickQ rs 1 r 0).1 ∨ q ∈ oth r rs (pickQ rs 1 r 0).2 := fun q hq => mem_split hq
  have hres := S'.res
  have hxl := S'.len
  have hxb := S'.bd
  have hxs := S'.safe
  generalize hR' : (oth r rs (pickQ rs 1 r 0).2).map (redQ (pickQ rs 1 r 0).1) = R' at *
  generalize (pickQ rs 1 r 0).2 = j at *
  generalize (pickQ rs 1 r 0).1 = b at *
  generalize hX : solQ n R' = xs at *
  obtain ⟨p0, t, hbe, htl⟩ := ne_cons (hR.row b hbm)
  have hp0 : hdq b = p0 := by rw [hbe]; rfl
  have htb : tl b = t := by rw [hbe]; rfl
  rw [hp0] at hd hpos hf hsolE hsafeE
  rw [htb] at hsolE hsafeE
  have htB : ∀ c, c ∈ t → N c ≤ B := fun c hc => hR.bd b hbm c (by rw [hbe]; exact List.mem_cons_of_mem _ hc)
  have hpB : N p0 ≤ B := hR.bd b hbm p0 (by rw [hbe]; exact List.mem_cons_self)
  have htne : t ≠ [] := fun e => by rw [e] at htl; simp at htl
  have hrhs : N (lastQ t) ≤ B := htB _ (last_mem htne)
  generalize hrh : lastQ t = rh at *
  have hs0 := sumN_nonneg xs
  have hG1 : 1 ≤ B * (1 + sumN xs) := by have := Rat.mul_nonneg (show 0 ≤ B by grind) hs0; grind
  have hGb : N rh + B * sumN xs ≤ B * (1 + sumN xs) := by grind
  have hsx : sumN xs ≤ 2 * XB := by
    have h1 := sumN_le xs hxb
    rw [hxl] at h1
    have h2 : (n : Rat) ≤ 2 := Rat.natCast_le_natCast.2 (show n ≤ 2 from hn)
    have h3 := Rat.mul_le_mul_of_nonneg_right h2 (show 0 ≤ XB by decide +kernel)
    grind
  have hGm : B * (1 + sumN xs) ≤ 1000 * (1 + 2 * XB) := Rat.le_trans (Rat.mul_le_mul_of_nonneg_right hB2 (by grind)) (Rat.mul_le_mul_of_nonneg_left (by grind) (by decide +kernel))
  have hbigB : (1000 : Rat) ≤ big := by decide +kernel
  have hbs : BackSafe t xs rh := by
    refine back_safe hB (by grind) xs t rh (B * (1 + sumN xs)) hG1 htB (fun x hx => Rat.le_trans (hxb x hx) (by decide +kernel)) hGb ?_
    rw [hxl]
    have h1 := gB_le hn
    have h2 := gB_one (n + 1)
    have h3 := Rat.mul_le_mul_of_nonneg_left h1 (show 0 ≤ B * (1 + sumN xs) by grind)
    have h4 := Rat.mul_le_mul_of_nonneg_right hGm (show (0 : Rat) ≤ 101 / 100 by decide +kernel)
    have k : 1000 * (1 + 2 * XB) * (101 / 100) ≤ big := by decide +kernel
    grind
  have hbe2 := back_err hB xs t rh _ hG1 (by rw [htl, hxl]) htB hGb
  rw [hxl] at hbe2
  have hdl := dot_last xs t (by rw [htl, hxl])
  rw [hrh] at hdl
  have hdn := dot_N (show 0 ≤ B by grind) t xs htB
  have hns := N_sub rh (dot t xs)
  generalize backQ t xs rh = bk at *
  have hov := ov_err bk p0 hd
  generalize ovQ bk p0 = x0 at *
  generalize hG : B * (1 + sumN xs) = G at *
  have hu := uE_pos
  have ht := tE_pos
  have hG0 : 0 ≤ G := by grind
  have huG := Rat.mul_nonneg (Rat.le_of_lt hu) hG0
  have heb := eB_le hn
  have heb0 := eB_nonneg n
  have he1 := Rat.mul_le_mul_of_nonneg_right heb huG
  have k1 : 7 * uE ≤ 1 / 100000 := by decide +kernel
  have k1' := Rat.mul_le_mul_of_nonneg_right k1 hG0
  have hbk : N bk ≤ G * (100001 / 100000) := by
    have := N_tri hbe2
    grind
  have hbku := Rat.mul_le_mul_of_nonneg_right hbk (show 0 ≤ 2 * uE by grind)
  have k2 : tE * 1000 ≤ uE * (1 / 2) := by decide +kernel
  have htp : N p0 * tE ≤ uE * (1 / 2) := by
    have h1 := Rat.mul_le_mul_of_nonneg_right (Rat.le_trans hpB hB2) (Rat.le_of_lt ht)
    grind
  have huG1 : uE ≤ uE * G := by have := Rat.mul_le_mul_of_nonneg_left hG1 (Rat.le_of_lt hu); grind
  have hpiv : N (dot b (x0 :: (xs ++ [m1]))) ≤ kb n * (uE * G) := by
    rw [hbe]
    simp only [dot]
    rw [hdl]
    have h1 := N_add (csub (cmul x0 p0) bk) (csub bk (csub rh (dot t xs)))
    rw [show cadd (csub (cmul x0 p0) bk) (csub bk (csub rh (dot t xs))) = cadd (cmul p0 x0) (csub (dot t xs) rh) by unfold cadd csub cmul; dsimp only; congr 1 <;> grind] at h1
    unfold kb
    grind
  have hx0n := N_nonneg x0
  have hGS : G ≤ B * (1 + (N x0 + sumN xs)) := by
    rw [← hG]
    exact Rat.mul_le_mul_of_nonneg_left (by grind) (by grind)
  generalize hSS : 1 + (N x0 + sumN xs) = S at *
  have hS1 : 1 ≤ S := by grind
  have hkb0 : 0 ≤ kb n := by unfold kb; grind
  have hpiv2 : N (dot b (x0 :: (xs ++ [m1]))) ≤ kb n * B * uE * S := by
    have h1 := Rat.mul_le_mul_of_nonneg_left hGS (Rat.mul_nonneg hkb0 (Rat.le_of_lt hu))
    grind
  have hfM : (1 : Rat) ≤ fM := by decide +kernel
  have hkT := kT_le (n := n) (κ := κ) (show 0 ≤ B by grind) hκ0 hkb0
  have hkBS : 0 ≤ kb n * B * uE * S := Rat.mul_nonneg (Rat.mul_nonneg (Rat.mul_nonneg hkb0 (by grind)) (Rat.le_of_lt hu)) (by grind)
  have huS := Rat.mul_nonneg (Rat.le_of_lt hu) (show 0 ≤ S by grind)
  have hκS := Rat.mul_nonneg hκ0 huS
  have hBuS := Rat.mul_nonneg (show 0 ≤ B by grind) huS
  have hresA : ∀ q, q ∈ r :: rs → N (dot q (x0 :: (xs ++ [m1]))) ≤ kT n B κ * uE * S := fun q hq => by
    rcases hsplit q hq with rfl | ho
    · have h1 := Rat.mul_le_mul_of_nonneg_right hkT.2 huS
      grind
    · have hn0 : kT n B κ = kS n B κ := by
        cases n with
        | zero =>
          have h1 := hR.len
          have h2 := List.length_pos_of_mem ho
          rw [oth_len] at h2
          simp at h1
          rw [h1] at h2
          exact absurd h2 (by simp)
        | succ n => rfl
      rw [hn0]
      unfold kS
      have h1 := row_step (n := n) (x0 := x0) (Y := xs ++ [m1]) hB (hR.row q (oth_mem ho)) (hR.row b hbm) (hR.bd q (oth_mem ho)) (hR.bd b hbm) (by rw [hp0]; exact hd) (by rw [hp0]; exact hf q ho)
      have h2 := hres (redQ b q) (by rw [← hR']; exact List.mem_map.2 ⟨q, ho, rfl⟩)
      have h3 : sumN (xs ++ [m1]) = sumN xs + 1 := by rw [sumN_app]; simp only [sumN]; rw [N_m1]; grind
      rw [h3] at h1
      have h4 := Rat.mul_le_mul_of_nonneg_left hpiv2 (show 0 ≤ fM by grind)
      have h5 : 1 + sumN xs ≤ S := by grind
      have h6 := Rat.mul_le_mul_of_nonneg_left h5 (Rat.mul_nonneg hκ0 (Rat.le_of_lt hu))
      have h7 : N x0 + (sumN xs + 1) = S := by grind
      rw [h7] at h1
      grind
  have hκS2 : kT n B κ * uE ≤ 1 / 600 := by
    refine Rat.le_trans (Rat.mul_le_mul_of_nonneg_right hkT.1 (Rat.le_of_lt hu)) ?_
    unfold kS kb
    have h1 : fM * ((3 + eB n) * B) ≤ fM * (10 * 1000) := Rat.mul_le_mul_of_nonneg_left (Rat.le_trans (Rat.mul_le_mul_of_nonneg_right (show 3 + eB n ≤ 10 by grind) (by grind)) (Rat.mul_le_mul_of_nonneg_left hB2 (by decide))) (by grind)
    have h2 : fM * ((3 + eB n) * B) + κ + 8 * B ≤ fM * (10 * 1000) + 3000 + 8 * 1000 := by grind
    have h3 := Rat.mul_le_mul_of_nonneg_right h2 (Rat.le_of_lt hu)
    have k : (fM * (10 * 1000) + 3000 + 8 * 1000) * uE ≤ 1 / 600 := by decide +kernel
    grind
  refine ⟨?_, ?_, ?_, ?_⟩
  · rw [hsafeE]
    refine ⟨fun q hq a ha => Rat.le_trans (hR.bd q hq a ha) (by grind), hd, hpos, fun q hq => ⟨Rat.le_trans (hf q hq) (by decide +kernel), fun c hc => tm_big (hf q hq) (Rat.le_trans (htB c hc) hB2)⟩, hxs, hbs⟩
  · rw [hsolE]; simp [hxl]
  · rw [hsolE]
    intro x hx
    have hlow := hL (x0 :: xs) (by simp [hxl])
    have hrow : ∀ q, q ∈ r :: rs → N (dot q (x0 :: xs)) ≤ 1 / 600 * S + B := fun q hq => by
      have h1 := dot_last (x0 :: xs) q (by rw [hR.row q hq]; simp [hxl])
      have h2 := hresA q hq
      have e : (x0 :: xs) ++ [m1] = x0 :: (xs ++ [m1]) := rfl
      rw [e] at h1
      rw [h1] at h2
      have h3 := N_tri h2
      have h4 : N (lastQ q) ≤ B := hR.bd q hq _ (last_mem (fun e => by have := hR.row q hq; rw [e] at this; simp at this))
      have h5 := Rat.mul_le_mul_of_nonneg_right hκS2 (show 0 ≤ S by grind)
      grind
    have hnr : nrm (r :: rs) (x0 :: xs) ≤ ((n + 1 : Nat) : Rat) * (1 / 600 * S + B) := by
      have := sumR_mono (ψ := fun _ => 1 / 600 * S + B) (r :: rs) hrow
      rw [sumR_const, hR.len] at this
      exact this
    have hn3 : ((n + 1 : Nat) : Rat) ≤ 3 := nat_le3 (by omega)
    have hSB : 0 ≤ 1 / 600 * S + B := by grind
    have hnr2 := Rat.mul_le_mul_of_nonneg_right hn3 hSB
    have hnr3 := Rat.mul_le_mul_of_nonneg_left (Rat.le_trans hnr hnr2) (show 0 ≤ l by grind)
    have hnr4 := Rat.mul_le_mul_of_nonneg_right hl (show 0 ≤ 3 * (1 / 600 * S + B) by grind)
    have hV : ∀ a, a ∈ x0 :: xs → N a ≤ 20 * (3 * (1 / 600 * S + B)) := fun a ha => by
      have := hlow a ha; grind
    have hSV := sumN_le (x0 :: xs) hV
    simp only [sumN, List.length_cons, hxl] at hSV
    have hV0 : 0 ≤ 20 * (3 * (1 / 600 * S + B)) := by grind
    have hSV2 := Rat.mul_le_mul_of_nonneg_right hn3 hV0
    have hS2 : S ≤ 1 + 3 * (20 * (3 * (1 / 600 * S + B))) := by grind
    have := hV x hx
    have kX : (200000 : Rat) = XB := rfl
    grind
  · rw [hsolE]
    intro q hq
    have := hresA q hq
    simp only [sumN]
    rw [hSS]
    exact this
end
theorem good_cons {n : Nat} {B : Rat} {R : List (List CQ)} (h : Good (n + 1) B R) : ∃ r rs, R = r :: rs := by
  cases R with
  | nil => have := h.len; simp at this
  | cons r rs => exact ⟨r, rs, rfl⟩
theorem sol_1 {B l : Rat} {R : List (List CQ)} (hB : 1 ≤ B) (hB2 : B ≤ 1000) (hl0 : 1 ≤ l) (hl : l ≤ 20) (hR : Good 1 B R) (hL : Low 1 l R) : Sol 1 (3 * B) R := by
  obtain ⟨r, rs, rfl⟩ := good_cons hR
  have h := sol_step (n := 0) (κ := 0) (by omega) hB hB2 hl0 hl Rat.le_refl (by decide) (fun R' h1 _ => sol_zero h1) hR hL
  have e : kT 0 B 0 = 3 * B := by unfold kT kb eB; grind
  rw [e] at h
  exact h
def k2 (B : Rat) : Rat := kS 1 B (3 * (B * (243 / 100)))
theorem sol_2 {B l : Rat} {R : List (List CQ)} (hB : 1 ≤ B) (hB2 : B ≤ 100) (hl0 : 1 ≤ l) (hl : l ≤ 15) (hR : Good 2 B R) (hL : Low 2 l R) : Sol 2 (k2 B) R := by
  obtain ⟨r, rs, rfl⟩ := good_cons hR
  exact sol_step (n := 1) (κ := 3 * (B * (243 / 100))) (by omega) hB (by grind) hl0 (by grind) (by grind) (by grind) (fun R' h1 h2 => sol_1 (by grind) (by grind) (by grind) (by grind) h1 h2) hR hL
def k3 (B : Rat) : Rat := kS 2 B (k2 (B * (243 / 100)))
theorem k2_le {B : Rat} (h0 : 0 ≤ B) (h : B ≤ 50) : 0 ≤ k2 B ∧ k2 B ≤ 3000 := by
  have e : k2 B = B * (fM * kb 1 + 3 * (243 / 100) + 8) := by unfold k2 kS; grind
  have k : 50 * (fM * kb 1 + 3 * (243 / 100) + 8) ≤ 3000 := by decide +kernel
  have k0 : 0 ≤ fM * kb 1 + 3 * (243 / 100) + 8 := by decide +kernel
  rw [e]
  exact ⟨Rat.mul_nonneg h0 k0, Rat.le_trans (Rat.mul_le_mul_of_nonneg_right h k0) k⟩
theorem sol_3 {B l : Rat} {R : List (List CQ)} (hB : 1 ≤ B) (hB2 : B ≤ 20) (hl0 : 1 ≤ l) (hl : l ≤ 12) (hR : Good 3 B R) (hL : Low 3 l R) : Sol 3 (k3 B) R := by
  obtain ⟨r, rs, rfl⟩ := good_cons hR
  have hk := k2_le (B := B * (243 / 100)) (by grind) (by grind)
  exact sol_step (n := 2) (κ := k2 (B * (243 / 100))) (by omega) hB (by grind) hl0 (by grind) hk.1 hk.2 (fun R' h1 h2 => sol_2 (by grind) (by grind) (by grind) (by grind) h1 h2) hR hL
theorem k3_19 : k3 19 ≤ 1500 := by decide +kernel
theorem k2_19 : k2 19 ≤ 1500 := by decide +kernel
end Go.Fw.T1

/-
  Equations of circuits that lose something: no vector is made next to nothing.
-/
namespace Go.Fw.T1
open Go.Proofs
theorem part_bd {x z M : Rat} (t : CQ) (hx : ab x ≤ M) (hz : ab z ≤ M) : x * t.1 + z * t.2 ≤ M * N t := by
  have h1 := le_ab (x * t.1)
  have h2 := le_ab (z * t.2)
  rw [ab_mul] at h1 h2
  have h3 : ab x * ab t.1 ≤ M * ab t.1 := Rat.mul_le_mul_of_nonneg_right hx (ab_nonneg _)
  have h4 : ab z * ab t.2 ≤ M * ab t.2 := Rat.mul_le_mul_of_nonneg_right hz (ab_nonneg _)
  unfold N
  grind
theorem coer {M T : Rat} (hM : 0 ≤ M) (hT : 0 ≤ T) (h : M * M ≤ 4 * (M * T)) : M ≤ 4 * T := by
  by_cases h0 : M = 0
  · rw [h0]; grind
  · have hp : 0 < M := by grind
    have : M * M ≤ M * (4 * T) := by grind
    exact Rat.le_of_mul_le_mul_left this hp
theorem most_of : ∀ (x : Rat) (l : List Rat), ∃ m, m ∈ x :: l ∧ ∀ a, a ∈ x :: l → ab a ≤ ab m
  | x, [] => ⟨x, List.mem_cons_self, fun a ha => by
      rcases List.mem_cons.1 ha with h | h
      · rw [h]; exact Rat.le_refl
      · cases h⟩
  | x, y :: l => by
    obtain ⟨m, hm, h⟩ := most_of y l
    by_cases hx : ab x ≤ ab m
    · refine ⟨m, List.mem_cons_of_mem _ hm, fun a ha => ?_⟩
      rcases List.mem_cons.1 ha with e | e
      · rw [e]; exact hx
      · exact h a e
    · refine ⟨x, List.mem_cons_self, fun a ha => ?_⟩
      rcases List.mem_cons.1 ha with e | e
      · rw [e]; exact Rat.le_refl
      · have := h a e; grind
def q : Rat := 1 / 4
theorem sqq (x : Rat) : 0 ≤ x * x := by have := ab_sq x; have := Rat.mul_nonneg (ab_nonneg x) (ab_nonneg x); grind
theorem low_sum3 {r0 r1 r2 b00 b01 b02 b11 b12 b22 : Rat} (x0 z0 x1 z1 x2 z2 : Rat) (h0 : 1 / 4 ≤ r0) (h1 : 1 / 4 ≤ r1) (h2 : 1 / 4 ≤ r2) :
    x0 * x0 + z0 * z0 + x1 * x1 + z1 * z1 + x2 * x2 + z2 * z2 ≤ 4 * (
      (x0 * (r0 * x0 - (b00 * z0 + b01 * z1 + b02 * z2)) + z0 * (r0 * z0 + (b00 * x0 + b01 * x1 + b02 * x2))) +
      (x1 * (r1 * x1 - (b01 * z0 + b11 * z1 + b12 * z2)) + z1 * (r1 * z1 + (b01 * x0 + b11 * x1 + b12 * x2))) +
      (x2 * (r2 * x2 - (b02 * z0 + b12 * z1 + b22 * z2)) + z2 * (r2 * z2 + (b02 * x0 + b12 * x1 + b22 * x2)))) := by
  have e : (x0 * (r0 * x0 - (b00 * z0 + b01 * z1 + b02 * z2)) + z0 * (r0 * z0 + (b00 * x0 + b01 * x1 + b02 * x2))) +
      (x1 * (r1 * x1 - (b01 * z0 + b11 * z1 + b12 * z2)) + z1 * (r1 * z1 + (b01 * x0 + b11 * x1 + b12 * x2))) +
      (x2 * (r2 * x2 - (b02 * z0 + b12 * z1 + b22 * z2)) + z2 * (r2 * z2 + (b02 * x0 + b12 * x1 + b22 * x2))) =
      r0 * (x0 * x0 + z0 * z0) + r1 * (x1 * x1 + z1 * z1) + r2 * (x2 * x2 + z2 * z2) := by grind
  rw [e]
  have k : ∀ {r x z : Rat}, 1 / 4 ≤ r → x * x + z * z ≤ 4 * (r * (x * x + z * z)) := by
    intro r x z h
    have hp : 0 ≤ x * x + z * z := Rat.add_nonneg (sqq x) (sqq z)
    have := Rat.mul_le_mul_of_nonneg_right h hp
    grind
  have a0 := k (x := x0) (z := z0) h0
  have a1 := k (x := x1) (z := z1) h1
  have a2 := k (x := x2) (z := z2) h2
  grind
theorem len3 {α : Type} {l : List α} (h : l.length = 3) : ∃ a b c, l = [a, b, c] := by
  match l, h with
  | [a, b, c], _ => exact ⟨a, b, c, rfl⟩
def R3 (r0 r1 r2 b00 b01 b02 b11 b12 b22 : Rat) (v0 v1 v2 : CQ) : List (List CQ) :=
  [[(r0, b00), (0, b01), (0, b02), v0], [(0, b01), (r1, b11), (0, b12), v1], [(0, b02), (0, b12), (r2, b22), v2]]
theorem dot3 (r b : Rat) (u v w c : CQ) (y0 y1 y2 : CQ) : dot [u, v, w, c] [y0, y1, y2] = cadd (cmul u y0) (cadd (cmul v y1) (cadd (cmul w y2) (0, 0))) := rfl
theorem nrm3 (a b c : List CQ) (y : List CQ) : nrm [a, b, c] y = N (dot a y) + (N (dot b y) + (N (dot c y) + 0)) := rfl
theorem low3 {r0 r1 r2 b00 b01 b02 b11 b12 b22 : Rat} {v0 v1 v2 : CQ} (h0 : 1 / 4 ≤ r0) (h1 : 1 / 4 ≤ r1) (h2 : 1 / 4 ≤ r2) : Low 3 8 (R3 r0 r1 r2 b00 b01 b02 b11 b12 b22 v0 v1 v2) := by
  intro y hy a ha
  obtain ⟨⟨x0, z0⟩, ⟨x1, z1⟩, ⟨x2, z2⟩, rfl⟩ := len3 hy
  obtain ⟨m, hm, hM⟩ := most_of x0 [z0, x1, z1, x2, z2]
  have hs := low_sum3 (b00 := b00) (b01 := b01) (b02 := b02) (b11 := b11) (b12 := b12) (b22 := b22) x0 z0 x1 z1 x2 z2 h0 h1 h2
  have hmm : m * m ≤ x0 * x0 + z0 * z0 + x1 * x1 + z1 * z1 + x2 * x2 + z2 * z2 := by
    have := sqq x0; have := sqq z0; have := sqq x1; have := sqq z1; have := sqq x2; have := sqq z2
    simp only [List.mem_cons, List.not_mem_nil, or_false] at hm
    rcases hm with rfl | rfl | rfl | rfl | rfl | rfl <;> grind
  have c0 := hM x0 (by simp)
  have c1 := hM z0 (by simp)
  have c2 := hM x1 (by simp)
  have c3 := hM z1 (by simp)
  have c4 := hM x2 (by simp)
  have c5 := hM z2 (by simp)
  rw [show R3 r0 r1 r2 b00 b01 b02 b11 b12 b22 v0 v1 v2 = [[(r0, b00), (0, b01), (0, b02), v0], [(0, b01), (r1, b11), (0, b12), v1], [(0, b02), (0, b12), (r2, b22), v2]] from rfl, nrm3]
  have e0 : dot [(r0, b00), (0, b01), (0, b02), v0] [(x0, z0), (x1, z1), (x2, z2)] = (r0 * x0 - (b00 * z0 + b01 * z1 + b02 * z2), r0 * z0 + (b00 * x0 + b01 * x1 + b02 * x2)) := by
    rw [dot3 0 0]; unfold cadd cmul; dsimp only; congr 1 <;> grind
  have e1 : dot [(0, b01), (r1, b11), (0, b12), v1] [(x0, z0), (x1, z1), (x2, z2)] = (r1 * x1 - (b01 * z0 + b11 * z1 + b12 * z2), r1 * z1 + (b01 * x0 + b11 * x1 + b12 * x2)) := by
    rw [dot3 0 0]; unfold cadd cmul; dsimp only; congr 1 <;> grind
  have e2 : dot [(0, b02), (0, b12), (r2, b22), v2] [(x0, z0), (x1, z1), (x2, z2)] = (r2 * x2 - (b02 * z0 + b12 * z1 + b22 * z2), r2 * z2 + (b02 * x0 + b12 * x1 + b22 * x2)) := by
    rw [dot3 0 0]; unfold cadd cmul; dsimp only; congr 1 <;> grind
  have p0 := part_bd (dot [(r0, b00), (0, b01), (0, b02), v0] [(x0, z0), (x1, z1), (x2, z2)]) c0 c1
  have p1 := part_bd (dot [(0, b01), (r1, b11), (0, b12), v1] [(x0, z0), (x1, z1), (x2, z2)]) c2 c3
  have p2 := part_bd (dot [(0, b02), (0, b12), (r2, b22), v2] [(x0, z0), (x1, z1), (x2, z2)]) c4 c5
  generalize hT0 : N (dot [(r0, b00), (0, b01), (0, b02), v0] [(x0, z0), (x1, z1), (x2, z2)]) = T0 at *
  generalize hT1 : N (dot [(0, b01), (r1, b11), (0, b12), v1] [(x0, z0), (x1, z1), (x2, z2)]) = T1 at *
  generalize hT2 : N (dot [(0, b02), (0, b12), (r2, b22), v2] [(x0, z0), (x1, z1), (x2, z2)]) = T2 at *
  rw [e0] at p0
  rw [e1] at p1
  rw [e2] at p2
  have t0 : 0 ≤ T0 := hT0 ▸ N_nonneg _
  have t1 : 0 ≤ T1 := hT1 ▸ N_nonneg _
  have t2 : 0 ≤ T2 := hT2 ▸ N_nonneg _
  have hsq := ab_sq m
  have hk : ab m ≤ 4 * (T0 + T1 + T2) := coer (ab_nonneg m) (by grind) (by rw [hsq]; dsimp only at p0 p1 p2; grind)
  have : N a ≤ 2 * ab m := by
    simp only [List.mem_cons, List.not_mem_nil, or_false] at ha
    unfold N
    rcases ha with rfl | rfl | rfl <;> dsimp only <;> grind
  grind
end Go.Fw.T1

/-
  Equations of one and of two loops that lose something.
-/
namespace Go.Fw.T1
open Go.Proofs
theorem len2 {α : Type} {l : List α} (h : l.length = 2) : ∃ a b, l = [a, b] := by
  match l, h with
  | [a, b], _ => exact ⟨a, b, rfl⟩
theorem len1 {α : Type} {l : List α} (h : l.length = 1) : ∃ a, l = [a] := by
  match l, h with
  | [a], _ => exact ⟨a, rfl⟩
def R2 (r0 r1 b00 b01 b11 : Rat) (v0 v1 : CQ) : List (List CQ) := [[(r0, b00), (0, b01), v0], [(0, b01), (r1, b11), v1]]
def R1 (r0 b00 : Rat) (v0 : CQ) : List (List CQ) := [[(r0, b00), v0]]
theorem low2 {r0 r1 b00 b01 b11 : Rat} {v0 v1 : CQ} (h0 : 1 / 4 ≤ r0) (h1 : 1 / 4 ≤ r1) : Low 2 8 (R2 r0 r1 b00 b01 b11 v0 v1) := by
  intro y hy a ha
  obtain ⟨y0, y1, rfl⟩ := len2 hy
  have h := low3 (b00 := b00) (b01 := b01) (b02 := 0) (b11 := b11) (b12 := 0) (b22 := 0) (v0 := v0) (v1 := v1) (v2 := v1) h0 h1 (Rat.le_refl (a := 1 / 4)) [y0, y1, (0, 0)] rfl a (by simp only [List.mem_cons, List.not_mem_nil, or_false] at ha ⊢; rcases ha with h | h <;> simp [h])
  have z : N ((0, 0) : CQ) = 0 := N_zero
  have e0 : dot [(r0, b00), (0, b01), (0, 0), v0] [y0, y1, (0, 0)] = dot [(r0, b00), (0, b01), v0] [y0, y1] := by
    simp only [dot]; unfold cadd cmul; dsimp only; congr 1 <;> grind
  have e1 : dot [(0, b01), (r1, b11), (0, 0), v1] [y0, y1, (0, 0)] = dot [(0, b01), (r1, b11), v1] [y0, y1] := by
    simp only [dot]; unfold cadd cmul; dsimp only; congr 1 <;> grind
  have e2 : dot [(0, 0), (0, 0), ((1 / 4 : Rat), 0), v1] [y0, y1, (0, 0)] = (0, 0) := by
    simp only [dot]; unfold cadd cmul; dsimp only; congr 1 <;> grind
  rw [show R3 r0 r1 (1 / 4) b00 b01 0 b11 0 0 v0 v1 v1 = [[(r0, b00), (0, b01), (0, 0), v0], [(0, b01), (r1, b11), (0, 0), v1], [(0, 0), (0, 0), (1 / 4, 0), v1]] from rfl, nrm3, e0, e1, e2, z] at h
  show N a ≤ 8 * (N (dot [(r0, b00), (0, b01), v0] [y0, y1]) + (N (dot [(0, b01), (r1, b11), v1] [y0, y1]) + 0))
  grind
theorem low1 {r0 b00 : Rat} {v0 : CQ} (h0 : 1 / 4 ≤ r0) : Low 1 8 (R1 r0 b00 v0) := by
  intro y hy a ha
  obtain ⟨y0, rfl⟩ := len1 hy
  have h := low2 (b00 := b00) (b01 := 0) (b11 := 0) (v0 := v0) (v1 := v0) h0 (Rat.le_refl (a := 1 / 4)) [y0, (0, 0)] rfl a (by simp only [List.mem_cons, List.not_mem_nil, or_false] at ha ⊢; simp [ha])
  have z : N ((0, 0) : CQ) = 0 := N_zero
  have e0 : dot [(r0, b00), (0, 0), v0] [y0, (0, 0)] = dot [(r0, b00), v0] [y0] := by
    simp only [dot]; unfold cadd cmul; dsimp only; congr 1 <;> grind
  have e1 : dot [(0, 0), ((1 / 4 : Rat), 0), v0] [y0, (0, 0)] = (0, 0) := by
    simp only [dot]; unfold cadd cmul; dsimp only; congr 1 <;> grind
  have h' : N a ≤ 8 * (N (dot [(r0, b00), (0, 0), v0] [y0, (0, 0)]) + (N (dot [(0, 0), ((1 / 4 : Rat), 0), v0] [y0, (0, 0)]) + 0)) := h
  rw [e0, e1, z] at h'
  show N a ≤ 8 * (N (dot [(r0, b00), v0] [y0]) + 0)
  grind
end Go.Fw.T1

/-
  Equations of one and of two complex numbers: the contract.
-/
namespace Go.Fw.T1
open Go.Proofs
def solW (x y : Nat → Nat) : Bool := gtW (pw (x 2) (y 2)) (pw (x 0) (y 0))
def sol (n : Nat) (x y u v : Nat → Nat) : Bool × Rw := match n with
  | 1 => mSolve 1 x y u v []
  | 2 => bif solW x y then mSolve 2 x y u v [true] else mSolve 2 x y u v [false]
  | _ => (false, (u, v))
def solOk (n : Nat) (x y u v : Nat → Nat) : Bool := (sol n x y u v).1
def solX (n : Nat) (x y u v : Nat → Nat) (j : Nat) : Nat := (sol n x y u v).2.1 j
def solY (n : Nat) (x y u v : Nat → Nat) (j : Nat) : Nat := (sol n x y u v).2.2 j
noncomputable def sSolve : List A → Option (Bool × A)
  | [.ro 1 m (.cpxs .f32 x y), .ro 1 n (.cpxs .f32 u v)] => match m, n with
    | 1, 1 => some (solOk 1 x y u v, .tup [.ro 1 1 (.cpxs .f32 (solX 1 x y u v) (solY 1 x y u v)), .bool true])
    | 4, 2 => some (solOk 2 x y u v, .tup [.ro 1 2 (.cpxs .f32 (solX 2 x y u v) (solY 2 x y u v)), .bool true])
    | _, _ => none
  | _ => none
theorem sSolve_at : EnvAt Try.prog 47 sSolve := by
  refine ⟨⟨Try.f47, Try.func47, by kernel_rfl, by kernel_rfl⟩, fun ds cc rr h hc => ?_⟩
  unfold sSolve at h
  split at h
  · rename_i m x y n u v
    split at h
    · simp only [Option.some.injEq, Prod.mk.injEq] at h
      obtain ⟨rfl, rfl⟩ := h
      exact autoW_ok cfgA4_ok Try.func47 (by kernel_rfl) (lp_none _) (walkS1 x y u v) hc
    · simp only [Option.some.injEq, Prod.mk.injEq] at h
      obtain ⟨rfl, rfl⟩ := h
      have e : sol 2 x y u v = bif solW x y then mSolve 2 x y u v [true] else mSolve 2 x y u v [false] := rfl
      unfold solOk at hc
      show PureCall Try.prog 47 _ (.tup [.ro 1 2 (.cpxs .f32 (sol 2 x y u v).2.1 (sol 2 x y u v).2.2), .bool true])
      rw [e] at hc ⊢
      cases hs : solW x y
      · rw [hs] at hc
        exact autoW_ok cfgA4_ok Try.func47 (by kernel_rfl) (lp_none _) (walkS2a x y u v) hc
      · rw [hs] at hc
        exact autoW_ok cfgA4_ok Try.func47 (by kernel_rfl) (lp_none _) (walkS2b x y u v) hc
    · cases h
  · cases h
noncomputable def envB1 : List (Nat × (List A → Option (Bool × A))) := (47, sSolve) :: (20, s35T) :: (46, s72) :: (7, s31T) :: (13, s44T) :: envA4
theorem envB1_ok : EnvOK Try.prog (look envB1) := env_cons sSolve_at (env_cons s35T_at (env_cons s72_at (env_cons s31T_at (env_cons s44T_at envA4_ok))))
noncomputable def cfgB1 : Cfg := mkCfg tab [] xts (look envB1)
theorem cfgB1_ok : CfgOK Try.prog cfgB1 := cfg_ok tab_eq (no_fts _) xts_ok envB1_ok mixed
noncomputable def sCurr : List A → Option (Bool × A)
  | [.agg [.ro 1 n (.flts .f32 r), .ro 1 gn (.flts .f32 g), .ro 1 cn (.flts .f32 c)], .ro 1 m (.cpxs .f32 u v), .flt .f32 w] => match n, gn, cn, m with
    | 1, 1, 1, 1 => some (impOk 1 1 1 r g c w && solOk 1 (zR 1 r) (zI 1 g c w) u v, .tup [.ro 1 1 (.cpxs .f32 (solX 1 (zR 1 r) (zI 1 g c w) u v) (solY 1 (zR 1 r) (zI 1 g c w) u v)), .bool true])
    | 2, 2, 4, 2 => some (impOk 2 2 4 r g c w && solOk 2 (zR 2 r) (zI 2 g c w) u v, .tup [.ro 1 2 (.cpxs .f32 (solX 2 (zR 2 r) (zI 2 g c w) u v) (solY 2 (zR 2 r) (zI 2 g c w) u v)), .bool true])
    | _, _, _, _ => none
  | _ => none
theorem walkC1 (r g c u v : Nat → Nat) (w : Nat) : autoW cfgB1 (fun _ => true) 6 (fun _ => none) [false] Try.f21 [.agg [.ro 1 1 (.flts .f32 r), .ro 1 1 (.flts .f32 g), .ro 1 1 (.flts .f32 c)], .ro 1 1 (.cpxs .f32 u v), .flt .f32 w] =
    some ((!bif bif !valid 1 1 1 r g c then true else false then true else !above w) && (solOk 1 (zR 1 r) (zI 1 g c w) u v && true), .tup [.ro 1 1 (.cpxs .f32 (solX 1 (zR 1 r) (zI 1 g c w) u v) (solY 1 (zR 1 r) (zI 1 g c w) u v)), .bool true]) := by kernel_rfl
theorem walkC2 (r g c u v : Nat → Nat) (w : Nat) : autoW cfgB1 (fun _ => true) 6 (fun _ => none) [false] Try.f21 [.agg [.ro 1 2 (.flts .f32 r), .ro 1 2 (.flts .f32 g), .ro 1 4 (.flts .f32 c)], .ro 1 2 (.cpxs .f32 u v), .flt .f32 w] =
    some ((!bif bif !valid 2 2 4 r g c then true else false then true else !above w) && (solOk 2 (zR 2 r) (zI 2 g c w) u v && true), .tup [.ro 1 2 (.cpxs .f32 (solX 2 (zR 2 r) (zI 2 g c w) u v) (solY 2 (zR 2 r) (zI 2 g c w) u v)), .bool true]) := by kernel_rfl
theorem imp_not {a b : Bool} (h : (a && b) = true) : (!bif bif !a then true else false then true else !b) = true := by cases a <;> cases b <;> first | rfl | cases h
theorem sCurr_at : EnvAt Try.prog 21 sCurr := by
  refine ⟨⟨Try.f21, Try.func21, by kernel_rfl, by kernel_rfl⟩, fun ds cc rr h hc => ?_⟩
  unfold sCurr at h
  split at h
  · rename_i n r gn g cn c m u v w
    split at h
    · simp only [Option.some.injEq, Prod.mk.injEq] at h
      obtain ⟨rfl, rfl⟩ := h
      simp only [Bool.and_eq_true] at hc
      exact autoW_ok cfgB1_ok Try.func21 (by kernel_rfl) (lp_none _) (walkC1 r g c u v w) (by rw [imp_not hc.1, hc.2]; rfl)
    · simp only [Option.some.injEq, Prod.mk.injEq] at h
      obtain ⟨rfl, rfl⟩ := h
      simp only [Bool.and_eq_true] at hc
      exact autoW_ok cfgB1_ok Try.func21 (by kernel_rfl) (lp_none _) (walkC2 r g c u v w) (by rw [imp_not hc.1, hc.2]; rfl)
    · cases h
  · cases h
noncomputable def envB2 : List (Nat × (List A → Option (Bool × A))) := (21, sCurr) :: envB1
theorem envB2_ok : EnvOK Try.prog (look envB2) := env_cons sCurr_at envB1_ok
noncomputable def cfgB2 : Cfg := mkCfg tab [] xts (look envB2)
theorem cfgB2_ok : CfgOK Try.prog cfgB2 := cfg_ok tab_eq (no_fts _) xts_ok envB2_ok mixed
end Go.Fw.T1

/-
  What loops show at a port.
-/
namespace Go.Fw.T1
open Go.Proofs
def eU (j : Nat) : Nat := match decide (j = Int.toNat 0) with | true => can .f32 1065353216 | false => 0
def eV (j : Nat) : Nat := match decide (j = Int.toNat 0) with | true => can .f32 0 | false => 0
def portX (n : Nat) (r g c : Nat → Nat) (w : Nat) : Nat := solX n (zR n r) (zI n g c w) eU eV 0
def portY (n : Nat) (r g c : Nat → Nat) (w : Nat) : Nat := solY n (zR n r) (zI n g c w) eU eV 0
def portOk (n : Nat) (r g c : Nat → Nat) (w : Nat) : Bool := solOk n (zR n r) (zI n g c w) eU eV && ovOk (can .f32 1065353216) (can .f32 0) (portX n r g c w) (portY n r g c w)
def portR (n : Nat) (r g c : Nat → Nat) (w : Nat) : Nat := ovR (can .f32 1065353216) (can .f32 0) (portX n r g c w) (portY n r g c w)
def portI (n : Nat) (r g c : Nat → Nat) (w : Nat) : Nat := ovI (can .f32 1065353216) (can .f32 0) (portX n r g c w) (portY n r g c w)
noncomputable def sPort : List A → Option (Bool × A)
  | [.agg [.ro 1 n (.flts .f32 r), .ro 1 gn (.flts .f32 g), .ro 1 cn (.flts .f32 c)], .int .i64 (.ofNat 0), .flt .f32 w] => match n, gn, cn with
    | 1, 1, 1 => some (impOk 1 1 1 r g c w && portOk 1 r g c w, .tup [.cpx .f32 (portR 1 r g c w) (portI 1 r g c w), .bool true])
    | 2, 2, 4 => some (impOk 2 2 4 r g c w && portOk 2 r g c w, .tup [.cpx .f32 (portR 2 r g c w) (portI 2 r g c w), .bool true])
    | _, _, _ => none
  | _ => none
theorem walkP1 (r g c : Nat → Nat) (w : Nat) : autoW cfgB2 (fun _ => true) 6 (fun _ => none) [false, false] Try.f9 [.agg [.ro 1 1 (.flts .f32 r), .ro 1 1 (.flts .f32 g), .ro 1 1 (.flts .f32 c)], .int .i64 0, .flt .f32 w] =
    some ((!!bif valid 1 1 1 r g c then true else false) && ((impOk 1 1 1 r g c w && solOk 1 (zR 1 r) (zI 1 g c w) eU eV) && (ovOk (can .f32 1065353216) (can .f32 0) (portX 1 r g c w) (portY 1 r g c w) && true)), .tup [.cpx .f32 (portR 1 r g c w) (portI 1 r g c w), .bool true]) := by kernel_rfl
theorem walkP2 (r g c : Nat → Nat) (w : Nat) : autoW cfgB2 (fun _ => true) 6 (fun _ => none) [false, false] Try.f9 [.agg [.ro 1 2 (.flts .f32 r), .ro 1 2 (.flts .f32 g), .ro 1 4 (.flts .f32 c)], .int .i64 0, .flt .f32 w] =
    some ((!!bif valid 2 2 4 r g c then true else false) && ((impOk 2 2 4 r g c w && solOk 2 (zR 2 r) (zI 2 g c w) eU eV) && (ovOk (can .f32 1065353216) (can .f32 0) (portX 2 r g c w) (portY 2 r g c w) && true)), .tup [.cpx .f32 (portR 2 r g c w) (portI 2 r g c w), .bool true]) := by kernel_rfl
theorem port_and {a b s o : Bool} (h : ((a && b) && (s && o)) = true) : ((!!bif a then true else false) && (((a && b) && s) && (o && true))) = true := by cases a <;> cases b <;> cases s <;> cases o <;> first | rfl | cases h
theorem sPort_at : EnvAt Try.prog 9 sPort := by
  refine ⟨⟨Try.f9, Try.func9, by kernel_rfl, by kernel_rfl⟩, fun ds cc rr h hc => ?_⟩
  unfold sPort at h
  split at h
  · rename_i n r gn g cn c w
    split at h
    · simp only [Option.some.injEq, Prod.mk.injEq] at h
      obtain ⟨rfl, rfl⟩ := h
      exact autoW_ok cfgB2_ok Try.func9 (by kernel_rfl) (lp_none _) (walkP1 r g c w) (port_and hc)
    · simp only [Option.some.injEq, Prod.mk.injEq] at h
      obtain ⟨rfl, rfl⟩ := h
      exact autoW_ok cfgB2_ok Try.func9 (by kernel_rfl) (lp_none _) (walkP2 r g c w) (port_and hc)
    · cases h
  · cases h
noncomputable def envB3 : List (Nat × (List A → Option (Bool × A))) := (9, sPort) :: envB2
theorem envB3_ok : EnvOK Try.prog (look envB3) := env_cons sPort_at envB2_ok
noncomputable def cfgB3 : Cfg := mkCfg tab [] xts (look envB3)
theorem cfgB3_ok : CfgOK Try.prog cfgB3 := cfg_ok tab_eq (no_fts _) xts_ok envB3_ok mixed
end Go.Fw.T1

/-
  What is reflected; a scan of four; bytes' choices.
-/
namespace Go.Fw.T1
open Go.Proofs
open Go.RowKit (Below)
def byt (g : Nat → A) (i : Nat) : Nat := match g i with | .int .u8 n => n.toNat | _ => 0
def isU8 (g : Nat → A) (i : Nat) : Bool := match g i with | .int .u8 n => decide (0 ≤ n) && decide (n < 256) | _ => false
theorem isU8_eq {g : Nat → A} {i : Nat} (h : isU8 g i = true) : g i = .int .u8 (Int.ofNat (byt g i)) ∧ byt g i < 256 := by
  unfold isU8 at h
  unfold byt
  split at h
  · rename_i n hn
    simp only [Bool.and_eq_true, decide_eq_true_eq] at h
    rw [hn]
    show A.int .u8 n = .int .u8 (Int.ofNat n.toNat) ∧ n.toNat < 256
    rw [show Int.ofNat n.toNat = n from Int.toNat_of_nonneg h.1]
    exact ⟨rfl, by omega⟩
  · cases h
theorem pure_bytes {f la : Nat} {g : Nat → A} {rest : List A} {r : A} (hg : allUpTo (isU8 g) la = true) (h : PureCall Try.prog f (.ro 1 la (.gen fun i => .int .u8 (Int.ofNat (byt g i))) :: rest) r) : PureCall Try.prog f (.ro 1 la (.gen g) :: rest) r := fun w vs T hT hs hr =>
  h w vs T hT hs fun i hi => match i, hi with
    | 0, _ => (hr 0 (Nat.succ_pos _)).row_congr fun i hi => (isU8_eq (allUpTo_iff.1 hg i hi)).1
    | i + 1, hi => hr (i + 1) hi
noncomputable def bAtI (la : Nat) (b : Nat → Nat) (i n : Nat) : Int := bif decide (Int.ofNat i < Int.ofNat la) then (IntKind.i64.wrap (Int.ofNat (b i))).tmod (Int.ofNat n) else (IntKind.i64.wrap (IntKind.i64.wrap (Int.ofNat i * Int.ofNat 37) + Int.ofNat 11)).tmod (Int.ofNat n)
noncomputable def sAt : List A → Option (Bool × A)
  | [.ro 1 la (.gen g), .int .i64 (.ofNat i), .int .i64 (.ofNat n)] => some (allUpTo (isU8 g) la && Nat.ble 2 n, .int .i64 (bAtI la (byt g) i n))
  | _ => none
theorem autoAt (la : Nat) (b : Nat → Nat) (i n : Nat) : autoLp cfgB3 (fun _ => none) Try.f6 [.ro 1 la (.gen fun j => .int .u8 (Int.ofNat (b j))), .int .i64 (Int.ofNat i), .int .i64 (Int.ofNat n)] =
    some (bif decide (Int.ofNat n ≤ 1) then true else bif decide (Int.ofNat i < Int.ofNat la) then decide (0 ≤ Int.ofNat i) && decide (Int.ofNat i < Int.ofNat la) && (!decide (Int.ofNat n = 0) && true) else !decide (Int.ofNat n = 0) && true, A.int .i64 (bif decide (Int.ofNat n ≤ 1) then 0 else bAtI la b i n)) := by kernel_rfl
theorem sAt_at : EnvAt Try.prog 6 sAt := by
  refine ⟨⟨Try.f6, Try.func6, by kernel_rfl, by kernel_rfl⟩, fun ds cc rr h hc => ?_⟩
  unfold sAt at h
  split at h
  · rename_i la g i n
    simp only [Option.some.injEq, Prod.mk.injEq] at h
    obtain ⟨rfl, rfl⟩ := h
    simp only [Bool.and_eq_true, Nat.ble_eq] at hc
    refine pure_bytes hc.1 ?_
    have h1 : decide (Int.ofNat n ≤ 1) = false := by simp; omega
    have h2 : decide (Int.ofNat n = 0) = false := by simp; omega
    have := autoAt la (byt g) i n
    rw [h1, h2] at this
    refine autoLp_ok cfgB3_ok Try.func6 (by kernel_rfl) (lp_none _) this ?_
    cases hd : decide (Int.ofNat i < Int.ofNat la) <;> simp
  · cases h
end Go.Fw.T1

/-
  The law of loops that are tuned: its walk.
-/
namespace Go.Fw.T1
open Go.Proofs
end Go.Fw.T1

/-
  Complex numbers evaluated by the kernel; equations of one and of two.
-/
namespace Go.Fw.T1
open Go.Proofs
noncomputable def band (a b : Bool) : Bool := Bool.rec false b a
theorem band_eq (a b : Bool) : band a b = (a && b) := by cases a <;> rfl
theorem band_t {a b : Bool} (h : band a b = true) : a = true ∧ b = true := by rw [band_eq, Bool.and_eq_true] at h; exact h
end Go.Fw.T1

/-
  The law of loops that are tuned: what is to be checked, and what follows.
-/
namespace Go.Fw.T1
open Go.Proofs
end Go.Fw.T1

/-
  The law of loops that are tuned: what the kernel evaluates, for a loop alone.
-/
namespace Go.Fw.T1
open Go.Proofs
end Go.Fw.T1

/-
  1 equations solved: the way of one.
-/
namespace Go.Fw.T1
open Go.Proofs
noncomputable def wS1 (x y u v : Nat → Nat) : Option (Bool × A) := autoW cfgA4 own47 2 (fun _ => none) [false, true, false, true, true, true, false, false, false, true, false, false] Try.f47 [.ro 1 1 (.cpxs .f32 x y), .ro 1 1 (.cpxs .f32 u v)]
theorem walkT1 (x y u v : Nat → Nat) : wS1 x y u v = some ((lSolve 1 x y u v []).1, .tup [.ro 1 1 (.cpxs .f32 (pX (wS1 x y u v)) (pY (wS1 x y u v))), .bool true]) := by kernel_rfl
theorem valT1 (x y u v : Nat → Nat) : (pX (wS1 x y u v) 0, pY (wS1 x y u v) 0) = ((lc (lSolve 1 x y u v []).2 0).1, (lc (lSolve 1 x y u v []).2 0).2) := by kernel_rfl
end Go.Fw.T1

/-
  2 equations solved: the way f.
-/
namespace Go.Fw.T1
open Go.Proofs
noncomputable def wS2f (x y u v : Nat → Nat) : Option (Bool × A) := autoW cfgA4 own47 3 (fun _ => none) [false, true, true, false, true, true, true, true, false, false, false, true, true, false, true, true, true, false, false, false, true, false, true, true, false, false] Try.f47 [.ro 1 4 (.cpxs .f32 x y), .ro 1 2 (.cpxs .f32 u v)]
theorem walkT2f (x y u v : Nat → Nat) : wS2f x y u v = some ((lSolve 2 x y u v [false]).1, .tup [.ro 1 2 (.cpxs .f32 (pX (wS2f x y u v)) (pY (wS2f x y u v))), .bool true]) := by kernel_rfl
theorem valT2f (x y u v : Nat → Nat) : (pX (wS2f x y u v) 0, pY (wS2f x y u v) 0, pX (wS2f x y u v) 1, pY (wS2f x y u v) 1) = ((lc (lSolve 2 x y u v [false]).2 0).1, (lc (lSolve 2 x y u v [false]).2 0).2, (lc (lSolve 2 x y u v [false]).2 1).1, (lc (lSolve 2 x y u v [false]).2 1).2) := by kernel_rfl
end Go.Fw.T1

/-
  2 equations solved: the way t.
-/
namespace Go.Fw.T1
open Go.Proofs
noncomputable def wS2t (x y u v : Nat → Nat) : Option (Bool × A) := autoW cfgA4 own47 3 (fun _ => none) [false, true, true, false, true, true, true, true, true, false, false, true, true, false, true, true, true, false, false, false, true, false, true, true, false, false] Try.f47 [.ro 1 4 (.cpxs .f32 x y), .ro 1 2 (.cpxs .f32 u v)]
theorem walkT2t (x y u v : Nat → Nat) : wS2t x y u v = some ((lSolve 2 x y u v [true]).1, .tup [.ro 1 2 (.cpxs .f32 (pX (wS2t x y u v)) (pY (wS2t x y u v))), .bool true]) := by kernel_rfl
theorem valT2t (x y u v : Nat → Nat) : (pX (wS2t x y u v) 0, pY (wS2t x y u v) 0, pX (wS2t x y u v) 1, pY (wS2t x y u v) 1) = ((lc (lSolve 2 x y u v [true]).2 0).1, (lc (lSolve 2 x y u v [true]).2 0).2, (lc (lSolve 2 x y u v [true]).2 1).1, (lc (lSolve 2 x y u v [true]).2 1).2) := by kernel_rfl
end Go.Fw.T1

/-
  3 equations solved: the way fff.
-/
namespace Go.Fw.T1
open Go.Proofs
noncomputable def wS3fff (x y u v : Nat → Nat) : Option (Bool × A) := autoW cfgA4 own47 4 (fun _ => none) [false, true, true, true, false, true, true, true, true, false, true, false, false, false, true, true, true, false, true, true, true, false, true, true, true, true, false, false, false, true, true, false, true, true, true, false, false, false, true, false, true, true, false, true, true, true, false, false] Try.f47 [.ro 1 9 (.cpxs .f32 x y), .ro 1 3 (.cpxs .f32 u v)]
theorem walkT3fff (x y u v : Nat → Nat) : wS3fff x y u v = some ((lSolve 3 x y u v [false, false, false]).1, .tup [.ro 1 3 (.cpxs .f32 (pX (wS3fff x y u v)) (pY (wS3fff x y u v))), .bool true]) := by kernel_rfl
theorem valT3fff (x y u v : Nat → Nat) : (pX (wS3fff x y u v) 0, pY (wS3fff x y u v) 0, pX (wS3fff x y u v) 1, pY (wS3fff x y u v) 1, pX (wS3fff x y u v) 2, pY (wS3fff x y u v) 2) = ((lc (lSolve 3 x y u v [false, false, false]).2 0).1, (lc (lSolve 3 x y u v [false, false, false]).2 0).2, (lc (lSolve 3 x y u v [false, false, false]).2 1).1, (lc (lSolve 3 x y u v [false, false, false]).2 1).2, (lc (lSolve 3 x y u v [false, false, false]).2 2).1, (lc (lSolve 3 x y u v [false, false, false]).2 2).2) := by kernel_rfl
end Go.Fw.T1

/-
  3 equations solved: the way fft.
-/
namespace Go.Fw.T1
open Go.Proofs
noncomputable def wS3fft (x y u v : Nat → Nat) : Option (Bool × A) := autoW cfgA4 own47 4 (fun _ => none) [false, true, true, true, false, true, true, true, true, false, true, false, false, false, true, true, true, false, true, true, true, false, true, true, true, true, true, false, false, true, true, false, true, true, true, false, false, false, true, false, true, true, false, true, true, true, false, false] Try.f47 [.ro 1 9 (.cpxs .f32 x y), .ro 1 3 (.cpxs .f32 u v)]
theorem walkT3fft (x y u v : Nat → Nat) : wS3fft x y u v = some ((lSolve 3 x y u v [false, false, true]).1, .tup [.ro 1 3 (.cpxs .f32 (pX (wS3fft x y u v)) (pY (wS3fft x y u v))), .bool true]) := by kernel_rfl
theorem valT3fft (x y u v : Nat → Nat) : (pX (wS3fft x y u v) 0, pY (wS3fft x y u v) 0, pX (wS3fft x y u v) 1, pY (wS3fft x y u v) 1, pX (wS3fft x y u v) 2, pY (wS3fft x y u v) 2) = ((lc (lSolve 3 x y u v [false, false, true]).2 0).1, (lc (lSolve 3 x y u v [false, false, true]).2 0).2, (lc (lSolve 3 x y u v [false, false, true]).2 1).1, (lc (lSolve 3 x y u v [false, false, true]).2 1).2, (lc (lSolve 3 x y u v [false, false, true]).2 2).1, (lc (lSolve 3 x y u v [false, false, true]).2 2).2) := by kernel_rfl
end Go.Fw.T1

/-
  3 equations solved: the way ftf.
-/
namespace Go.Fw.T1
open Go.Proofs
noncomputable def wS3ftf (x y u v : Nat → Nat) : Option (Bool × A) := autoW cfgA4 own47 4 (fun _ => none) [false, true, true, true, false, true, true, true, true, false, true, true, false, false, true, true, true, false, true, true, true, false, true, true, true, true, false, false, false, true, true, false, true, true, true, false, false, false, true, false, true, true, false, true, true, true, false, false] Try.f47 [.ro 1 9 (.cpxs .f32 x y), .ro 1 3 (.cpxs .f32 u v)]
theorem walkT3ftf (x y u v : Nat → Nat) : wS3ftf x y u v = some ((lSolve 3 x y u v [false, true, false]).1, .tup [.ro 1 3 (.cpxs .f32 (pX (wS3ftf x y u v)) (pY (wS3ftf x y u v))), .bool true]) := by kernel_rfl
theorem valT3ftf (x y u v : Nat → Nat) : (pX (wS3ftf x y u v) 0, pY (wS3ftf x y u v) 0, pX (wS3ftf x y u v) 1, pY (wS3ftf x y u v) 1, pX (wS3ftf x y u v) 2, pY (wS3ftf x y u v) 2) = ((lc (lSolve 3 x y u v [false, true, false]).2 0).1, (lc (lSolve 3 x y u v [false, true, false]).2 0).2, (lc (lSolve 3 x y u v [false, true, false]).2 1).1, (lc (lSolve 3 x y u v [false, true, false]).2 1).2, (lc (lSolve 3 x y u v [false, true, false]).2 2).1, (lc (lSolve 3 x y u v [false, true, false]).2 2).2) := by kernel_rfl
end Go.Fw.T1

/-
  3 equations solved: the way ftt.
-/
namespace Go.Fw.T1
open Go.Proofs
noncomputable def wS3ftt (x y u v : Nat → Nat) : Option (Bool × A) := autoW cfgA4 own47 4 (fun _ => none) [false, true, true, true, false, true, true, true, true, false, true, true, false, false, true, true, true, false, true, true, true, false, true, true, true, true, true, false, false, true, true, false, true, true, true, false, false, false, true, false, true, true, false, true, true, true, false, false] Try.f47 [.ro 1 9 (.cpxs .f32 x y), .ro 1 3 (.cpxs .f32 u v)]
theorem walkT3ftt (x y u v : Nat → Nat) : wS3ftt x y u v = some ((lSolve 3 x y u v [false, true, true]).1, .tup [.ro 1 3 (.cpxs .f32 (pX (wS3ftt x y u v)) (pY (wS3ftt x y u v))), .bool true]) := by kernel_rfl
theorem valT3ftt (x y u v : Nat → Nat) : (pX (wS3ftt x y u v) 0, pY (wS3ftt x y u v) 0, pX (wS3ftt x y u v) 1, pY (wS3ftt x y u v) 1, pX (wS3ftt x y u v) 2, pY (wS3ftt x y u v) 2) = ((lc (lSolve 3 x y u v [false, true, true]).2 0).1, (lc (lSolve 3 x y u v [false, true, true]).2 0).2, (lc (lSolve 3 x y u v [false, true, true]).2 1).1, (lc (lSolve 3 x y u v [false, true, true]).2 1).2, (lc (lSolve 3 x y u v [false, true, true]).2 2).1, (lc (lSolve 3 x y u v [false, true, true]).2 2).2) := by kernel_rfl
end Go.Fw.T1

/-
  3 equations solved: the way tff.
-/
namespace Go.Fw.T1
open Go.Proofs
noncomputable def wS3tff (x y u v : Nat → Nat) : Option (Bool × A) := autoW cfgA4 own47 4 (fun _ => none) [false, true, true, true, false, true, true, true, true, true, true, false, false, false, true, true, true, false, true, true, true, false, true, true, true, true, false, false, false, true, true, false, true, true, true, false, false, false, true, false, true, true, false, true, true, true, false, false] Try.f47 [.ro 1 9 (.cpxs .f32 x y), .ro 1 3 (.cpxs .f32 u v)]
theorem walkT3tff (x y u v : Nat → Nat) : wS3tff x y u v = some ((lSolve 3 x y u v [true, false, false]).1, .tup [.ro 1 3 (.cpxs .f32 (pX (wS3tff x y u v)) (pY (wS3tff x y u v))), .bool true]) := by kernel_rfl
theorem valT3tff (x y u v : Nat → Nat) : (pX (wS3tff x y u v) 0, pY (wS3tff x y u v) 0, pX (wS3tff x y u v) 1, pY (wS3tff x y u v) 1, pX (wS3tff x y u v) 2, pY (wS3tff x y u v) 2) = ((lc (lSolve 3 x y u v [true, false, false]).2 0).1, (lc (lSolve 3 x y u v [true, false, false]).2 0).2, (lc (lSolve 3 x y u v [true, false, false]).2 1).1, (lc (lSolve 3 x y u v [true, false, false]).2 1).2, (lc (lSolve 3 x y u v [true, false, false]).2 2).1, (lc (lSolve 3 x y u v [true, false, false]).2 2).2) := by kernel_rfl
end Go.Fw.T1

/-
  3 equations solved: the way tft.
-/
namespace Go.Fw.T1
open Go.Proofs
noncomputable def wS3tft (x y u v : Nat → Nat) : Option (Bool × A) := autoW cfgA4 own47 4 (fun _ => none) [false, true, true, true, false, true, true, true, true, true, true, false, false, false, true, true, true, false, true, true, true, false, true, true, true, true, true, false, false, true, true, false, true, true, true, false, false, false, true, false, true, true, false, true, true, true, false, false] Try.f47 [.ro 1 9 (.cpxs .f32 x y), .ro 1 3 (.cpxs .f32 u v)]
theorem walkT3tft (x y u v : Nat → Nat) : wS3tft x y u v = some ((lSolve 3 x y u v [true, false, true]).1, .tup [.ro 1 3 (.cpxs .f32 (pX (wS3tft x y u v)) (pY (wS3tft x y u v))), .bool true]) := by kernel_rfl
theorem valT3tft (x y u v : Nat → Nat) : (pX (wS3tft x y u v) 0, pY (wS3tft x y u v) 0, pX (wS3tft x y u v) 1, pY (wS3tft x y u v) 1, pX (wS3tft x y u v) 2, pY (wS3tft x y u v) 2) = ((lc (lSolve 3 x y u v [true, false, true]).2 0).1, (lc (lSolve 3 x y u v [true, false, true]).2 0).2, (lc (lSolve 3 x y u v [true, false, true]).2 1).1, (lc (lSolve 3 x y u v [true, false, true]).2 1).2, (lc (lSolve 3 x y u v [true, false, true]).2 2).1, (lc (lSolve 3 x y u v [true, false, true]).2 2).2) := by kernel_rfl
end Go.Fw.T1

/-
  3 equations solved: the way ttf.
-/
namespace Go.Fw.T1
open Go.Proofs
noncomputable def wS3ttf (x y u v : Nat → Nat) : Option (Bool × A) := autoW cfgA4 own47 4 (fun _ => none) [false, true, true, true, false, true, true, true, true, true, true, true, false, false, true, true, true, false, true, true, true, false, true, true, true, true, false, false, false, true, true, false, true, true, true, false, false, false, true, false, true, true, false, true, true, true, false, false] Try.f47 [.ro 1 9 (.cpxs .f32 x y), .ro 1 3 (.cpxs .f32 u v)]
theorem walkT3ttf (x y u v : Nat → Nat) : wS3ttf x y u v = some ((lSolve 3 x y u v [true, true, false]).1, .tup [.ro 1 3 (.cpxs .f32 (pX (wS3ttf x y u v)) (pY (wS3ttf x y u v))), .bool true]) := by kernel_rfl
theorem valT3ttf (x y u v : Nat → Nat) : (pX (wS3ttf x y u v) 0, pY (wS3ttf x y u v) 0, pX (wS3ttf x y u v) 1, pY (wS3ttf x y u v) 1, pX (wS3ttf x y u v) 2, pY (wS3ttf x y u v) 2) = ((lc (lSolve 3 x y u v [true, true, false]).2 0).1, (lc (lSolve 3 x y u v [true, true, false]).2 0).2, (lc (lSolve 3 x y u v [true, true, false]).2 1).1, (lc (lSolve 3 x y u v [true, true, false]).2 1).2, (lc (lSolve 3 x y u v [true, true, false]).2 2).1, (lc (lSolve 3 x y u v [true, true, false]).2 2).2) := by kernel_rfl
end Go.Fw.T1

/-
  3 equations solved: the way ttt.
-/
namespace Go.Fw.T1
open Go.Proofs
noncomputable def wS3ttt (x y u v : Nat → Nat) : Option (Bool × A) := autoW cfgA4 own47 4 (fun _ => none) [false, true, true, true, false, true, true, true, true, true, true, true, false, false, true, true, true, false, true, true, true, false, true, true, true, true, true, false, false, true, true, false, true, true, true, false, false, false, true, false, true, true, false, true, true, true, false, false] Try.f47 [.ro 1 9 (.cpxs .f32 x y), .ro 1 3 (.cpxs .f32 u v)]
theorem walkT3ttt (x y u v : Nat → Nat) : wS3ttt x y u v = some ((lSolve 3 x y u v [true, true, true]).1, .tup [.ro 1 3 (.cpxs .f32 (pX (wS3ttt x y u v)) (pY (wS3ttt x y u v))), .bool true]) := by kernel_rfl
theorem valT3ttt (x y u v : Nat → Nat) : (pX (wS3ttt x y u v) 0, pY (wS3ttt x y u v) 0, pX (wS3ttt x y u v) 1, pY (wS3ttt x y u v) 1, pX (wS3ttt x y u v) 2, pY (wS3ttt x y u v) 2) = ((lc (lSolve 3 x y u v [true, true, true]).2 0).1, (lc (lSolve 3 x y u v [true, true, true]).2 0).2, (lc (lSolve 3 x y u v [true, true, true]).2 1).1, (lc (lSolve 3 x y u v [true, true, true]).2 1).2, (lc (lSolve 3 x y u v [true, true, true]).2 2).1, (lc (lSolve 3 x y u v [true, true, true]).2 2).2) := by kernel_rfl
end Go.Fw.T1
