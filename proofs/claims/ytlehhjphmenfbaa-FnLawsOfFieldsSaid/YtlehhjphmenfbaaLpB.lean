/-
  Lists of wires: measured, copied, compared.
-/
import Derived.Test.YtlehhjphmenfbaaLpA
import Derived.Test.YtlehhjphmenfbaaFwC

namespace Go.Fw.E1
open Go.Proofs

def szW (n : Nat → Nat) (left : Int) : Nat → Int
  | 0 => left
  | k + 1 => sz1 (szW n left k) (n k)
noncomputable def I51 (m : Nat) (n : Nat → Nat) (x y z : Nat → Nat → Nat) (cl : Nat → Bool) (cur : Nat → Nat) (left : Int) (k : Nat) : List A := [.ro 3 m (.wires n x y z cl cur), .int .i64 (szW n left k), .int .i64 0, .int .i64 (Int.ofNat k)]
noncomputable def J51 (m : Nat) (n : Nat → Nat) (x y z : Nat → Nat → Nat) (cl : Nat → Bool) (cur : Nat → Nat) (left : Int) (k : Nat) : List O := []
noncomputable def F51 : List A → List (Option O) → Option R3
  | [.ro 3 m (.wires n x y z cl cur), .int .i64 left, .int .i64 0, .int .i64 0], [] => some (.ite (Nat.ble m 4611686018427387000) (.ite (allUpTo (fun k => !decide (szW n left (k + 1) < 0)) (m)) (.leaf .normal (I51 m n x y z cl cur left (m)) (J51 m n x y z cl cur left (m))) (.leaf (.ret) ((fun k => [.ro 3 m (.wires n x y z cl cur), .int .i64 (szW n left (k + 1)), .int .i64 (Int.negSucc 0), .int .i64 (Int.ofNat k)]) (firstIdx (fun k => !decide (szW n left (k + 1) < 0)) (m))) (J51 m n x y z cl cur left (firstIdx (fun k => !decide (szW n left (k + 1) < 0)) (m))))) .fail)
  | _, _ => none
def szWs (left : Int) (m : Nat) (n : Nat → Nat) : Int := bif decide (IntKind.i64.wrap (left - Int.ofNat m) < 0) then Int.negSucc 0 else bif allUpTo (fun k => !decide (szW n (IntKind.i64.wrap (left - Int.ofNat m)) (k + 1) < 0)) m then szW n (IntKind.i64.wrap (left - Int.ofNat m)) m else Int.negSucc 0
theorem szWs_le {left : Int} {m : Nat} {n : Nat → Nat} (h0 : 0 ≤ left) (h1 : left ≤ 1048576) (hm : m ≤ 9223372036854775807) (hn : ∀ i, n i ≤ 9223372036854775807) : szWs left m n = -1 ∨ (0 ≤ szWs left m n ∧ szWs left m n ≤ left ∧ (m : Int) ≤ left ∧ ∀ k, k < m → (n k : Int) ≤ left) := by
  have e : IntKind.i64.wrap (left - Int.ofNat m) = left - m := by
    simp [IntKind.wrap, IntKind.bits, IntKind.signed]
    omega
  unfold szWs
  rw [e]
  by_cases h : left - (m : Int) < 0
  · rw [decide_eq_true h]; exact .inl rfl
  rw [decide_eq_false h]
  cases ha : allUpTo (fun k => !decide (szW n (left - m) (k + 1) < 0)) m
  · exact .inl rfl
  · have hall := allUpTo_iff.1 ha
    have key : ∀ k, k ≤ m → 0 ≤ szW n (left - m) k ∧ szW n (left - m) k ≤ left - m ∧ ∀ j, j < k → (n j : Int) ≤ left - m := by
      intro k
      induction k with
      | zero => intro _; exact ⟨by show 0 ≤ left - (m : Int); omega, Int.le_refl _, fun j hj => absurd hj (by omega)⟩
      | succ k ih =>
        intro hk
        obtain ⟨i1, i2, i3⟩ := ih (by omega)
        have hk2 := hall k (by omega)
        simp only [Bool.not_eq_true', decide_eq_false_iff_not] at hk2
        have e2 : szW n (left - m) (k + 1) = sz1 (szW n (left - m) k) (n k) := rfl
        rw [e2] at hk2 ⊢
        rcases sz1_le i1 (by omega) (hn k) with ⟨e3, _⟩ | ⟨e3, h3⟩
        · rw [e3] at hk2; omega
        · rw [e3] at hk2 ⊢
          refine ⟨by omega, by omega, fun j hj => ?_⟩
          rcases Nat.lt_or_ge j k with hjk | hjk
          · exact i3 j hjk
          · obtain rfl : j = k := by omega
            omega
    obtain ⟨k1, k2, k3⟩ := key m (Nat.le_refl _)
    exact .inr ⟨k1, by show szW n (left - m) m ≤ left; omega, by omega, fun k hk => by have := k3 k hk; omega⟩
theorem gen_set {f g : Nat → A} {k p : Nat} : (match decide (p = k) with | true => f k | false => match decide (p < k) with | true => f p | false => g p) = match decide (p < k + 1) with | true => f p | false => g p := by
  by_cases h : p = k
  · subst h; simp
  · have : (p < k + 1) = (p < k) := by simp; omega
    simp [h, this]
noncomputable def s51 : List A → Option (Bool × A)
  | [.ro 3 m (.wires n x y z cl cur), .int .i64 left] => some (Nat.ble m 4611686018427387000, .int .i64 (szWs left m n))
  | _ => none
noncomputable def I53 (m : Nat) (n : Nat → Nat) (x y z : Nat → Nat → Nat) (cl : Nat → Bool) (cur : Nat → Nat) (g : Nat → A) (k : Nat) : List A := [.ro 3 m (.wires n x y z cl cur), .sl 48 m, .int .i64 (Int.ofNat k)]
noncomputable def J53 (m : Nat) (n : Nat → Nat) (x y z : Nat → Nat → Nat) (cl : Nat → Bool) (cur : Nat → Nat) (g : Nat → A) (k : Nat) : List O := [.row 44 3 m (.gen fun j => match decide (j < k) with | true => (Row.wires n x y z cl cur : Row A).at j | false => g j)]
noncomputable def F53 : List A → List (Option O) → Option R3
  | [.ro 3 m (.wires n x y z cl cur), .sl 48 m1, .int .i64 0], [some (.row 44 3 m3 (.gen g))] => some (.ite (Nat.beq m m1 && Nat.beq m m3 && Nat.ble m 1048576 && allUpTo (shortW n) m) (.leaf .normal (I53 m n x y z cl cur g (m)) [.row 44 3 m (.wires n x y z cl cur)]) .fail)
  | _, _ => none
noncomputable def s27 : List A → Option (Bool × A)
  | [.agg [.ro 3 n (.vecs .f32 x y z), .bool cl, .flt .f32 cur], .agg [.ro 3 n2 (.vecs .f32 x2 y2 z2), .bool cl2, .flt .f32 cur2]] => some (Nat.beq n2 n && Nat.ble n 1048576 && allUpTo (sameVAt x y z x2 y2 z2) n && (cl == cl2) && sameF (fcvt .f32 .f64 cur) (fcvt .f32 .f64 cur2), .bool true)
  | _ => none
def eqWAt (n : Nat → Nat) (x y z : Nat → Nat → Nat) (cl : Nat → Bool) (cur : Nat → Nat) (n2 : Nat → Nat) (x2 y2 z2 : Nat → Nat → Nat) (cl2 : Nat → Bool) (cur2 : Nat → Nat) (i : Nat) : Bool := Nat.beq (n2 i) (n i) && Nat.ble (n i) 1048576 && allUpTo (sameVAt (x i) (y i) (z i) (x2 i) (y2 i) (z2 i)) (n i) && (cl i == cl2 i) && sameF (fcvt .f32 .f64 (cur i)) (fcvt .f32 .f64 (cur2 i))
noncomputable def env29 : List (Nat × (List A → Option (Bool × A))) := env28
theorem env29_ok : EnvOK Try.prog (look env29) := env28_ok
noncomputable def cfg29 : Cfg := mkCfg tab [] xts (look env29)
theorem cfg29_ok : CfgOK Try.prog cfg29 := cfg_ok tab_eq (no_fts _) xts_ok env29_ok mixed
noncomputable def I40 (m : Nat) (n : Nat → Nat) (x y z : Nat → Nat → Nat) (cl : Nat → Bool) (cur : Nat → Nat) (m2 : Nat) (n2 : Nat → Nat) (x2 y2 z2 : Nat → Nat → Nat) (cl2 : Nat → Bool) (cur2 : Nat → Nat) (k : Nat) : List A := [.ro 3 m (.wires n x y z cl cur), .ro 3 m2 (.wires n2 x2 y2 z2 cl2 cur2), .bool false, .int .i64 (Int.ofNat k)]
noncomputable def J40 (m : Nat) (n : Nat → Nat) (x y z : Nat → Nat → Nat) (cl : Nat → Bool) (cur : Nat → Nat) (m2 : Nat) (n2 : Nat → Nat) (x2 y2 z2 : Nat → Nat → Nat) (cl2 : Nat → Bool) (cur2 : Nat → Nat) (k : Nat) : List O := []
noncomputable def F40 : List A → List (Option O) → Option R3
  | [.ro 3 m (.wires n x y z cl cur), .ro 3 m2 (.wires n2 x2 y2 z2 cl2 cur2), .bool false, .int .i64 0], [] => some (.ite (Nat.beq m2 m && Nat.ble m 1048576 && allUpTo (eqWAt n x y z cl cur n2 x2 y2 z2 cl2 cur2) m) (.leaf .normal (I40 m n x y z cl cur m2 n2 x2 y2 z2 cl2 cur2 (m)) (J40 m n x y z cl cur m2 n2 x2 y2 z2 cl2 cur2 (m))) .fail)
  | _, _ => none
noncomputable def s40 : List A → Option (Bool × A)
  | [.ro 3 m (.wires n x y z cl cur), .ro 3 m2 (.wires n2 x2 y2 z2 cl2 cur2)] => some (Nat.beq m2 m && Nat.ble m 1048576 && allUpTo (eqWAt n x y z cl cur n2 x2 y2 z2 cl2 cur2) m, .bool true)
  | _ => none
end Go.Fw.E1

/-
  The sine of turns: what it calls.
-/
namespace Go.Fw.E1
open Go.Proofs

def absN (x : Nat) : Nat := x % 9223372036854775808
theorem sw64 : FloatKind.f64.format.signWeight = 9223372036854775808 := Eq.trans (show FloatKind.f64.format.signWeight = 2 ^ 63 by rfl) (by simp)
theorem auto129 (x : Nat) : autoLp cfg29 (fun _ => none) Try.f112 [.flt .f64 x] =
    some (!isNaN FloatKind.f64 x && (decide (0 ≤ bclr IntKind.u64 (Int.ofNat x) 9223372036854775808) && decide (bclr IntKind.u64 (Int.ofNat x) 9223372036854775808 < 18446744073709551616) && true), A.flt FloatKind.f64 (can FloatKind.f64 (bclr IntKind.u64 (Int.ofNat x) (Int.ofNat 9223372036854775808)).toNat)) := by kernel_rfl
noncomputable def s129 : List A → Option (Bool × A)
  | [.flt .f64 x] => some (!isNaN .f64 x, .flt .f64 (absN x))
  | _ => none
theorem s129_at : EnvAt Try.prog 112 s129 := of_auto cfg29_ok (lp_none _) Try.func112 (by kernel_rfl) (by kernel_rfl) fun ds cc rr h hc => by
  unfold s129 at h
  split at h
  · rename_i x
    simp only [Option.some.injEq, Prod.mk.injEq] at h
    obtain ⟨rfl, rfl⟩ := h
    refine auto_fit (auto129 x) ?_ ?_
    · have h1 : isNaN .f64 (x % 9223372036854775808) = false := by rw [isNaN_eq] at hc ⊢; rw [sw64] at hc ⊢; rw [Nat.mod_mod]; simpa using hc
      show A.flt .f64 (can .f64 (bclr .u64 (Int.ofNat x) 9223372036854775808).toNat) = _
      rw [bclr_abs]
      show A.flt .f64 (can .f64 (x % 9223372036854775808)) = A.flt .f64 (x % 9223372036854775808)
      rw [can_of_not h1]
    · rw [bclr_abs, hc, dec0]
      have := Nat.mod_lt x (show 0 < 9223372036854775808 by decide)
      simp; omega
  · cases h

theorem auto141 : autoLp cfg29 (fun _ => none) Try.f122 [] = some (true, A.flt FloatKind.f64 (can FloatKind.f64 9221120237041090561)) := by kernel_rfl
noncomputable def s141 : List A → Option (Bool × A)
  | [] => some (true, .flt .f64 (qnan .f64))
  | _ => none
theorem s141_at : EnvAt Try.prog 122 s141 := of_auto cfg29_ok (lp_none _) Try.func122 (by kernel_rfl) (by kernel_rfl) fun ds cc rr h hc => by
  unfold s141 at h
  split at h
  · simp only [Option.some.injEq, Prod.mk.injEq] at h
    obtain ⟨rfl, rfl⟩ := h
    exact auto_fit auto141 (by rw [show can .f64 9221120237041090561 = qnan .f64 by decide +kernel]) rfl
  · cases h
noncomputable def env30 : List (Nat × (List A → Option (Bool × A))) := (112, s129) :: (122, s141) :: env29
theorem env30_ok : EnvOK Try.prog (look env30) := (env_cons s129_at (env_cons s141_at env29_ok))
noncomputable def cfg30 : Cfg := mkCfg tab [] xts (look env30)
theorem cfg30_ok : CfgOK Try.prog cfg30 := cfg_ok tab_eq (no_fts _) xts_ok env30_ok mixed
theorem auto128 : autoLp cfg30 (fun _ => none) Try.f111 [] = some (fcvtOk .f64 .f32 (qnan .f64), A.flt .f32 (fcvt .f64 .f32 (qnan .f64))) := by kernel_rfl
noncomputable def s128 : List A → Option (Bool × A)
  | [] => some (true, .flt .f32 (qnan .f32))
  | _ => none
theorem s128_at : EnvAt Try.prog 111 s128 := of_auto cfg30_ok (lp_none _) Try.func111 (by kernel_rfl) (by kernel_rfl) fun ds cc rr h hc => by
  unfold s128 at h
  split at h
  · simp only [Option.some.injEq, Prod.mk.injEq] at h
    obtain ⟨rfl, rfl⟩ := h
    exact auto_fit auto128 (by rw [show fcvt .f64 .f32 (qnan .f64) = qnan .f32 by decide +kernel]) (by decide +kernel)
  · cases h
noncomputable def env31 : List (Nat × (List A → Option (Bool × A))) := (111, s128) :: env30
theorem env31_ok : EnvOK Try.prog (look env31) := (env_cons s128_at env30_ok)
noncomputable def cfg31 : Cfg := mkCfg tab [] xts (look env31)
theorem cfg31_ok : CfgOK Try.prog cfg31 := cfg_ok tab_eq (no_fts _) xts_ok env31_ok mixed
end Go.Fw.E1

/-
  The sine of turns: its eight steps.
-/
namespace Go.Fw.E1
open Go.Proofs

def kI (k : Nat) : Int := 8 - Int.ofNat k
def kF (k : Nat) : Nat := fofInt .f64 (8 - Int.ofNat k)
theorem kI_step {k : Nat} (h : k < 8) : fofInt FloatKind.f64 (IntKind.i64.wrap (IntKind.i64.wrap (Int.ofNat 2 * kI k) * IntKind.i64.wrap (IntKind.i64.wrap (Int.ofNat 2 * kI k) + Int.ofNat 1))) = den k ∧ IntKind.i64.wrap (kI k - Int.ofNat 1) = kI (k + 1) := by
  have e : ∀ k, k < 8 → IntKind.i64.wrap (IntKind.i64.wrap (Int.ofNat 2 * kI k) * IntKind.i64.wrap (IntKind.i64.wrap (Int.ofNat 2 * kI k) + Int.ofNat 1)) = denI k ∧ IntKind.i64.wrap (kI k - Int.ofNat 1) = kI (k + 1) := by decide +kernel
  exact ⟨by rw [(e k h).1]; rfl, (e k h).2⟩
theorem kI_test {k : Nat} (h : k < 8) : decide (kI k ≥ 1) = true := by
  unfold kI; simp; omega
theorem kI_end {k : Nat} (h : k = 8) : decide (kI k ≥ 1) = false := by
  subst h; decide
theorem kF_step {k : Nat} (h : k < 8) : fop BinOp.mul FloatKind.f64 (fop BinOp.mul FloatKind.f64 (can FloatKind.f64 4611686018427387904) (kF k)) (fop BinOp.add FloatKind.f64 (fop BinOp.mul FloatKind.f64 (can FloatKind.f64 4611686018427387904) (kF k)) (can FloatKind.f64 4607182418800017408)) = den k ∧ fop BinOp.sub FloatKind.f64 (kF k) (can FloatKind.f64 4607182418800017408) = kF (k + 1) := by
  have e : ∀ k, k < 8 → fop BinOp.mul FloatKind.f64 (fop BinOp.mul FloatKind.f64 (can FloatKind.f64 4611686018427387904) (kF k)) (fop BinOp.add FloatKind.f64 (fop BinOp.mul FloatKind.f64 (can FloatKind.f64 4611686018427387904) (kF k)) (can FloatKind.f64 4607182418800017408)) = den k ∧ fop BinOp.sub FloatKind.f64 (kF k) (can FloatKind.f64 4607182418800017408) = kF (k + 1) := by decide +kernel
  exact e k h
theorem kF_test {k : Nat} (h : k < 8) : (forder FloatKind.f64 (kF k) (can FloatKind.f64 4607182418800017408) == some Ordering.gt || forder FloatKind.f64 (kF k) (can FloatKind.f64 4607182418800017408) == some Ordering.eq) = true := by
  have e : ∀ k, k < 8 → (forder FloatKind.f64 (kF k) (can FloatKind.f64 4607182418800017408) == some Ordering.gt || forder FloatKind.f64 (kF k) (can FloatKind.f64 4607182418800017408) == some Ordering.eq) = true := by decide +kernel
  exact e k h
theorem kF_end {k : Nat} (h : k = 8) : (forder FloatKind.f64 (kF k) (can FloatKind.f64 4607182418800017408) == some Ordering.gt || forder FloatKind.f64 (kF k) (can FloatKind.f64 4607182418800017408) == some Ordering.eq) = false := by
  subst h; decide +kernel
noncomputable def I132a (t : Bool) (z u : Nat) (k : Nat) : List A := [.bool t, .flt .f64 z, .flt .f64 u, .flt .f64 (sp u k), .int .i64 (kI k)]
noncomputable def J132a (t : Bool) (z u : Nat) (k : Nat) : List O := []
noncomputable def F132a : List A → List (Option O) → Option R3
  | [.bool t, .flt .f64 z, .flt .f64 u, .flt .f64 p, .int .i64 k8], [] => some (.ite (Nat.beq p (sp u 0) && decide (k8 = kI 0)) (.leaf .normal (I132a t z u (8)) (J132a t z u (8))) .fail)
  | _, _ => none
noncomputable def I132b (t : Bool) (z u : Nat) (k : Nat) : List A := [.bool t, .flt .f64 z, .flt .f64 u, .flt .f64 (sp u k), .int .i64 (kI k)]
noncomputable def J132b (t : Bool) (z u : Nat) (k : Nat) : List O := []
noncomputable def F132b : List A → List (Option O) → Option R3
  | [.bool t, .flt .f64 z, .flt .f64 u, .flt .f64 p, .int .i64 k8], [] => some (.ite (Nat.beq p (sp u 0) && decide (k8 = kI 0)) (.leaf .normal (I132b t z u (8)) (J132b t z u (8))) .fail)
  | _, _ => none
noncomputable def I132c (t : Bool) (z u : Nat) (k : Nat) : List A := [.bool t, .flt .f64 z, .flt .f64 u, .flt .f64 (sp u k), .int .i64 (kI k)]
noncomputable def J132c (t : Bool) (z u : Nat) (k : Nat) : List O := []
noncomputable def F132c : List A → List (Option O) → Option R3
  | [.bool t, .flt .f64 z, .flt .f64 u, .flt .f64 p, .int .i64 k8], [] => some (.ite (Nat.beq p (sp u 0) && decide (k8 = kI 0)) (.leaf .normal (I132c t z u (8)) (J132c t z u (8))) .fail)
  | _, _ => none
noncomputable def I132d (t : Bool) (z u : Nat) (k : Nat) : List A := [.bool t, .flt .f64 z, .flt .f64 u, .flt .f64 (sp u k), .int .i64 (kI k)]
noncomputable def J132d (t : Bool) (z u : Nat) (k : Nat) : List O := []
noncomputable def F132d : List A → List (Option O) → Option R3
  | [.bool t, .flt .f64 z, .flt .f64 u, .flt .f64 p, .int .i64 k8], [] => some (.ite (Nat.beq p (sp u 0) && decide (k8 = kI 0)) (.leaf .normal (I132d t z u (8)) (J132d t z u (8))) .fail)
  | _, _ => none
noncomputable def I80a (t : Bool) (z u : Nat) (k : Nat) : List A := [.bool t, .flt .f64 z, .flt .f64 u, .flt .f64 (sp u k), .flt .f64 (kF k)]
noncomputable def J80a (t : Bool) (z u : Nat) (k : Nat) : List O := []
theorem round80a (t : Bool) (z u : Nat) (k : Nat) (L : XK → List A → List (Option O) → Prop) :
    ((exec cfg31 (fun _ => true) (fun _ => none) 0 1000 (loopOf Try.f74 0) (litSt Try.f74.ntmps 528 [5, 6, 7, 8, 9] [] (I80a t z u k) (J80a t z u k))).rt [5, 6, 7, 8, 9] []).Ok L =
    bif forder FloatKind.f64 (kF k) (can FloatKind.f64 4607182418800017408) == some Ordering.gt || forder FloatKind.f64 (kF k) (can FloatKind.f64 4607182418800017408) == some Ordering.eq then
      L (XK.normal) ([A.bool t, A.flt FloatKind.f64 z, A.flt FloatKind.f64 u, A.flt FloatKind.f64 (fop BinOp.sub FloatKind.f64 (can FloatKind.f64 4607182418800017408) (fop BinOp.quo FloatKind.f64 (fop BinOp.mul FloatKind.f64 u (sp u k)) (fop BinOp.mul FloatKind.f64 (fop BinOp.mul FloatKind.f64 (can FloatKind.f64 4611686018427387904) (kF k)) (fop BinOp.add FloatKind.f64 (fop BinOp.mul FloatKind.f64 (can FloatKind.f64 4611686018427387904) (kF k)) (can FloatKind.f64 4607182418800017408))))), A.flt FloatKind.f64 (fop BinOp.sub FloatKind.f64 (kF k) (can FloatKind.f64 4607182418800017408))]) ([])
    else
      L (XK.exit 0) ([A.bool t, A.flt FloatKind.f64 z, A.flt FloatKind.f64 u, A.flt FloatKind.f64 (sp u k), A.flt FloatKind.f64 (kF k)]) ([]) := by kernel_rfl
noncomputable def F80a : List A → List (Option O) → Option R3
  | [.bool t, .flt .f64 z, .flt .f64 u, .flt .f64 p, .flt .f64 k8], [] => some (.ite (Nat.beq p (sp u 0) && Nat.beq k8 (kF 0)) (.leaf .normal (I80a t z u (8)) (J80a t z u (8))) .fail)
  | _, _ => none
theorem loop80a : CodeOK Try.prog (fun _ σ => sumAt Try.f74.ntmps 528 [5, 6, 7, 8, 9] [] F80a σ) (.block 0 (.loop (loopOf Try.f74 0))) := by
  refine block_ok (own := fun _ => true) (lp := (fun _ => none)) (un := 0) (fuel := 1000) cfg31_ok (lp_none _) fun az os R hF hok => ?_
  unfold F80a at hF
  split at hF
  · rename_i t z u p k8
    injection hF with hF
    subst hF
    have hg := hok.guard
    have hg' := hg
    simp only [Bool.and_eq_true, Nat.ble_eq, Nat.beq_eq, decide_eq_true_eq] at hg'
    obtain ⟨rfl, rfl⟩ := hg'
    refine for_fact (ids := []) (fun _ => true) (8) (I80a t z u) (J80a t z u) _ (.ret) (I80a t z u) (I80a t z u) (I80a t z u (8)) (J80a t z u (8)) rfl (OSims.self _) (fun _ => rfl) (fun _ => rfl) (fun _ => ALe.self _) (fun _ => rfl) (ALe.self _) (OSims.self _) rfl (fun h => by cases h) (fun k hk L h1 h2 h3 => ?_) fun L hL => ?_
    · rw [round80a]

      by_cases hkm : k < 8
      · refine condT (kF_test hkm) ?_
        rw [(kF_step hkm).1, (kF_step hkm).2]
        exact h1 hkm rfl _ trivial
      · refine condE (kF_end (by omega)) ?_
        obtain rfl : k = 8 := by omega
        exact h3 rfl
    · exact ⟨fun _ => hL.1 hg, fun N _ h => by cases h⟩
  · cases hF

noncomputable def I80b (t : Bool) (z u : Nat) (k : Nat) : List A := [.bool t, .flt .f64 z, .flt .f64 u, .flt .f64 (sp u k), .flt .f64 (kF k)]
noncomputable def J80b (t : Bool) (z u : Nat) (k : Nat) : List O := []
theorem round80b (t : Bool) (z u : Nat) (k : Nat) (L : XK → List A → List (Option O) → Prop) :
    ((exec cfg31 (fun _ => true) (fun _ => none) 0 1000 (loopOf Try.f74 0) (litSt Try.f74.ntmps 576 [5, 6, 7, 8, 9] [] (I80b t z u k) (J80b t z u k))).rt [5, 6, 7, 8, 9] []).Ok L =
    bif forder FloatKind.f64 (kF k) (can FloatKind.f64 4607182418800017408) == some Ordering.gt || forder FloatKind.f64 (kF k) (can FloatKind.f64 4607182418800017408) == some Ordering.eq then
      L (XK.normal) ([A.bool t, A.flt FloatKind.f64 z, A.flt FloatKind.f64 u, A.flt FloatKind.f64 (fop BinOp.sub FloatKind.f64 (can FloatKind.f64 4607182418800017408) (fop BinOp.quo FloatKind.f64 (fop BinOp.mul FloatKind.f64 u (sp u k)) (fop BinOp.mul FloatKind.f64 (fop BinOp.mul FloatKind.f64 (can FloatKind.f64 4611686018427387904) (kF k)) (fop BinOp.add FloatKind.f64 (fop BinOp.mul FloatKind.f64 (can FloatKind.f64 4611686018427387904) (kF k)) (can FloatKind.f64 4607182418800017408))))), A.flt FloatKind.f64 (fop BinOp.sub FloatKind.f64 (kF k) (can FloatKind.f64 4607182418800017408))]) ([])
    else
      L (XK.exit 0) ([A.bool t, A.flt FloatKind.f64 z, A.flt FloatKind.f64 u, A.flt FloatKind.f64 (sp u k), A.flt FloatKind.f64 (kF k)]) ([]) := by kernel_rfl
noncomputable def F80b : List A → List (Option O) → Option R3
  | [.bool t, .flt .f64 z, .flt .f64 u, .flt .f64 p, .flt .f64 k8], [] => some (.ite (Nat.beq p (sp u 0) && Nat.beq k8 (kF 0)) (.leaf .normal (I80b t z u (8)) (J80b t z u (8))) .fail)
  | _, _ => none
theorem loop80b : CodeOK Try.prog (fun _ σ => sumAt Try.f74.ntmps 576 [5, 6, 7, 8, 9] [] F80b σ) (.block 0 (.loop (loopOf Try.f74 0))) := by
  refine block_ok (own := fun _ => true) (lp := (fun _ => none)) (un := 0) (fuel := 1000) cfg31_ok (lp_none _) fun az os R hF hok => ?_
  unfold F80b at hF
  split at hF
  · rename_i t z u p k8
    injection hF with hF
    subst hF
    have hg := hok.guard
    have hg' := hg
    simp only [Bool.and_eq_true, Nat.ble_eq, Nat.beq_eq, decide_eq_true_eq] at hg'
    obtain ⟨rfl, rfl⟩ := hg'
    refine for_fact (ids := []) (fun _ => true) (8) (I80b t z u) (J80b t z u) _ (.ret) (I80b t z u) (I80b t z u) (I80b t z u (8)) (J80b t z u (8)) rfl (OSims.self _) (fun _ => rfl) (fun _ => rfl) (fun _ => ALe.self _) (fun _ => rfl) (ALe.self _) (OSims.self _) rfl (fun h => by cases h) (fun k hk L h1 h2 h3 => ?_) fun L hL => ?_
    · rw [round80b]

      by_cases hkm : k < 8
      · refine condT (kF_test hkm) ?_
        rw [(kF_step hkm).1, (kF_step hkm).2]
        exact h1 hkm rfl _ trivial
      · refine condE (kF_end (by omega)) ?_
        obtain rfl : k = 8 := by omega
        exact h3 rfl
    · exact ⟨fun _ => hL.1 hg, fun N _ h => by cases h⟩
  · cases hF

noncomputable def I80c (t : Bool) (z u : Nat) (k : Nat) : List A := [.bool t, .flt .f64 z, .flt .f64 u, .flt .f64 (sp u k), .flt .f64 (kF k)]
noncomputable def J80c (t : Bool) (z u : Nat) (k : Nat) : List O := []
theorem round80c (t : Bool) (z u : Nat) (k : Nat) (L : XK → List A → List (Option O) → Prop) :
    ((exec cfg31 (fun _ => true) (fun _ => none) 0 1000 (loopOf Try.f74 0) (litSt Try.f74.ntmps 624 [5, 6, 7, 8, 9] [] (I80c t z u k) (J80c t z u k))).rt [5, 6, 7, 8, 9] []).Ok L =
    bif forder FloatKind.f64 (kF k) (can FloatKind.f64 4607182418800017408) == some Ordering.gt || forder FloatKind.f64 (kF k) (can FloatKind.f64 4607182418800017408) == some Ordering.eq then
      L (XK.normal) ([A.bool t, A.flt FloatKind.f64 z, A.flt FloatKind.f64 u, A.flt FloatKind.f64 (fop BinOp.sub FloatKind.f64 (can FloatKind.f64 4607182418800017408) (fop BinOp.quo FloatKind.f64 (fop BinOp.mul FloatKind.f64 u (sp u k)) (fop BinOp.mul FloatKind.f64 (fop BinOp.mul FloatKind.f64 (can FloatKind.f64 4611686018427387904) (kF k)) (fop BinOp.add FloatKind.f64 (fop BinOp.mul FloatKind.f64 (can FloatKind.f64 4611686018427387904) (kF k)) (can FloatKind.f64 4607182418800017408))))), A.flt FloatKind.f64 (fop BinOp.sub FloatKind.f64 (kF k) (can FloatKind.f64 4607182418800017408))]) ([])
    else
      L (XK.exit 0) ([A.bool t, A.flt FloatKind.f64 z, A.flt FloatKind.f64 u, A.flt FloatKind.f64 (sp u k), A.flt FloatKind.f64 (kF k)]) ([]) := by kernel_rfl
noncomputable def F80c : List A → List (Option O) → Option R3
  | [.bool t, .flt .f64 z, .flt .f64 u, .flt .f64 p, .flt .f64 k8], [] => some (.ite (Nat.beq p (sp u 0) && Nat.beq k8 (kF 0)) (.leaf .normal (I80c t z u (8)) (J80c t z u (8))) .fail)
  | _, _ => none
theorem loop80c : CodeOK Try.prog (fun _ σ => sumAt Try.f74.ntmps 624 [5, 6, 7, 8, 9] [] F80c σ) (.block 0 (.loop (loopOf Try.f74 0))) := by
  refine block_ok (own := fun _ => true) (lp := (fun _ => none)) (un := 0) (fuel := 1000) cfg31_ok (lp_none _) fun az os R hF hok => ?_
  unfold F80c at hF
  split at hF
  · rename_i t z u p k8
    injection hF with hF
    subst hF
    have hg := hok.guard
    have hg' := hg
    simp only [Bool.and_eq_true, Nat.ble_eq, Nat.beq_eq, decide_eq_true_eq] at hg'
    obtain ⟨rfl, rfl⟩ := hg'
    refine for_fact (ids := []) (fun _ => true) (8) (I80c t z u) (J80c t z u) _ (.ret) (I80c t z u) (I80c t z u) (I80c t z u (8)) (J80c t z u (8)) rfl (OSims.self _) (fun _ => rfl) (fun _ => rfl) (fun _ => ALe.self _) (fun _ => rfl) (ALe.self _) (OSims.self _) rfl (fun h => by cases h) (fun k hk L h1 h2 h3 => ?_) fun L hL => ?_
    · rw [round80c]

      by_cases hkm : k < 8
      · refine condT (kF_test hkm) ?_
        rw [(kF_step hkm).1, (kF_step hkm).2]
        exact h1 hkm rfl _ trivial
      · refine condE (kF_end (by omega)) ?_
        obtain rfl : k = 8 := by omega
        exact h3 rfl
    · exact ⟨fun _ => hL.1 hg, fun N _ h => by cases h⟩
  · cases hF

noncomputable def I80d (t : Bool) (z u : Nat) (k : Nat) : List A := [.bool t, .flt .f64 z, .flt .f64 u, .flt .f64 (sp u k), .flt .f64 (kF k)]
noncomputable def J80d (t : Bool) (z u : Nat) (k : Nat) : List O := []
theorem round80d (t : Bool) (z u : Nat) (k : Nat) (L : XK → List A → List (Option O) → Prop) :
    ((exec cfg31 (fun _ => true) (fun _ => none) 0 1000 (loopOf Try.f74 0) (litSt Try.f74.ntmps 672 [5, 6, 7, 8, 9] [] (I80d t z u k) (J80d t z u k))).rt [5, 6, 7, 8, 9] []).Ok L =
    bif forder FloatKind.f64 (kF k) (can FloatKind.f64 4607182418800017408) == some Ordering.gt || forder FloatKind.f64 (kF k) (can FloatKind.f64 4607182418800017408) == some Ordering.eq then
      L (XK.normal) ([A.bool t, A.flt FloatKind.f64 z, A.flt FloatKind.f64 u, A.flt FloatKind.f64 (fop BinOp.sub FloatKind.f64 (can FloatKind.f64 4607182418800017408) (fop BinOp.quo FloatKind.f64 (fop BinOp.mul FloatKind.f64 u (sp u k)) (fop BinOp.mul FloatKind.f64 (fop BinOp.mul FloatKind.f64 (can FloatKind.f64 4611686018427387904) (kF k)) (fop BinOp.add FloatKind.f64 (fop BinOp.mul FloatKind.f64 (can FloatKind.f64 4611686018427387904) (kF k)) (can FloatKind.f64 4607182418800017408))))), A.flt FloatKind.f64 (fop BinOp.sub FloatKind.f64 (kF k) (can FloatKind.f64 4607182418800017408))]) ([])
    else
      L (XK.exit 0) ([A.bool t, A.flt FloatKind.f64 z, A.flt FloatKind.f64 u, A.flt FloatKind.f64 (sp u k), A.flt FloatKind.f64 (kF k)]) ([]) := by kernel_rfl
noncomputable def F80d : List A → List (Option O) → Option R3
  | [.bool t, .flt .f64 z, .flt .f64 u, .flt .f64 p, .flt .f64 k8], [] => some (.ite (Nat.beq p (sp u 0) && Nat.beq k8 (kF 0)) (.leaf .normal (I80d t z u (8)) (J80d t z u (8))) .fail)
  | _, _ => none
theorem loop80d : CodeOK Try.prog (fun _ σ => sumAt Try.f74.ntmps 672 [5, 6, 7, 8, 9] [] F80d σ) (.block 0 (.loop (loopOf Try.f74 0))) := by
  refine block_ok (own := fun _ => true) (lp := (fun _ => none)) (un := 0) (fuel := 1000) cfg31_ok (lp_none _) fun az os R hF hok => ?_
  unfold F80d at hF
  split at hF
  · rename_i t z u p k8
    injection hF with hF
    subst hF
    have hg := hok.guard
    have hg' := hg
    simp only [Bool.and_eq_true, Nat.ble_eq, Nat.beq_eq, decide_eq_true_eq] at hg'
    obtain ⟨rfl, rfl⟩ := hg'
    refine for_fact (ids := []) (fun _ => true) (8) (I80d t z u) (J80d t z u) _ (.ret) (I80d t z u) (I80d t z u) (I80d t z u (8)) (J80d t z u (8)) rfl (OSims.self _) (fun _ => rfl) (fun _ => rfl) (fun _ => ALe.self _) (fun _ => rfl) (ALe.self _) (OSims.self _) rfl (fun h => by cases h) (fun k hk L h1 h2 h3 => ?_) fun L hL => ?_
    · rw [round80d]

      by_cases hkm : k < 8
      · refine condT (kF_test hkm) ?_
        rw [(kF_step hkm).1, (kF_step hkm).2]
        exact h1 hkm rfl _ trivial
      · refine condE (kF_end (by omega)) ?_
        obtain rfl : k = 8 := by omega
        exact h3 rfl
    · exact ⟨fun _ => hL.1 hg, fun N _ h => by cases h⟩
  · cases hF

noncomputable def N80 (σ : St) : T := match Nat.beq σ.next 528 with
  | true => sumAt Try.f74.ntmps 528 [5, 6, 7, 8, 9] [] F80a σ
  | false => match Nat.beq σ.next 576 with
    | true => sumAt Try.f74.ntmps 576 [5, 6, 7, 8, 9] [] F80b σ
    | false => match Nat.beq σ.next 624 with
      | true => sumAt Try.f74.ntmps 624 [5, 6, 7, 8, 9] [] F80c σ
      | false => sumAt Try.f74.ntmps 672 [5, 6, 7, 8, 9] [] F80d σ
theorem loopN80 : CodeOK Try.prog (fun _ σ => N80 σ) (.block 0 (.loop (loopOf Try.f74 0))) := by
  intro σ L hok
  replace hok : (N80 σ).Ok Try.prog L := hok
  unfold N80 at hok
  split at hok
  · exact loop80a σ L hok
  · split at hok
    · exact loop80b σ L hok
    · split at hok
      · exact loop80c σ L hok
      · exact loop80d σ L hok

end Go.Fw.E1

/-
  The sine of turns: contracts.
-/
namespace Go.Fw.E1
open Go.Proofs

theorem can0' : can .f32 0 = 0 := by decide +kernel
theorem fin_num (x : Nat) : fin x = num .f32 x := by
  unfold fin
  rw [can0', num_sub]
  cases num .f32 x <;> rfl
theorem big_absN {x : Nat} (h : num .f64 x = true) : geF (absN x) c52 = bigF x := by
  obtain ⟨s, m, i, hy⟩ := num_iff.1 h
  have := (big_abs hy).1
  rw [sw64] at this
  exact this
noncomputable def s132 : List A → Option (Bool × A)
  | [.flt .f64 x] => some (true, .flt .f64 (sineW x))
  | _ => none
noncomputable def lp80 : List (Nat × (St → T)) := [(0, N80)]
theorem lp80_ok : LpOK Try.prog (look lp80) (bodyOf Try.f74) := lp_loops (by kernel_rfl) (by kernel_rfl) fun p hp => by
  simp only [lp80, List.mem_cons, List.not_mem_nil, or_false] at hp
  rcases hp with rfl
  · exact loopN80
theorem auto80 (x : Nat) : autoLp cfg31 (look lp80) Try.f74 [.flt .f32 x] =
    some (bif !fin x then true else !isNaN FloatKind.f64 (fcvt FloatKind.f32 FloatKind.f64 x) && bif forder FloatKind.f64 (absN (fcvt FloatKind.f32 FloatKind.f64 x)) (can FloatKind.f64 4841369599423283200) == some Ordering.gt || forder FloatKind.f64 (absN (fcvt FloatKind.f32 FloatKind.f64 x)) (can FloatKind.f64 4841369599423283200) == some Ordering.eq then true else ftoIntOk FloatKind.f64 (fcvt FloatKind.f32 FloatKind.f64 x) IntKind.i64 && bif forder FloatKind.f64 (fop BinOp.sub FloatKind.f64 (fcvt FloatKind.f32 FloatKind.f64 x) (fofInt FloatKind.f64 (ftoInt FloatKind.f64 (fcvt FloatKind.f32 FloatKind.f64 x) IntKind.i64))) (can FloatKind.f64 0) == some Ordering.lt then bif forder FloatKind.f64 (fop BinOp.add FloatKind.f64 (fop BinOp.sub FloatKind.f64 (fcvt FloatKind.f32 FloatKind.f64 x) (fofInt FloatKind.f64 (ftoInt FloatKind.f64 (fcvt FloatKind.f32 FloatKind.f64 x) IntKind.i64))) (can FloatKind.f64 4607182418800017408)) (can FloatKind.f64 4602678819172646912) == some Ordering.gt || forder FloatKind.f64 (fop BinOp.add FloatKind.f64 (fop BinOp.sub FloatKind.f64 (fcvt FloatKind.f32 FloatKind.f64 x) (fofInt FloatKind.f64 (ftoInt FloatKind.f64 (fcvt FloatKind.f32 FloatKind.f64 x) IntKind.i64))) (can FloatKind.f64 4607182418800017408)) (can FloatKind.f64 4602678819172646912) == some Ordering.eq then bif forder FloatKind.f64 (fop BinOp.sub FloatKind.f64 (fop BinOp.add FloatKind.f64 (fop BinOp.sub FloatKind.f64 (fcvt FloatKind.f32 FloatKind.f64 x) (fofInt FloatKind.f64 (ftoInt FloatKind.f64 (fcvt FloatKind.f32 FloatKind.f64 x) IntKind.i64))) (can FloatKind.f64 4607182418800017408)) (can FloatKind.f64 4602678819172646912)) (can FloatKind.f64 4598175219545276416) == some Ordering.gt then (can FloatKind.f64 4607182418800017408).beq (sp (fop BinOp.mul FloatKind.f64 (fop BinOp.mul FloatKind.f64 (fop BinOp.sub FloatKind.f64 (can FloatKind.f64 4602678819172646912) (fop BinOp.sub FloatKind.f64 (fop BinOp.add FloatKind.f64 (fop BinOp.sub FloatKind.f64 (fcvt FloatKind.f32 FloatKind.f64 x) (fofInt FloatKind.f64 (ftoInt FloatKind.f64 (fcvt FloatKind.f32 FloatKind.f64 x) IntKind.i64))) (can FloatKind.f64 4607182418800017408)) (can FloatKind.f64 4602678819172646912))) (can FloatKind.f64 4618760256179416344)) (fop BinOp.mul FloatKind.f64 (fop BinOp.sub FloatKind.f64 (can FloatKind.f64 4602678819172646912) (fop BinOp.sub FloatKind.f64 (fop BinOp.add FloatKind.f64 (fop BinOp.sub FloatKind.f64 (fcvt FloatKind.f32 FloatKind.f64 x) (fofInt FloatKind.f64 (ftoInt FloatKind.f64 (fcvt FloatKind.f32 FloatKind.f64 x) IntKind.i64))) (can FloatKind.f64 4607182418800017408)) (can FloatKind.f64 4602678819172646912))) (can FloatKind.f64 4618760256179416344))) 0) && (can FloatKind.f64 4620693217682128896).beq (kF 0) && bif forder FloatKind.f64 (fop BinOp.add FloatKind.f64 (fop BinOp.sub FloatKind.f64 (fcvt FloatKind.f32 FloatKind.f64 x) (fofInt FloatKind.f64 (ftoInt FloatKind.f64 (fcvt FloatKind.f32 FloatKind.f64 x) IntKind.i64))) (can FloatKind.f64 4607182418800017408)) (can FloatKind.f64 4602678819172646912) == some Ordering.gt || forder FloatKind.f64 (fop BinOp.add FloatKind.f64 (fop BinOp.sub FloatKind.f64 (fcvt FloatKind.f32 FloatKind.f64 x) (fofInt FloatKind.f64 (ftoInt FloatKind.f64 (fcvt FloatKind.f32 FloatKind.f64 x) IntKind.i64))) (can FloatKind.f64 4607182418800017408)) (can FloatKind.f64 4602678819172646912) == some Ordering.eq then fcvtOk FloatKind.f64 FloatKind.f32 (fneg FloatKind.f64 (fop BinOp.mul FloatKind.f64 (fop BinOp.mul FloatKind.f64 (fop BinOp.sub FloatKind.f64 (can FloatKind.f64 4602678819172646912) (fop BinOp.sub FloatKind.f64 (fop BinOp.add FloatKind.f64 (fop BinOp.sub FloatKind.f64 (fcvt FloatKind.f32 FloatKind.f64 x) (fofInt FloatKind.f64 (ftoInt FloatKind.f64 (fcvt FloatKind.f32 FloatKind.f64 x) IntKind.i64))) (can FloatKind.f64 4607182418800017408)) (can FloatKind.f64 4602678819172646912))) (can FloatKind.f64 4618760256179416344)) (sp (fop BinOp.mul FloatKind.f64 (fop BinOp.mul FloatKind.f64 (fop BinOp.sub FloatKind.f64 (can FloatKind.f64 4602678819172646912) (fop BinOp.sub FloatKind.f64 (fop BinOp.add FloatKind.f64 (fop BinOp.sub FloatKind.f64 (fcvt FloatKind.f32 FloatKind.f64 x) (fofInt FloatKind.f64 (ftoInt FloatKind.f64 (fcvt FloatKind.f32 FloatKind.f64 x) IntKind.i64))) (can FloatKind.f64 4607182418800017408)) (can FloatKind.f64 4602678819172646912))) (can FloatKind.f64 4618760256179416344)) (fop BinOp.mul FloatKind.f64 (fop BinOp.sub FloatKind.f64 (can FloatKind.f64 4602678819172646912) (fop BinOp.sub FloatKind.f64 (fop BinOp.add FloatKind.f64 (fop BinOp.sub FloatKind.f64 (fcvt FloatKind.f32 FloatKind.f64 x) (fofInt FloatKind.f64 (ftoInt FloatKind.f64 (fcvt FloatKind.f32 FloatKind.f64 x) IntKind.i64))) (can FloatKind.f64 4607182418800017408)) (can FloatKind.f64 4602678819172646912))) (can FloatKind.f64 4618760256179416344))) 8))) && true else fcvtOk FloatKind.f64 FloatKind.f32 (fop BinOp.mul FloatKind.f64 (fop BinOp.mul FloatKind.f64 (fop BinOp.sub FloatKind.f64 (can FloatKind.f64 4602678819172646912) (fop BinOp.sub FloatKind.f64 (fop BinOp.add FloatKind.f64 (fop BinOp.sub FloatKind.f64 (fcvt FloatKind.f32 FloatKind.f64 x) (fofInt FloatKind.f64 (ftoInt FloatKind.f64 (fcvt FloatKind.f32 FloatKind.f64 x) IntKind.i64))) (can FloatKind.f64 4607182418800017408)) (can FloatKind.f64 4602678819172646912))) (can FloatKind.f64 4618760256179416344)) (sp (fop BinOp.mul FloatKind.f64 (fop BinOp.mul FloatKind.f64 (fop BinOp.sub FloatKind.f64 (can FloatKind.f64 4602678819172646912) (fop BinOp.sub FloatKind.f64 (fop BinOp.add FloatKind.f64 (fop BinOp.sub FloatKind.f64 (fcvt FloatKind.f32 FloatKind.f64 x) (fofInt FloatKind.f64 (ftoInt FloatKind.f64 (fcvt FloatKind.f32 FloatKind.f64 x) IntKind.i64))) (can FloatKind.f64 4607182418800017408)) (can FloatKind.f64 4602678819172646912))) (can FloatKind.f64 4618760256179416344)) (fop BinOp.mul FloatKind.f64 (fop BinOp.sub FloatKind.f64 (can FloatKind.f64 4602678819172646912) (fop BinOp.sub FloatKind.f64 (fop BinOp.add FloatKind.f64 (fop BinOp.sub FloatKind.f64 (fcvt FloatKind.f32 FloatKind.f64 x) (fofInt FloatKind.f64 (ftoInt FloatKind.f64 (fcvt FloatKind.f32 FloatKind.f64 x) IntKind.i64))) (can FloatKind.f64 4607182418800017408)) (can FloatKind.f64 4602678819172646912))) (can FloatKind.f64 4618760256179416344))) 8)) && true else (can FloatKind.f64 4607182418800017408).beq (sp (fop BinOp.mul FloatKind.f64 (fop BinOp.mul FloatKind.f64 (fop BinOp.sub FloatKind.f64 (fop BinOp.add FloatKind.f64 (fop BinOp.sub FloatKind.f64 (fcvt FloatKind.f32 FloatKind.f64 x) (fofInt FloatKind.f64 (ftoInt FloatKind.f64 (fcvt FloatKind.f32 FloatKind.f64 x) IntKind.i64))) (can FloatKind.f64 4607182418800017408)) (can FloatKind.f64 4602678819172646912)) (can FloatKind.f64 4618760256179416344)) (fop BinOp.mul FloatKind.f64 (fop BinOp.sub FloatKind.f64 (fop BinOp.add FloatKind.f64 (fop BinOp.sub FloatKind.f64 (fcvt FloatKind.f32 FloatKind.f64 x) (fofInt FloatKind.f64 (ftoInt FloatKind.f64 (fcvt FloatKind.f32 FloatKind.f64 x) IntKind.i64))) (can FloatKind.f64 4607182418800017408)) (can FloatKind.f64 4602678819172646912)) (can FloatKind.f64 4618760256179416344))) 0) && (can FloatKind.f64 4620693217682128896).beq (kF 0) && bif forder FloatKind.f64 (fop BinOp.add FloatKind.f64 (fop BinOp.sub FloatKind.f64 (fcvt FloatKind.f32 FloatKind.f64 x) (fofInt FloatKind.f64 (ftoInt FloatKind.f64 (fcvt FloatKind.f32 FloatKind.f64 x) IntKind.i64))) (can FloatKind.f64 4607182418800017408)) (can FloatKind.f64 4602678819172646912) == some Ordering.gt || forder FloatKind.f64 (fop BinOp.add FloatKind.f64 (fop BinOp.sub FloatKind.f64 (fcvt FloatKind.f32 FloatKind.f64 x) (fofInt FloatKind.f64 (ftoInt FloatKind.f64 (fcvt FloatKind.f32 FloatKind.f64 x) IntKind.i64))) (can FloatKind.f64 4607182418800017408)) (can FloatKind.f64 4602678819172646912) == some Ordering.eq then fcvtOk FloatKind.f64 FloatKind.f32 (fneg FloatKind.f64 (fop BinOp.mul FloatKind.f64 (fop BinOp.mul FloatKind.f64 (fop BinOp.sub FloatKind.f64 (fop BinOp.add FloatKind.f64 (fop BinOp.sub FloatKind.f64 (fcvt FloatKind.f32 FloatKind.f64 x) (fofInt FloatKind.f64 (ftoInt FloatKind.f64 (fcvt FloatKind.f32 FloatKind.f64 x) IntKind.i64))) (can FloatKind.f64 4607182418800017408)) (can FloatKind.f64 4602678819172646912)) (can FloatKind.f64 4618760256179416344)) (sp (fop BinOp.mul FloatKind.f64 (fop BinOp.mul FloatKind.f64 (fop BinOp.sub FloatKind.f64 (fop BinOp.add FloatKind.f64 (fop BinOp.sub FloatKind.f64 (fcvt FloatKind.f32 FloatKind.f64 x) (fofInt FloatKind.f64 (ftoInt FloatKind.f64 (fcvt FloatKind.f32 FloatKind.f64 x) IntKind.i64))) (can FloatKind.f64 4607182418800017408)) (can FloatKind.f64 4602678819172646912)) (can FloatKind.f64 4618760256179416344)) (fop BinOp.mul FloatKind.f64 (fop BinOp.sub FloatKind.f64 (fop BinOp.add FloatKind.f64 (fop BinOp.sub FloatKind.f64 (fcvt FloatKind.f32 FloatKind.f64 x) (fofInt FloatKind.f64 (ftoInt FloatKind.f64 (fcvt FloatKind.f32 FloatKind.f64 x) IntKind.i64))) (can FloatKind.f64 4607182418800017408)) (can FloatKind.f64 4602678819172646912)) (can FloatKind.f64 4618760256179416344))) 8))) && true else fcvtOk FloatKind.f64 FloatKind.f32 (fop BinOp.mul FloatKind.f64 (fop BinOp.mul FloatKind.f64 (fop BinOp.sub FloatKind.f64 (fop BinOp.add FloatKind.f64 (fop BinOp.sub FloatKind.f64 (fcvt FloatKind.f32 FloatKind.f64 x) (fofInt FloatKind.f64 (ftoInt FloatKind.f64 (fcvt FloatKind.f32 FloatKind.f64 x) IntKind.i64))) (can FloatKind.f64 4607182418800017408)) (can FloatKind.f64 4602678819172646912)) (can FloatKind.f64 4618760256179416344)) (sp (fop BinOp.mul FloatKind.f64 (fop BinOp.mul FloatKind.f64 (fop BinOp.sub FloatKind.f64 (fop BinOp.add FloatKind.f64 (fop BinOp.sub FloatKind.f64 (fcvt FloatKind.f32 FloatKind.f64 x) (fofInt FloatKind.f64 (ftoInt FloatKind.f64 (fcvt FloatKind.f32 FloatKind.f64 x) IntKind.i64))) (can FloatKind.f64 4607182418800017408)) (can FloatKind.f64 4602678819172646912)) (can FloatKind.f64 4618760256179416344)) (fop BinOp.mul FloatKind.f64 (fop BinOp.sub FloatKind.f64 (fop BinOp.add FloatKind.f64 (fop BinOp.sub FloatKind.f64 (fcvt FloatKind.f32 FloatKind.f64 x) (fofInt FloatKind.f64 (ftoInt FloatKind.f64 (fcvt FloatKind.f32 FloatKind.f64 x) IntKind.i64))) (can FloatKind.f64 4607182418800017408)) (can FloatKind.f64 4602678819172646912)) (can FloatKind.f64 4618760256179416344))) 8)) && true else bif forder FloatKind.f64 (fop BinOp.add FloatKind.f64 (fop BinOp.sub FloatKind.f64 (fcvt FloatKind.f32 FloatKind.f64 x) (fofInt FloatKind.f64 (ftoInt FloatKind.f64 (fcvt FloatKind.f32 FloatKind.f64 x) IntKind.i64))) (can FloatKind.f64 4607182418800017408)) (can FloatKind.f64 4598175219545276416) == some Ordering.gt then (can FloatKind.f64 4607182418800017408).beq (sp (fop BinOp.mul FloatKind.f64 (fop BinOp.mul FloatKind.f64 (fop BinOp.sub FloatKind.f64 (can FloatKind.f64 4602678819172646912) (fop BinOp.add FloatKind.f64 (fop BinOp.sub FloatKind.f64 (fcvt FloatKind.f32 FloatKind.f64 x) (fofInt FloatKind.f64 (ftoInt FloatKind.f64 (fcvt FloatKind.f32 FloatKind.f64 x) IntKind.i64))) (can FloatKind.f64 4607182418800017408))) (can FloatKind.f64 4618760256179416344)) (fop BinOp.mul FloatKind.f64 (fop BinOp.sub FloatKind.f64 (can FloatKind.f64 4602678819172646912) (fop BinOp.add FloatKind.f64 (fop BinOp.sub FloatKind.f64 (fcvt FloatKind.f32 FloatKind.f64 x) (fofInt FloatKind.f64 (ftoInt FloatKind.f64 (fcvt FloatKind.f32 FloatKind.f64 x) IntKind.i64))) (can FloatKind.f64 4607182418800017408))) (can FloatKind.f64 4618760256179416344))) 0) && (can FloatKind.f64 4620693217682128896).beq (kF 0) && bif forder FloatKind.f64 (fop BinOp.add FloatKind.f64 (fop BinOp.sub FloatKind.f64 (fcvt FloatKind.f32 FloatKind.f64 x) (fofInt FloatKind.f64 (ftoInt FloatKind.f64 (fcvt FloatKind.f32 FloatKind.f64 x) IntKind.i64))) (can FloatKind.f64 4607182418800017408)) (can FloatKind.f64 4602678819172646912) == some Ordering.gt || forder FloatKind.f64 (fop BinOp.add FloatKind.f64 (fop BinOp.sub FloatKind.f64 (fcvt FloatKind.f32 FloatKind.f64 x) (fofInt FloatKind.f64 (ftoInt FloatKind.f64 (fcvt FloatKind.f32 FloatKind.f64 x) IntKind.i64))) (can FloatKind.f64 4607182418800017408)) (can FloatKind.f64 4602678819172646912) == some Ordering.eq then fcvtOk FloatKind.f64 FloatKind.f32 (fneg FloatKind.f64 (fop BinOp.mul FloatKind.f64 (fop BinOp.mul FloatKind.f64 (fop BinOp.sub FloatKind.f64 (can FloatKind.f64 4602678819172646912) (fop BinOp.add FloatKind.f64 (fop BinOp.sub FloatKind.f64 (fcvt FloatKind.f32 FloatKind.f64 x) (fofInt FloatKind.f64 (ftoInt FloatKind.f64 (fcvt FloatKind.f32 FloatKind.f64 x) IntKind.i64))) (can FloatKind.f64 4607182418800017408))) (can FloatKind.f64 4618760256179416344)) (sp (fop BinOp.mul FloatKind.f64 (fop BinOp.mul FloatKind.f64 (fop BinOp.sub FloatKind.f64 (can FloatKind.f64 4602678819172646912) (fop BinOp.add FloatKind.f64 (fop BinOp.sub FloatKind.f64 (fcvt FloatKind.f32 FloatKind.f64 x) (fofInt FloatKind.f64 (ftoInt FloatKind.f64 (fcvt FloatKind.f32 FloatKind.f64 x) IntKind.i64))) (can FloatKind.f64 4607182418800017408))) (can FloatKind.f64 4618760256179416344)) (fop BinOp.mul FloatKind.f64 (fop BinOp.sub FloatKind.f64 (can FloatKind.f64 4602678819172646912) (fop BinOp.add FloatKind.f64 (fop BinOp.sub FloatKind.f64 (fcvt FloatKind.f32 FloatKind.f64 x) (fofInt FloatKind.f64 (ftoInt FloatKind.f64 (fcvt FloatKind.f32 FloatKind.f64 x) IntKind.i64))) (can FloatKind.f64 4607182418800017408))) (can FloatKind.f64 4618760256179416344))) 8))) && true else fcvtOk FloatKind.f64 FloatKind.f32 (fop BinOp.mul FloatKind.f64 (fop BinOp.mul FloatKind.f64 (fop BinOp.sub FloatKind.f64 (can FloatKind.f64 4602678819172646912) (fop BinOp.add FloatKind.f64 (fop BinOp.sub FloatKind.f64 (fcvt FloatKind.f32 FloatKind.f64 x) (fofInt FloatKind.f64 (ftoInt FloatKind.f64 (fcvt FloatKind.f32 FloatKind.f64 x) IntKind.i64))) (can FloatKind.f64 4607182418800017408))) (can FloatKind.f64 4618760256179416344)) (sp (fop BinOp.mul FloatKind.f64 (fop BinOp.mul FloatKind.f64 (fop BinOp.sub FloatKind.f64 (can FloatKind.f64 4602678819172646912) (fop BinOp.add FloatKind.f64 (fop BinOp.sub FloatKind.f64 (fcvt FloatKind.f32 FloatKind.f64 x) (fofInt FloatKind.f64 (ftoInt FloatKind.f64 (fcvt FloatKind.f32 FloatKind.f64 x) IntKind.i64))) (can FloatKind.f64 4607182418800017408))) (can FloatKind.f64 4618760256179416344)) (fop BinOp.mul FloatKind.f64 (fop BinOp.sub FloatKind.f64 (can FloatKind.f64 4602678819172646912) (fop BinOp.add FloatKind.f64 (fop BinOp.sub FloatKind.f64 (fcvt FloatKind.f32 FloatKind.f64 x) (fofInt FloatKind.f64 (ftoInt FloatKind.f64 (fcvt FloatKind.f32 FloatKind.f64 x) IntKind.i64))) (can FloatKind.f64 4607182418800017408))) (can FloatKind.f64 4618760256179416344))) 8)) && true else (can FloatKind.f64 4607182418800017408).beq (sp (fop BinOp.mul FloatKind.f64 (fop BinOp.mul FloatKind.f64 (fop BinOp.add FloatKind.f64 (fop BinOp.sub FloatKind.f64 (fcvt FloatKind.f32 FloatKind.f64 x) (fofInt FloatKind.f64 (ftoInt FloatKind.f64 (fcvt FloatKind.f32 FloatKind.f64 x) IntKind.i64))) (can FloatKind.f64 4607182418800017408)) (can FloatKind.f64 4618760256179416344)) (fop BinOp.mul FloatKind.f64 (fop BinOp.add FloatKind.f64 (fop BinOp.sub FloatKind.f64 (fcvt FloatKind.f32 FloatKind.f64 x) (fofInt FloatKind.f64 (ftoInt FloatKind.f64 (fcvt FloatKind.f32 FloatKind.f64 x) IntKind.i64))) (can FloatKind.f64 4607182418800017408)) (can FloatKind.f64 4618760256179416344))) 0) && (can FloatKind.f64 4620693217682128896).beq (kF 0) && bif forder FloatKind.f64 (fop BinOp.add FloatKind.f64 (fop BinOp.sub FloatKind.f64 (fcvt FloatKind.f32 FloatKind.f64 x) (fofInt FloatKind.f64 (ftoInt FloatKind.f64 (fcvt FloatKind.f32 FloatKind.f64 x) IntKind.i64))) (can FloatKind.f64 4607182418800017408)) (can FloatKind.f64 4602678819172646912) == some Ordering.gt || forder FloatKind.f64 (fop BinOp.add FloatKind.f64 (fop BinOp.sub FloatKind.f64 (fcvt FloatKind.f32 FloatKind.f64 x) (fofInt FloatKind.f64 (ftoInt FloatKind.f64 (fcvt FloatKind.f32 FloatKind.f64 x) IntKind.i64))) (can FloatKind.f64 4607182418800017408)) (can FloatKind.f64 4602678819172646912) == some Ordering.eq then fcvtOk FloatKind.f64 FloatKind.f32 (fneg FloatKind.f64 (fop BinOp.mul FloatKind.f64 (fop BinOp.mul FloatKind.f64 (fop BinOp.add FloatKind.f64 (fop BinOp.sub FloatKind.f64 (fcvt FloatKind.f32 FloatKind.f64 x) (fofInt FloatKind.f64 (ftoInt FloatKind.f64 (fcvt FloatKind.f32 FloatKind.f64 x) IntKind.i64))) (can FloatKind.f64 4607182418800017408)) (can FloatKind.f64 4618760256179416344)) (sp (fop BinOp.mul FloatKind.f64 (fop BinOp.mul FloatKind.f64 (fop BinOp.add FloatKind.f64 (fop BinOp.sub FloatKind.f64 (fcvt FloatKind.f32 FloatKind.f64 x) (fofInt FloatKind.f64 (ftoInt FloatKind.f64 (fcvt FloatKind.f32 FloatKind.f64 x) IntKind.i64))) (can FloatKind.f64 4607182418800017408)) (can FloatKind.f64 4618760256179416344)) (fop BinOp.mul FloatKind.f64 (fop BinOp.add FloatKind.f64 (fop BinOp.sub FloatKind.f64 (fcvt FloatKind.f32 FloatKind.f64 x) (fofInt FloatKind.f64 (ftoInt FloatKind.f64 (fcvt FloatKind.f32 FloatKind.f64 x) IntKind.i64))) (can FloatKind.f64 4607182418800017408)) (can FloatKind.f64 4618760256179416344))) 8))) && true else fcvtOk FloatKind.f64 FloatKind.f32 (fop BinOp.mul FloatKind.f64 (fop BinOp.mul FloatKind.f64 (fop BinOp.add FloatKind.f64 (fop BinOp.sub FloatKind.f64 (fcvt FloatKind.f32 FloatKind.f64 x) (fofInt FloatKind.f64 (ftoInt FloatKind.f64 (fcvt FloatKind.f32 FloatKind.f64 x) IntKind.i64))) (can FloatKind.f64 4607182418800017408)) (can FloatKind.f64 4618760256179416344)) (sp (fop BinOp.mul FloatKind.f64 (fop BinOp.mul FloatKind.f64 (fop BinOp.add FloatKind.f64 (fop BinOp.sub FloatKind.f64 (fcvt FloatKind.f32 FloatKind.f64 x) (fofInt FloatKind.f64 (ftoInt FloatKind.f64 (fcvt FloatKind.f32 FloatKind.f64 x) IntKind.i64))) (can FloatKind.f64 4607182418800017408)) (can FloatKind.f64 4618760256179416344)) (fop BinOp.mul FloatKind.f64 (fop BinOp.add FloatKind.f64 (fop BinOp.sub FloatKind.f64 (fcvt FloatKind.f32 FloatKind.f64 x) (fofInt FloatKind.f64 (ftoInt FloatKind.f64 (fcvt FloatKind.f32 FloatKind.f64 x) IntKind.i64))) (can FloatKind.f64 4607182418800017408)) (can FloatKind.f64 4618760256179416344))) 8)) && true else bif forder FloatKind.f64 (fop BinOp.sub FloatKind.f64 (fcvt FloatKind.f32 FloatKind.f64 x) (fofInt FloatKind.f64 (ftoInt FloatKind.f64 (fcvt FloatKind.f32 FloatKind.f64 x) IntKind.i64))) (can FloatKind.f64 4602678819172646912) == some Ordering.gt || forder FloatKind.f64 (fop BinOp.sub FloatKind.f64 (fcvt FloatKind.f32 FloatKind.f64 x) (fofInt FloatKind.f64 (ftoInt FloatKind.f64 (fcvt FloatKind.f32 FloatKind.f64 x) IntKind.i64))) (can FloatKind.f64 4602678819172646912) == some Ordering.eq then bif forder FloatKind.f64 (fop BinOp.sub FloatKind.f64 (fop BinOp.sub FloatKind.f64 (fcvt FloatKind.f32 FloatKind.f64 x) (fofInt FloatKind.f64 (ftoInt FloatKind.f64 (fcvt FloatKind.f32 FloatKind.f64 x) IntKind.i64))) (can FloatKind.f64 4602678819172646912)) (can FloatKind.f64 4598175219545276416) == some Ordering.gt then (can FloatKind.f64 4607182418800017408).beq (sp (fop BinOp.mul FloatKind.f64 (fop BinOp.mul FloatKind.f64 (fop BinOp.sub FloatKind.f64 (can FloatKind.f64 4602678819172646912) (fop BinOp.sub FloatKind.f64 (fop BinOp.sub FloatKind.f64 (fcvt FloatKind.f32 FloatKind.f64 x) (fofInt FloatKind.f64 (ftoInt FloatKind.f64 (fcvt FloatKind.f32 FloatKind.f64 x) IntKind.i64))) (can FloatKind.f64 4602678819172646912))) (can FloatKind.f64 4618760256179416344)) (fop BinOp.mul FloatKind.f64 (fop BinOp.sub FloatKind.f64 (can FloatKind.f64 4602678819172646912) (fop BinOp.sub FloatKind.f64 (fop BinOp.sub FloatKind.f64 (fcvt FloatKind.f32 FloatKind.f64 x) (fofInt FloatKind.f64 (ftoInt FloatKind.f64 (fcvt FloatKind.f32 FloatKind.f64 x) IntKind.i64))) (can FloatKind.f64 4602678819172646912))) (can FloatKind.f64 4618760256179416344))) 0) && (can FloatKind.f64 4620693217682128896).beq (kF 0) && bif forder FloatKind.f64 (fop BinOp.sub FloatKind.f64 (fcvt FloatKind.f32 FloatKind.f64 x) (fofInt FloatKind.f64 (ftoInt FloatKind.f64 (fcvt FloatKind.f32 FloatKind.f64 x) IntKind.i64))) (can FloatKind.f64 4602678819172646912) == some Ordering.gt || forder FloatKind.f64 (fop BinOp.sub FloatKind.f64 (fcvt FloatKind.f32 FloatKind.f64 x) (fofInt FloatKind.f64 (ftoInt FloatKind.f64 (fcvt FloatKind.f32 FloatKind.f64 x) IntKind.i64))) (can FloatKind.f64 4602678819172646912) == some Ordering.eq then fcvtOk FloatKind.f64 FloatKind.f32 (fneg FloatKind.f64 (fop BinOp.mul FloatKind.f64 (fop BinOp.mul FloatKind.f64 (fop BinOp.sub FloatKind.f64 (can FloatKind.f64 4602678819172646912) (fop BinOp.sub FloatKind.f64 (fop BinOp.sub FloatKind.f64 (fcvt FloatKind.f32 FloatKind.f64 x) (fofInt FloatKind.f64 (ftoInt FloatKind.f64 (fcvt FloatKind.f32 FloatKind.f64 x) IntKind.i64))) (can FloatKind.f64 4602678819172646912))) (can FloatKind.f64 4618760256179416344)) (sp (fop BinOp.mul FloatKind.f64 (fop BinOp.mul FloatKind.f64 (fop BinOp.sub FloatKind.f64 (can FloatKind.f64 4602678819172646912) (fop BinOp.sub FloatKind.f64 (fop BinOp.sub FloatKind.f64 (fcvt FloatKind.f32 FloatKind.f64 x) (fofInt FloatKind.f64 (ftoInt FloatKind.f64 (fcvt FloatKind.f32 FloatKind.f64 x) IntKind.i64))) (can FloatKind.f64 4602678819172646912))) (can FloatKind.f64 4618760256179416344)) (fop BinOp.mul FloatKind.f64 (fop BinOp.sub FloatKind.f64 (can FloatKind.f64 4602678819172646912) (fop BinOp.sub FloatKind.f64 (fop BinOp.sub FloatKind.f64 (fcvt FloatKind.f32 FloatKind.f64 x) (fofInt FloatKind.f64 (ftoInt FloatKind.f64 (fcvt FloatKind.f32 FloatKind.f64 x) IntKind.i64))) (can FloatKind.f64 4602678819172646912))) (can FloatKind.f64 4618760256179416344))) 8))) && true else fcvtOk FloatKind.f64 FloatKind.f32 (fop BinOp.mul FloatKind.f64 (fop BinOp.mul FloatKind.f64 (fop BinOp.sub FloatKind.f64 (can FloatKind.f64 4602678819172646912) (fop BinOp.sub FloatKind.f64 (fop BinOp.sub FloatKind.f64 (fcvt FloatKind.f32 FloatKind.f64 x) (fofInt FloatKind.f64 (ftoInt FloatKind.f64 (fcvt FloatKind.f32 FloatKind.f64 x) IntKind.i64))) (can FloatKind.f64 4602678819172646912))) (can FloatKind.f64 4618760256179416344)) (sp (fop BinOp.mul FloatKind.f64 (fop BinOp.mul FloatKind.f64 (fop BinOp.sub FloatKind.f64 (can FloatKind.f64 4602678819172646912) (fop BinOp.sub FloatKind.f64 (fop BinOp.sub FloatKind.f64 (fcvt FloatKind.f32 FloatKind.f64 x) (fofInt FloatKind.f64 (ftoInt FloatKind.f64 (fcvt FloatKind.f32 FloatKind.f64 x) IntKind.i64))) (can FloatKind.f64 4602678819172646912))) (can FloatKind.f64 4618760256179416344)) (fop BinOp.mul FloatKind.f64 (fop BinOp.sub FloatKind.f64 (can FloatKind.f64 4602678819172646912) (fop BinOp.sub FloatKind.f64 (fop BinOp.sub FloatKind.f64 (fcvt FloatKind.f32 FloatKind.f64 x) (fofInt FloatKind.f64 (ftoInt FloatKind.f64 (fcvt FloatKind.f32 FloatKind.f64 x) IntKind.i64))) (can FloatKind.f64 4602678819172646912))) (can FloatKind.f64 4618760256179416344))) 8)) && true else (can FloatKind.f64 4607182418800017408).beq (sp (fop BinOp.mul FloatKind.f64 (fop BinOp.mul FloatKind.f64 (fop BinOp.sub FloatKind.f64 (fop BinOp.sub FloatKind.f64 (fcvt FloatKind.f32 FloatKind.f64 x) (fofInt FloatKind.f64 (ftoInt FloatKind.f64 (fcvt FloatKind.f32 FloatKind.f64 x) IntKind.i64))) (can FloatKind.f64 4602678819172646912)) (can FloatKind.f64 4618760256179416344)) (fop BinOp.mul FloatKind.f64 (fop BinOp.sub FloatKind.f64 (fop BinOp.sub FloatKind.f64 (fcvt FloatKind.f32 FloatKind.f64 x) (fofInt FloatKind.f64 (ftoInt FloatKind.f64 (fcvt FloatKind.f32 FloatKind.f64 x) IntKind.i64))) (can FloatKind.f64 4602678819172646912)) (can FloatKind.f64 4618760256179416344))) 0) && (can FloatKind.f64 4620693217682128896).beq (kF 0) && bif forder FloatKind.f64 (fop BinOp.sub FloatKind.f64 (fcvt FloatKind.f32 FloatKind.f64 x) (fofInt FloatKind.f64 (ftoInt FloatKind.f64 (fcvt FloatKind.f32 FloatKind.f64 x) IntKind.i64))) (can FloatKind.f64 4602678819172646912) == some Ordering.gt || forder FloatKind.f64 (fop BinOp.sub FloatKind.f64 (fcvt FloatKind.f32 FloatKind.f64 x) (fofInt FloatKind.f64 (ftoInt FloatKind.f64 (fcvt FloatKind.f32 FloatKind.f64 x) IntKind.i64))) (can FloatKind.f64 4602678819172646912) == some Ordering.eq then fcvtOk FloatKind.f64 FloatKind.f32 (fneg FloatKind.f64 (fop BinOp.mul FloatKind.f64 (fop BinOp.mul FloatKind.f64 (fop BinOp.sub FloatKind.f64 (fop BinOp.sub FloatKind.f64 (fcvt FloatKind.f32 FloatKind.f64 x) (fofInt FloatKind.f64 (ftoInt FloatKind.f64 (fcvt FloatKind.f32 FloatKind.f64 x) IntKind.i64))) (can FloatKind.f64 4602678819172646912)) (can FloatKind.f64 4618760256179416344)) (sp (fop BinOp.mul FloatKind.f64 (fop BinOp.mul FloatKind.f64 (fop BinOp.sub FloatKind.f64 (fop BinOp.sub FloatKind.f64 (fcvt FloatKind.f32 FloatKind.f64 x) (fofInt FloatKind.f64 (ftoInt FloatKind.f64 (fcvt FloatKind.f32 FloatKind.f64 x) IntKind.i64))) (can FloatKind.f64 4602678819172646912)) (can FloatKind.f64 4618760256179416344)) (fop BinOp.mul FloatKind.f64 (fop BinOp.sub FloatKind.f64 (fop BinOp.sub FloatKind.f64 (fcvt FloatKind.f32 FloatKind.f64 x) (fofInt FloatKind.f64 (ftoInt FloatKind.f64 (fcvt FloatKind.f32 FloatKind.f64 x) IntKind.i64))) (can FloatKind.f64 4602678819172646912)) (can FloatKind.f64 4618760256179416344))) 8))) && true else fcvtOk FloatKind.f64 FloatKind.f32 (fop BinOp.mul FloatKind.f64 (fop BinOp.mul FloatKind.f64 (fop BinOp.sub FloatKind.f64 (fop BinOp.sub FloatKind.f64 (fcvt FloatKind.f32 FloatKind.f64 x) (fofInt FloatKind.f64 (ftoInt FloatKind.f64 (fcvt FloatKind.f32 FloatKind.f64 x) IntKind.i64))) (can FloatKind.f64 4602678819172646912)) (can FloatKind.f64 4618760256179416344)) (sp (fop BinOp.mul FloatKind.f64 (fop BinOp.mul FloatKind.f64 (fop BinOp.sub FloatKind.f64 (fop BinOp.sub FloatKind.f64 (fcvt FloatKind.f32 FloatKind.f64 x) (fofInt FloatKind.f64 (ftoInt FloatKind.f64 (fcvt FloatKind.f32 FloatKind.f64 x) IntKind.i64))) (can FloatKind.f64 4602678819172646912)) (can FloatKind.f64 4618760256179416344)) (fop BinOp.mul FloatKind.f64 (fop BinOp.sub FloatKind.f64 (fop BinOp.sub FloatKind.f64 (fcvt FloatKind.f32 FloatKind.f64 x) (fofInt FloatKind.f64 (ftoInt FloatKind.f64 (fcvt FloatKind.f32 FloatKind.f64 x) IntKind.i64))) (can FloatKind.f64 4602678819172646912)) (can FloatKind.f64 4618760256179416344))) 8)) && true else bif forder FloatKind.f64 (fop BinOp.sub FloatKind.f64 (fcvt FloatKind.f32 FloatKind.f64 x) (fofInt FloatKind.f64 (ftoInt FloatKind.f64 (fcvt FloatKind.f32 FloatKind.f64 x) IntKind.i64))) (can FloatKind.f64 4598175219545276416) == some Ordering.gt then (can FloatKind.f64 4607182418800017408).beq (sp (fop BinOp.mul FloatKind.f64 (fop BinOp.mul FloatKind.f64 (fop BinOp.sub FloatKind.f64 (can FloatKind.f64 4602678819172646912) (fop BinOp.sub FloatKind.f64 (fcvt FloatKind.f32 FloatKind.f64 x) (fofInt FloatKind.f64 (ftoInt FloatKind.f64 (fcvt FloatKind.f32 FloatKind.f64 x) IntKind.i64)))) (can FloatKind.f64 4618760256179416344)) (fop BinOp.mul FloatKind.f64 (fop BinOp.sub FloatKind.f64 (can FloatKind.f64 4602678819172646912) (fop BinOp.sub FloatKind.f64 (fcvt FloatKind.f32 FloatKind.f64 x) (fofInt FloatKind.f64 (ftoInt FloatKind.f64 (fcvt FloatKind.f32 FloatKind.f64 x) IntKind.i64)))) (can FloatKind.f64 4618760256179416344))) 0) && (can FloatKind.f64 4620693217682128896).beq (kF 0) && bif forder FloatKind.f64 (fop BinOp.sub FloatKind.f64 (fcvt FloatKind.f32 FloatKind.f64 x) (fofInt FloatKind.f64 (ftoInt FloatKind.f64 (fcvt FloatKind.f32 FloatKind.f64 x) IntKind.i64))) (can FloatKind.f64 4602678819172646912) == some Ordering.gt || forder FloatKind.f64 (fop BinOp.sub FloatKind.f64 (fcvt FloatKind.f32 FloatKind.f64 x) (fofInt FloatKind.f64 (ftoInt FloatKind.f64 (fcvt FloatKind.f32 FloatKind.f64 x) IntKind.i64))) (can FloatKind.f64 4602678819172646912) == some Ordering.eq then fcvtOk FloatKind.f64 FloatKind.f32 (fneg FloatKind.f64 (fop BinOp.mul FloatKind.f64 (fop BinOp.mul FloatKind.f64 (fop BinOp.sub FloatKind.f64 (can FloatKind.f64 4602678819172646912) (fop BinOp.sub FloatKind.f64 (fcvt FloatKind.f32 FloatKind.f64 x) (fofInt FloatKind.f64 (ftoInt FloatKind.f64 (fcvt FloatKind.f32 FloatKind.f64 x) IntKind.i64)))) (can FloatKind.f64 4618760256179416344)) (sp (fop BinOp.mul FloatKind.f64 (fop BinOp.mul FloatKind.f64 (fop BinOp.sub FloatKind.f64 (can FloatKind.f64 4602678819172646912) (fop BinOp.sub FloatKind.f64 (fcvt FloatKind.f32 FloatKind.f64 x) (fofInt FloatKind.f64 (ftoInt FloatKind.f64 (fcvt FloatKind.f32 FloatKind.f64 x) IntKind.i64)))) (can FloatKind.f64 4618760256179416344)) (fop BinOp.mul FloatKind.f64 (fop BinOp.sub FloatKind.f64 (can FloatKind.f64 4602678819172646912) (fop BinOp.sub FloatKind.f64 (fcvt FloatKind.f32 FloatKind.f64 x) (fofInt FloatKind.f64 (ftoInt FloatKind.f64 (fcvt FloatKind.f32 FloatKind.f64 x) IntKind.i64)))) (can FloatKind.f64 4618760256179416344))) 8))) && true else fcvtOk FloatKind.f64 FloatKind.f32 (fop BinOp.mul FloatKind.f64 (fop BinOp.mul FloatKind.f64 (fop BinOp.sub FloatKind.f64 (can FloatKind.f64 4602678819172646912) (fop BinOp.sub FloatKind.f64 (fcvt FloatKind.f32 FloatKind.f64 x) (fofInt FloatKind.f64 (ftoInt FloatKind.f64 (fcvt FloatKind.f32 FloatKind.f64 x) IntKind.i64)))) (can FloatKind.f64 4618760256179416344)) (sp (fop BinOp.mul FloatKind.f64 (fop BinOp.mul FloatKind.f64 (fop BinOp.sub FloatKind.f64 (can FloatKind.f64 4602678819172646912) (fop BinOp.sub FloatKind.f64 (fcvt FloatKind.f32 FloatKind.f64 x) (fofInt FloatKind.f64 (ftoInt FloatKind.f64 (fcvt FloatKind.f32 FloatKind.f64 x) IntKind.i64)))) (can FloatKind.f64 4618760256179416344)) (fop BinOp.mul FloatKind.f64 (fop BinOp.sub FloatKind.f64 (can FloatKind.f64 4602678819172646912) (fop BinOp.sub FloatKind.f64 (fcvt FloatKind.f32 FloatKind.f64 x) (fofInt FloatKind.f64 (ftoInt FloatKind.f64 (fcvt FloatKind.f32 FloatKind.f64 x) IntKind.i64)))) (can FloatKind.f64 4618760256179416344))) 8)) && true else (can FloatKind.f64 4607182418800017408).beq (sp (fop BinOp.mul FloatKind.f64 (fop BinOp.mul FloatKind.f64 (fop BinOp.sub FloatKind.f64 (fcvt FloatKind.f32 FloatKind.f64 x) (fofInt FloatKind.f64 (ftoInt FloatKind.f64 (fcvt FloatKind.f32 FloatKind.f64 x) IntKind.i64))) (can FloatKind.f64 4618760256179416344)) (fop BinOp.mul FloatKind.f64 (fop BinOp.sub FloatKind.f64 (fcvt FloatKind.f32 FloatKind.f64 x) (fofInt FloatKind.f64 (ftoInt FloatKind.f64 (fcvt FloatKind.f32 FloatKind.f64 x) IntKind.i64))) (can FloatKind.f64 4618760256179416344))) 0) && (can FloatKind.f64 4620693217682128896).beq (kF 0) && bif forder FloatKind.f64 (fop BinOp.sub FloatKind.f64 (fcvt FloatKind.f32 FloatKind.f64 x) (fofInt FloatKind.f64 (ftoInt FloatKind.f64 (fcvt FloatKind.f32 FloatKind.f64 x) IntKind.i64))) (can FloatKind.f64 4602678819172646912) == some Ordering.gt || forder FloatKind.f64 (fop BinOp.sub FloatKind.f64 (fcvt FloatKind.f32 FloatKind.f64 x) (fofInt FloatKind.f64 (ftoInt FloatKind.f64 (fcvt FloatKind.f32 FloatKind.f64 x) IntKind.i64))) (can FloatKind.f64 4602678819172646912) == some Ordering.eq then fcvtOk FloatKind.f64 FloatKind.f32 (fneg FloatKind.f64 (fop BinOp.mul FloatKind.f64 (fop BinOp.mul FloatKind.f64 (fop BinOp.sub FloatKind.f64 (fcvt FloatKind.f32 FloatKind.f64 x) (fofInt FloatKind.f64 (ftoInt FloatKind.f64 (fcvt FloatKind.f32 FloatKind.f64 x) IntKind.i64))) (can FloatKind.f64 4618760256179416344)) (sp (fop BinOp.mul FloatKind.f64 (fop BinOp.mul FloatKind.f64 (fop BinOp.sub FloatKind.f64 (fcvt FloatKind.f32 FloatKind.f64 x) (fofInt FloatKind.f64 (ftoInt FloatKind.f64 (fcvt FloatKind.f32 FloatKind.f64 x) IntKind.i64))) (can FloatKind.f64 4618760256179416344)) (fop BinOp.mul FloatKind.f64 (fop BinOp.sub FloatKind.f64 (fcvt FloatKind.f32 FloatKind.f64 x) (fofInt FloatKind.f64 (ftoInt FloatKind.f64 (fcvt FloatKind.f32 FloatKind.f64 x) IntKind.i64))) (can FloatKind.f64 4618760256179416344))) 8))) && true else fcvtOk FloatKind.f64 FloatKind.f32 (fop BinOp.mul FloatKind.f64 (fop BinOp.mul FloatKind.f64 (fop BinOp.sub FloatKind.f64 (fcvt FloatKind.f32 FloatKind.f64 x) (fofInt FloatKind.f64 (ftoInt FloatKind.f64 (fcvt FloatKind.f32 FloatKind.f64 x) IntKind.i64))) (can FloatKind.f64 4618760256179416344)) (sp (fop BinOp.mul FloatKind.f64 (fop BinOp.mul FloatKind.f64 (fop BinOp.sub FloatKind.f64 (fcvt FloatKind.f32 FloatKind.f64 x) (fofInt FloatKind.f64 (ftoInt FloatKind.f64 (fcvt FloatKind.f32 FloatKind.f64 x) IntKind.i64))) (can FloatKind.f64 4618760256179416344)) (fop BinOp.mul FloatKind.f64 (fop BinOp.sub FloatKind.f64 (fcvt FloatKind.f32 FloatKind.f64 x) (fofInt FloatKind.f64 (ftoInt FloatKind.f64 (fcvt FloatKind.f32 FloatKind.f64 x) IntKind.i64))) (can FloatKind.f64 4618760256179416344))) 8)) && true, A.flt FloatKind.f32 (bif !fin x then qnan FloatKind.f32 else bif forder FloatKind.f64 (absN (fcvt FloatKind.f32 FloatKind.f64 x)) (can FloatKind.f64 4841369599423283200) == some Ordering.gt || forder FloatKind.f64 (absN (fcvt FloatKind.f32 FloatKind.f64 x)) (can FloatKind.f64 4841369599423283200) == some Ordering.eq then can FloatKind.f32 0 else bif forder FloatKind.f64 (fop BinOp.sub FloatKind.f64 (fcvt FloatKind.f32 FloatKind.f64 x) (fofInt FloatKind.f64 (ftoInt FloatKind.f64 (fcvt FloatKind.f32 FloatKind.f64 x) IntKind.i64))) (can FloatKind.f64 0) == some Ordering.lt then bif forder FloatKind.f64 (fop BinOp.add FloatKind.f64 (fop BinOp.sub FloatKind.f64 (fcvt FloatKind.f32 FloatKind.f64 x) (fofInt FloatKind.f64 (ftoInt FloatKind.f64 (fcvt FloatKind.f32 FloatKind.f64 x) IntKind.i64))) (can FloatKind.f64 4607182418800017408)) (can FloatKind.f64 4602678819172646912) == some Ordering.gt || forder FloatKind.f64 (fop BinOp.add FloatKind.f64 (fop BinOp.sub FloatKind.f64 (fcvt FloatKind.f32 FloatKind.f64 x) (fofInt FloatKind.f64 (ftoInt FloatKind.f64 (fcvt FloatKind.f32 FloatKind.f64 x) IntKind.i64))) (can FloatKind.f64 4607182418800017408)) (can FloatKind.f64 4602678819172646912) == some Ordering.eq then bif forder FloatKind.f64 (fop BinOp.sub FloatKind.f64 (fop BinOp.add FloatKind.f64 (fop BinOp.sub FloatKind.f64 (fcvt FloatKind.f32 FloatKind.f64 x) (fofInt FloatKind.f64 (ftoInt FloatKind.f64 (fcvt FloatKind.f32 FloatKind.f64 x) IntKind.i64))) (can FloatKind.f64 4607182418800017408)) (can FloatKind.f64 4602678819172646912)) (can FloatKind.f64 4598175219545276416) == some Ordering.gt then bif forder FloatKind.f64 (fop BinOp.add FloatKind.f64 (fop BinOp.sub FloatKind.f64 (fcvt FloatKind.f32 FloatKind.f64 x) (fofInt FloatKind.f64 (ftoInt FloatKind.f64 (fcvt FloatKind.f32 FloatKind.f64 x) IntKind.i64))) (can FloatKind.f64 4607182418800017408)) (can FloatKind.f64 4602678819172646912) == some Ordering.gt || forder FloatKind.f64 (fop BinOp.add FloatKind.f64 (fop BinOp.sub FloatKind.f64 (fcvt FloatKind.f32 FloatKind.f64 x) (fofInt FloatKind.f64 (ftoInt FloatKind.f64 (fcvt FloatKind.f32 FloatKind.f64 x) IntKind.i64))) (can FloatKind.f64 4607182418800017408)) (can FloatKind.f64 4602678819172646912) == some Ordering.eq then fcvt FloatKind.f64 FloatKind.f32 (fneg FloatKind.f64 (fop BinOp.mul FloatKind.f64 (fop BinOp.mul FloatKind.f64 (fop BinOp.sub FloatKind.f64 (can FloatKind.f64 4602678819172646912) (fop BinOp.sub FloatKind.f64 (fop BinOp.add FloatKind.f64 (fop BinOp.sub FloatKind.f64 (fcvt FloatKind.f32 FloatKind.f64 x) (fofInt FloatKind.f64 (ftoInt FloatKind.f64 (fcvt FloatKind.f32 FloatKind.f64 x) IntKind.i64))) (can FloatKind.f64 4607182418800017408)) (can FloatKind.f64 4602678819172646912))) (can FloatKind.f64 4618760256179416344)) (sp (fop BinOp.mul FloatKind.f64 (fop BinOp.mul FloatKind.f64 (fop BinOp.sub FloatKind.f64 (can FloatKind.f64 4602678819172646912) (fop BinOp.sub FloatKind.f64 (fop BinOp.add FloatKind.f64 (fop BinOp.sub FloatKind.f64 (fcvt FloatKind.f32 FloatKind.f64 x) (fofInt FloatKind.f64 (ftoInt FloatKind.f64 (fcvt FloatKind.f32 FloatKind.f64 x) IntKind.i64))) (can FloatKind.f64 4607182418800017408)) (can FloatKind.f64 4602678819172646912))) (can FloatKind.f64 4618760256179416344)) (fop BinOp.mul FloatKind.f64 (fop BinOp.sub FloatKind.f64 (can FloatKind.f64 4602678819172646912) (fop BinOp.sub FloatKind.f64 (fop BinOp.add FloatKind.f64 (fop BinOp.sub FloatKind.f64 (fcvt FloatKind.f32 FloatKind.f64 x) (fofInt FloatKind.f64 (ftoInt FloatKind.f64 (fcvt FloatKind.f32 FloatKind.f64 x) IntKind.i64))) (can FloatKind.f64 4607182418800017408)) (can FloatKind.f64 4602678819172646912))) (can FloatKind.f64 4618760256179416344))) 8))) else fcvt FloatKind.f64 FloatKind.f32 (fop BinOp.mul FloatKind.f64 (fop BinOp.mul FloatKind.f64 (fop BinOp.sub FloatKind.f64 (can FloatKind.f64 4602678819172646912) (fop BinOp.sub FloatKind.f64 (fop BinOp.add FloatKind.f64 (fop BinOp.sub FloatKind.f64 (fcvt FloatKind.f32 FloatKind.f64 x) (fofInt FloatKind.f64 (ftoInt FloatKind.f64 (fcvt FloatKind.f32 FloatKind.f64 x) IntKind.i64))) (can FloatKind.f64 4607182418800017408)) (can FloatKind.f64 4602678819172646912))) (can FloatKind.f64 4618760256179416344)) (sp (fop BinOp.mul FloatKind.f64 (fop BinOp.mul FloatKind.f64 (fop BinOp.sub FloatKind.f64 (can FloatKind.f64 4602678819172646912) (fop BinOp.sub FloatKind.f64 (fop BinOp.add FloatKind.f64 (fop BinOp.sub FloatKind.f64 (fcvt FloatKind.f32 FloatKind.f64 x) (fofInt FloatKind.f64 (ftoInt FloatKind.f64 (fcvt FloatKind.f32 FloatKind.f64 x) IntKind.i64))) (can FloatKind.f64 4607182418800017408)) (can FloatKind.f64 4602678819172646912))) (can FloatKind.f64 4618760256179416344)) (fop BinOp.mul FloatKind.f64 (fop BinOp.sub FloatKind.f64 (can FloatKind.f64 4602678819172646912) (fop BinOp.sub FloatKind.f64 (fop BinOp.add FloatKind.f64 (fop BinOp.sub FloatKind.f64 (fcvt FloatKind.f32 FloatKind.f64 x) (fofInt FloatKind.f64 (ftoInt FloatKind.f64 (fcvt FloatKind.f32 FloatKind.f64 x) IntKind.i64))) (can FloatKind.f64 4607182418800017408)) (can FloatKind.f64 4602678819172646912))) (can FloatKind.f64 4618760256179416344))) 8)) else bif forder FloatKind.f64 (fop BinOp.add FloatKind.f64 (fop BinOp.sub FloatKind.f64 (fcvt FloatKind.f32 FloatKind.f64 x) (fofInt FloatKind.f64 (ftoInt FloatKind.f64 (fcvt FloatKind.f32 FloatKind.f64 x) IntKind.i64))) (can FloatKind.f64 4607182418800017408)) (can FloatKind.f64 4602678819172646912) == some Ordering.gt || forder FloatKind.f64 (fop BinOp.add FloatKind.f64 (fop BinOp.sub FloatKind.f64 (fcvt FloatKind.f32 FloatKind.f64 x) (fofInt FloatKind.f64 (ftoInt FloatKind.f64 (fcvt FloatKind.f32 FloatKind.f64 x) IntKind.i64))) (can FloatKind.f64 4607182418800017408)) (can FloatKind.f64 4602678819172646912) == some Ordering.eq then fcvt FloatKind.f64 FloatKind.f32 (fneg FloatKind.f64 (fop BinOp.mul FloatKind.f64 (fop BinOp.mul FloatKind.f64 (fop BinOp.sub FloatKind.f64 (fop BinOp.add FloatKind.f64 (fop BinOp.sub FloatKind.f64 (fcvt FloatKind.f32 FloatKind.f64 x) (fofInt FloatKind.f64 (ftoInt FloatKind.f64 (fcvt FloatKind.f32 FloatKind.f64 x) IntKind.i64))) (can FloatKind.f64 4607182418800017408)) (can FloatKind.f64 4602678819172646912)) (can FloatKind.f64 4618760256179416344)) (sp (fop BinOp.mul FloatKind.f64 (fop BinOp.mul FloatKind.f64 (fop BinOp.sub FloatKind.f64 (fop BinOp.add FloatKind.f64 (fop BinOp.sub FloatKind.f64 (fcvt FloatKind.f32 FloatKind.f64 x) (fofInt FloatKind.f64 (ftoInt FloatKind.f64 (fcvt FloatKind.f32 FloatKind.f64 x) IntKind.i64))) (can FloatKind.f64 4607182418800017408)) (can FloatKind.f64 4602678819172646912)) (can FloatKind.f64 4618760256179416344)) (fop BinOp.mul FloatKind.f64 (fop BinOp.sub FloatKind.f64 (fop BinOp.add FloatKind.f64 (fop BinOp.sub FloatKind.f64 (fcvt FloatKind.f32 FloatKind.f64 x) (fofInt FloatKind.f64 (ftoInt FloatKind.f64 (fcvt FloatKind.f32 FloatKind.f64 x) IntKind.i64))) (can FloatKind.f64 4607182418800017408)) (can FloatKind.f64 4602678819172646912)) (can FloatKind.f64 4618760256179416344))) 8))) else fcvt FloatKind.f64 FloatKind.f32 (fop BinOp.mul FloatKind.f64 (fop BinOp.mul FloatKind.f64 (fop BinOp.sub FloatKind.f64 (fop BinOp.add FloatKind.f64 (fop BinOp.sub FloatKind.f64 (fcvt FloatKind.f32 FloatKind.f64 x) (fofInt FloatKind.f64 (ftoInt FloatKind.f64 (fcvt FloatKind.f32 FloatKind.f64 x) IntKind.i64))) (can FloatKind.f64 4607182418800017408)) (can FloatKind.f64 4602678819172646912)) (can FloatKind.f64 4618760256179416344)) (sp (fop BinOp.mul FloatKind.f64 (fop BinOp.mul FloatKind.f64 (fop BinOp.sub FloatKind.f64 (fop BinOp.add FloatKind.f64 (fop BinOp.sub FloatKind.f64 (fcvt FloatKind.f32 FloatKind.f64 x) (fofInt FloatKind.f64 (ftoInt FloatKind.f64 (fcvt FloatKind.f32 FloatKind.f64 x) IntKind.i64))) (can FloatKind.f64 4607182418800017408)) (can FloatKind.f64 4602678819172646912)) (can FloatKind.f64 4618760256179416344)) (fop BinOp.mul FloatKind.f64 (fop BinOp.sub FloatKind.f64 (fop BinOp.add FloatKind.f64 (fop BinOp.sub FloatKind.f64 (fcvt FloatKind.f32 FloatKind.f64 x) (fofInt FloatKind.f64 (ftoInt FloatKind.f64 (fcvt FloatKind.f32 FloatKind.f64 x) IntKind.i64))) (can FloatKind.f64 4607182418800017408)) (can FloatKind.f64 4602678819172646912)) (can FloatKind.f64 4618760256179416344))) 8)) else bif forder FloatKind.f64 (fop BinOp.add FloatKind.f64 (fop BinOp.sub FloatKind.f64 (fcvt FloatKind.f32 FloatKind.f64 x) (fofInt FloatKind.f64 (ftoInt FloatKind.f64 (fcvt FloatKind.f32 FloatKind.f64 x) IntKind.i64))) (can FloatKind.f64 4607182418800017408)) (can FloatKind.f64 4598175219545276416) == some Ordering.gt then bif forder FloatKind.f64 (fop BinOp.add FloatKind.f64 (fop BinOp.sub FloatKind.f64 (fcvt FloatKind.f32 FloatKind.f64 x) (fofInt FloatKind.f64 (ftoInt FloatKind.f64 (fcvt FloatKind.f32 FloatKind.f64 x) IntKind.i64))) (can FloatKind.f64 4607182418800017408)) (can FloatKind.f64 4602678819172646912) == some Ordering.gt || forder FloatKind.f64 (fop BinOp.add FloatKind.f64 (fop BinOp.sub FloatKind.f64 (fcvt FloatKind.f32 FloatKind.f64 x) (fofInt FloatKind.f64 (ftoInt FloatKind.f64 (fcvt FloatKind.f32 FloatKind.f64 x) IntKind.i64))) (can FloatKind.f64 4607182418800017408)) (can FloatKind.f64 4602678819172646912) == some Ordering.eq then fcvt FloatKind.f64 FloatKind.f32 (fneg FloatKind.f64 (fop BinOp.mul FloatKind.f64 (fop BinOp.mul FloatKind.f64 (fop BinOp.sub FloatKind.f64 (can FloatKind.f64 4602678819172646912) (fop BinOp.add FloatKind.f64 (fop BinOp.sub FloatKind.f64 (fcvt FloatKind.f32 FloatKind.f64 x) (fofInt FloatKind.f64 (ftoInt FloatKind.f64 (fcvt FloatKind.f32 FloatKind.f64 x) IntKind.i64))) (can FloatKind.f64 4607182418800017408))) (can FloatKind.f64 4618760256179416344)) (sp (fop BinOp.mul FloatKind.f64 (fop BinOp.mul FloatKind.f64 (fop BinOp.sub FloatKind.f64 (can FloatKind.f64 4602678819172646912) (fop BinOp.add FloatKind.f64 (fop BinOp.sub FloatKind.f64 (fcvt FloatKind.f32 FloatKind.f64 x) (fofInt FloatKind.f64 (ftoInt FloatKind.f64 (fcvt FloatKind.f32 FloatKind.f64 x) IntKind.i64))) (can FloatKind.f64 4607182418800017408))) (can FloatKind.f64 4618760256179416344)) (fop BinOp.mul FloatKind.f64 (fop BinOp.sub FloatKind.f64 (can FloatKind.f64 4602678819172646912) (fop BinOp.add FloatKind.f64 (fop BinOp.sub FloatKind.f64 (fcvt FloatKind.f32 FloatKind.f64 x) (fofInt FloatKind.f64 (ftoInt FloatKind.f64 (fcvt FloatKind.f32 FloatKind.f64 x) IntKind.i64))) (can FloatKind.f64 4607182418800017408))) (can FloatKind.f64 4618760256179416344))) 8))) else fcvt FloatKind.f64 FloatKind.f32 (fop BinOp.mul FloatKind.f64 (fop BinOp.mul FloatKind.f64 (fop BinOp.sub FloatKind.f64 (can FloatKind.f64 4602678819172646912) (fop BinOp.add FloatKind.f64 (fop BinOp.sub FloatKind.f64 (fcvt FloatKind.f32 FloatKind.f64 x) (fofInt FloatKind.f64 (ftoInt FloatKind.f64 (fcvt FloatKind.f32 FloatKind.f64 x) IntKind.i64))) (can FloatKind.f64 4607182418800017408))) (can FloatKind.f64 4618760256179416344)) (sp (fop BinOp.mul FloatKind.f64 (fop BinOp.mul FloatKind.f64 (fop BinOp.sub FloatKind.f64 (can FloatKind.f64 4602678819172646912) (fop BinOp.add FloatKind.f64 (fop BinOp.sub FloatKind.f64 (fcvt FloatKind.f32 FloatKind.f64 x) (fofInt FloatKind.f64 (ftoInt FloatKind.f64 (fcvt FloatKind.f32 FloatKind.f64 x) IntKind.i64))) (can FloatKind.f64 4607182418800017408))) (can FloatKind.f64 4618760256179416344)) (fop BinOp.mul FloatKind.f64 (fop BinOp.sub FloatKind.f64 (can FloatKind.f64 4602678819172646912) (fop BinOp.add FloatKind.f64 (fop BinOp.sub FloatKind.f64 (fcvt FloatKind.f32 FloatKind.f64 x) (fofInt FloatKind.f64 (ftoInt FloatKind.f64 (fcvt FloatKind.f32 FloatKind.f64 x) IntKind.i64))) (can FloatKind.f64 4607182418800017408))) (can FloatKind.f64 4618760256179416344))) 8)) else bif forder FloatKind.f64 (fop BinOp.add FloatKind.f64 (fop BinOp.sub FloatKind.f64 (fcvt FloatKind.f32 FloatKind.f64 x) (fofInt FloatKind.f64 (ftoInt FloatKind.f64 (fcvt FloatKind.f32 FloatKind.f64 x) IntKind.i64))) (can FloatKind.f64 4607182418800017408)) (can FloatKind.f64 4602678819172646912) == some Ordering.gt || forder FloatKind.f64 (fop BinOp.add FloatKind.f64 (fop BinOp.sub FloatKind.f64 (fcvt FloatKind.f32 FloatKind.f64 x) (fofInt FloatKind.f64 (ftoInt FloatKind.f64 (fcvt FloatKind.f32 FloatKind.f64 x) IntKind.i64))) (can FloatKind.f64 4607182418800017408)) (can FloatKind.f64 4602678819172646912) == some Ordering.eq then fcvt FloatKind.f64 FloatKind.f32 (fneg FloatKind.f64 (fop BinOp.mul FloatKind.f64 (fop BinOp.mul FloatKind.f64 (fop BinOp.add FloatKind.f64 (fop BinOp.sub FloatKind.f64 (fcvt FloatKind.f32 FloatKind.f64 x) (fofInt FloatKind.f64 (ftoInt FloatKind.f64 (fcvt FloatKind.f32 FloatKind.f64 x) IntKind.i64))) (can FloatKind.f64 4607182418800017408)) (can FloatKind.f64 4618760256179416344)) (sp (fop BinOp.mul FloatKind.f64 (fop BinOp.mul FloatKind.f64 (fop BinOp.add FloatKind.f64 (fop BinOp.sub FloatKind.f64 (fcvt FloatKind.f32 FloatKind.f64 x) (fofInt FloatKind.f64 (ftoInt FloatKind.f64 (fcvt FloatKind.f32 FloatKind.f64 x) IntKind.i64))) (can FloatKind.f64 4607182418800017408)) (can FloatKind.f64 4618760256179416344)) (fop BinOp.mul FloatKind.f64 (fop BinOp.add FloatKind.f64 (fop BinOp.sub FloatKind.f64 (fcvt FloatKind.f32 FloatKind.f64 x) (fofInt FloatKind.f64 (ftoInt FloatKind.f64 (fcvt FloatKind.f32 FloatKind.f64 x) IntKind.i64))) (can FloatKind.f64 4607182418800017408)) (can FloatKind.f64 4618760256179416344))) 8))) else fcvt FloatKind.f64 FloatKind.f32 (fop BinOp.mul FloatKind.f64 (fop BinOp.mul FloatKind.f64 (fop BinOp.add FloatKind.f64 (fop BinOp.sub FloatKind.f64 (fcvt FloatKind.f32 FloatKind.f64 x) (fofInt FloatKind.f64 (ftoInt FloatKind.f64 (fcvt FloatKind.f32 FloatKind.f64 x) IntKind.i64))) (can FloatKind.f64 4607182418800017408)) (can FloatKind.f64 4618760256179416344)) (sp (fop BinOp.mul FloatKind.f64 (fop BinOp.mul FloatKind.f64 (fop BinOp.add FloatKind.f64 (fop BinOp.sub FloatKind.f64 (fcvt FloatKind.f32 FloatKind.f64 x) (fofInt FloatKind.f64 (ftoInt FloatKind.f64 (fcvt FloatKind.f32 FloatKind.f64 x) IntKind.i64))) (can FloatKind.f64 4607182418800017408)) (can FloatKind.f64 4618760256179416344)) (fop BinOp.mul FloatKind.f64 (fop BinOp.add FloatKind.f64 (fop BinOp.sub FloatKind.f64 (fcvt FloatKind.f32 FloatKind.f64 x) (fofInt FloatKind.f64 (ftoInt FloatKind.f64 (fcvt FloatKind.f32 FloatKind.f64 x) IntKind.i64))) (can FloatKind.f64 4607182418800017408)) (can FloatKind.f64 4618760256179416344))) 8)) else bif forder FloatKind.f64 (fop BinOp.sub FloatKind.f64 (fcvt FloatKind.f32 FloatKind.f64 x) (fofInt FloatKind.f64 (ftoInt FloatKind.f64 (fcvt FloatKind.f32 FloatKind.f64 x) IntKind.i64))) (can FloatKind.f64 4602678819172646912) == some Ordering.gt || forder FloatKind.f64 (fop BinOp.sub FloatKind.f64 (fcvt FloatKind.f32 FloatKind.f64 x) (fofInt FloatKind.f64 (ftoInt FloatKind.f64 (fcvt FloatKind.f32 FloatKind.f64 x) IntKind.i64))) (can FloatKind.f64 4602678819172646912) == some Ordering.eq then bif forder FloatKind.f64 (fop BinOp.sub FloatKind.f64 (fop BinOp.sub FloatKind.f64 (fcvt FloatKind.f32 FloatKind.f64 x) (fofInt FloatKind.f64 (ftoInt FloatKind.f64 (fcvt FloatKind.f32 FloatKind.f64 x) IntKind.i64))) (can FloatKind.f64 4602678819172646912)) (can FloatKind.f64 4598175219545276416) == some Ordering.gt then bif forder FloatKind.f64 (fop BinOp.sub FloatKind.f64 (fcvt FloatKind.f32 FloatKind.f64 x) (fofInt FloatKind.f64 (ftoInt FloatKind.f64 (fcvt FloatKind.f32 FloatKind.f64 x) IntKind.i64))) (can FloatKind.f64 4602678819172646912) == some Ordering.gt || forder FloatKind.f64 (fop BinOp.sub FloatKind.f64 (fcvt FloatKind.f32 FloatKind.f64 x) (fofInt FloatKind.f64 (ftoInt FloatKind.f64 (fcvt FloatKind.f32 FloatKind.f64 x) IntKind.i64))) (can FloatKind.f64 4602678819172646912) == some Ordering.eq then fcvt FloatKind.f64 FloatKind.f32 (fneg FloatKind.f64 (fop BinOp.mul FloatKind.f64 (fop BinOp.mul FloatKind.f64 (fop BinOp.sub FloatKind.f64 (can FloatKind.f64 4602678819172646912) (fop BinOp.sub FloatKind.f64 (fop BinOp.sub FloatKind.f64 (fcvt FloatKind.f32 FloatKind.f64 x) (fofInt FloatKind.f64 (ftoInt FloatKind.f64 (fcvt FloatKind.f32 FloatKind.f64 x) IntKind.i64))) (can FloatKind.f64 4602678819172646912))) (can FloatKind.f64 4618760256179416344)) (sp (fop BinOp.mul FloatKind.f64 (fop BinOp.mul FloatKind.f64 (fop BinOp.sub FloatKind.f64 (can FloatKind.f64 4602678819172646912) (fop BinOp.sub FloatKind.f64 (fop BinOp.sub FloatKind.f64 (fcvt FloatKind.f32 FloatKind.f64 x) (fofInt FloatKind.f64 (ftoInt FloatKind.f64 (fcvt FloatKind.f32 FloatKind.f64 x) IntKind.i64))) (can FloatKind.f64 4602678819172646912))) (can FloatKind.f64 4618760256179416344)) (fop BinOp.mul FloatKind.f64 (fop BinOp.sub FloatKind.f64 (can FloatKind.f64 4602678819172646912) (fop BinOp.sub FloatKind.f64 (fop BinOp.sub FloatKind.f64 (fcvt FloatKind.f32 FloatKind.f64 x) (fofInt FloatKind.f64 (ftoInt FloatKind.f64 (fcvt FloatKind.f32 FloatKind.f64 x) IntKind.i64))) (can FloatKind.f64 4602678819172646912))) (can FloatKind.f64 4618760256179416344))) 8))) else fcvt FloatKind.f64 FloatKind.f32 (fop BinOp.mul FloatKind.f64 (fop BinOp.mul FloatKind.f64 (fop BinOp.sub FloatKind.f64 (can FloatKind.f64 4602678819172646912) (fop BinOp.sub FloatKind.f64 (fop BinOp.sub FloatKind.f64 (fcvt FloatKind.f32 FloatKind.f64 x) (fofInt FloatKind.f64 (ftoInt FloatKind.f64 (fcvt FloatKind.f32 FloatKind.f64 x) IntKind.i64))) (can FloatKind.f64 4602678819172646912))) (can FloatKind.f64 4618760256179416344)) (sp (fop BinOp.mul FloatKind.f64 (fop BinOp.mul FloatKind.f64 (fop BinOp.sub FloatKind.f64 (can FloatKind.f64 4602678819172646912) (fop BinOp.sub FloatKind.f64 (fop BinOp.sub FloatKind.f64 (fcvt FloatKind.f32 FloatKind.f64 x) (fofInt FloatKind.f64 (ftoInt FloatKind.f64 (fcvt FloatKind.f32 FloatKind.f64 x) IntKind.i64))) (can FloatKind.f64 4602678819172646912))) (can FloatKind.f64 4618760256179416344)) (fop BinOp.mul FloatKind.f64 (fop BinOp.sub FloatKind.f64 (can FloatKind.f64 4602678819172646912) (fop BinOp.sub FloatKind.f64 (fop BinOp.sub FloatKind.f64 (fcvt FloatKind.f32 FloatKind.f64 x) (fofInt FloatKind.f64 (ftoInt FloatKind.f64 (fcvt FloatKind.f32 FloatKind.f64 x) IntKind.i64))) (can FloatKind.f64 4602678819172646912))) (can FloatKind.f64 4618760256179416344))) 8)) else bif forder FloatKind.f64 (fop BinOp.sub FloatKind.f64 (fcvt FloatKind.f32 FloatKind.f64 x) (fofInt FloatKind.f64 (ftoInt FloatKind.f64 (fcvt FloatKind.f32 FloatKind.f64 x) IntKind.i64))) (can FloatKind.f64 4602678819172646912) == some Ordering.gt || forder FloatKind.f64 (fop BinOp.sub FloatKind.f64 (fcvt FloatKind.f32 FloatKind.f64 x) (fofInt FloatKind.f64 (ftoInt FloatKind.f64 (fcvt FloatKind.f32 FloatKind.f64 x) IntKind.i64))) (can FloatKind.f64 4602678819172646912) == some Ordering.eq then fcvt FloatKind.f64 FloatKind.f32 (fneg FloatKind.f64 (fop BinOp.mul FloatKind.f64 (fop BinOp.mul FloatKind.f64 (fop BinOp.sub FloatKind.f64 (fop BinOp.sub FloatKind.f64 (fcvt FloatKind.f32 FloatKind.f64 x) (fofInt FloatKind.f64 (ftoInt FloatKind.f64 (fcvt FloatKind.f32 FloatKind.f64 x) IntKind.i64))) (can FloatKind.f64 4602678819172646912)) (can FloatKind.f64 4618760256179416344)) (sp (fop BinOp.mul FloatKind.f64 (fop BinOp.mul FloatKind.f64 (fop BinOp.sub FloatKind.f64 (fop BinOp.sub FloatKind.f64 (fcvt FloatKind.f32 FloatKind.f64 x) (fofInt FloatKind.f64 (ftoInt FloatKind.f64 (fcvt FloatKind.f32 FloatKind.f64 x) IntKind.i64))) (can FloatKind.f64 4602678819172646912)) (can FloatKind.f64 4618760256179416344)) (fop BinOp.mul FloatKind.f64 (fop BinOp.sub FloatKind.f64 (fop BinOp.sub FloatKind.f64 (fcvt FloatKind.f32 FloatKind.f64 x) (fofInt FloatKind.f64 (ftoInt FloatKind.f64 (fcvt FloatKind.f32 FloatKind.f64 x) IntKind.i64))) (can FloatKind.f64 4602678819172646912)) (can FloatKind.f64 4618760256179416344))) 8))) else fcvt FloatKind.f64 FloatKind.f32 (fop BinOp.mul FloatKind.f64 (fop BinOp.mul FloatKind.f64 (fop BinOp.sub FloatKind.f64 (fop BinOp.sub FloatKind.f64 (fcvt FloatKind.f32 FloatKind.f64 x) (fofInt FloatKind.f64 (ftoInt FloatKind.f64 (fcvt FloatKind.f32 FloatKind.f64 x) IntKind.i64))) (can FloatKind.f64 4602678819172646912)) (can FloatKind.f64 4618760256179416344)) (sp (fop BinOp.mul FloatKind.f64 (fop BinOp.mul FloatKind.f64 (fop BinOp.sub FloatKind.f64 (fop BinOp.sub FloatKind.f64 (fcvt FloatKind.f32 FloatKind.f64 x) (fofInt FloatKind.f64 (ftoInt FloatKind.f64 (fcvt FloatKind.f32 FloatKind.f64 x) IntKind.i64))) (can FloatKind.f64 4602678819172646912)) (can FloatKind.f64 4618760256179416344)) (fop BinOp.mul FloatKind.f64 (fop BinOp.sub FloatKind.f64 (fop BinOp.sub FloatKind.f64 (fcvt FloatKind.f32 FloatKind.f64 x) (fofInt FloatKind.f64 (ftoInt FloatKind.f64 (fcvt FloatKind.f32 FloatKind.f64 x) IntKind.i64))) (can FloatKind.f64 4602678819172646912)) (can FloatKind.f64 4618760256179416344))) 8)) else bif forder FloatKind.f64 (fop BinOp.sub FloatKind.f64 (fcvt FloatKind.f32 FloatKind.f64 x) (fofInt FloatKind.f64 (ftoInt FloatKind.f64 (fcvt FloatKind.f32 FloatKind.f64 x) IntKind.i64))) (can FloatKind.f64 4598175219545276416) == some Ordering.gt then bif forder FloatKind.f64 (fop BinOp.sub FloatKind.f64 (fcvt FloatKind.f32 FloatKind.f64 x) (fofInt FloatKind.f64 (ftoInt FloatKind.f64 (fcvt FloatKind.f32 FloatKind.f64 x) IntKind.i64))) (can FloatKind.f64 4602678819172646912) == some Ordering.gt || forder FloatKind.f64 (fop BinOp.sub FloatKind.f64 (fcvt FloatKind.f32 FloatKind.f64 x) (fofInt FloatKind.f64 (ftoInt FloatKind.f64 (fcvt FloatKind.f32 FloatKind.f64 x) IntKind.i64))) (can FloatKind.f64 4602678819172646912) == some Ordering.eq then fcvt FloatKind.f64 FloatKind.f32 (fneg FloatKind.f64 (fop BinOp.mul FloatKind.f64 (fop BinOp.mul FloatKind.f64 (fop BinOp.sub FloatKind.f64 (can FloatKind.f64 4602678819172646912) (fop BinOp.sub FloatKind.f64 (fcvt FloatKind.f32 FloatKind.f64 x) (fofInt FloatKind.f64 (ftoInt FloatKind.f64 (fcvt FloatKind.f32 FloatKind.f64 x) IntKind.i64)))) (can FloatKind.f64 4618760256179416344)) (sp (fop BinOp.mul FloatKind.f64 (fop BinOp.mul FloatKind.f64 (fop BinOp.sub FloatKind.f64 (can FloatKind.f64 4602678819172646912) (fop BinOp.sub FloatKind.f64 (fcvt FloatKind.f32 FloatKind.f64 x) (fofInt FloatKind.f64 (ftoInt FloatKind.f64 (fcvt FloatKind.f32 FloatKind.f64 x) IntKind.i64)))) (can FloatKind.f64 4618760256179416344)) (fop BinOp.mul FloatKind.f64 (fop BinOp.sub FloatKind.f64 (can FloatKind.f64 4602678819172646912) (fop BinOp.sub FloatKind.f64 (fcvt FloatKind.f32 FloatKind.f64 x) (fofInt FloatKind.f64 (ftoInt FloatKind.f64 (fcvt FloatKind.f32 FloatKind.f64 x) IntKind.i64)))) (can FloatKind.f64 4618760256179416344))) 8))) else fcvt FloatKind.f64 FloatKind.f32 (fop BinOp.mul FloatKind.f64 (fop BinOp.mul FloatKind.f64 (fop BinOp.sub FloatKind.f64 (can FloatKind.f64 4602678819172646912) (fop BinOp.sub FloatKind.f64 (fcvt FloatKind.f32 FloatKind.f64 x) (fofInt FloatKind.f64 (ftoInt FloatKind.f64 (fcvt FloatKind.f32 FloatKind.f64 x) IntKind.i64)))) (can FloatKind.f64 4618760256179416344)) (sp (fop BinOp.mul FloatKind.f64 (fop BinOp.mul FloatKind.f64 (fop BinOp.sub FloatKind.f64 (can FloatKind.f64 4602678819172646912) (fop BinOp.sub FloatKind.f64 (fcvt FloatKind.f32 FloatKind.f64 x) (fofInt FloatKind.f64 (ftoInt FloatKind.f64 (fcvt FloatKind.f32 FloatKind.f64 x) IntKind.i64)))) (can FloatKind.f64 4618760256179416344)) (fop BinOp.mul FloatKind.f64 (fop BinOp.sub FloatKind.f64 (can FloatKind.f64 4602678819172646912) (fop BinOp.sub FloatKind.f64 (fcvt FloatKind.f32 FloatKind.f64 x) (fofInt FloatKind.f64 (ftoInt FloatKind.f64 (fcvt FloatKind.f32 FloatKind.f64 x) IntKind.i64)))) (can FloatKind.f64 4618760256179416344))) 8)) else bif forder FloatKind.f64 (fop BinOp.sub FloatKind.f64 (fcvt FloatKind.f32 FloatKind.f64 x) (fofInt FloatKind.f64 (ftoInt FloatKind.f64 (fcvt FloatKind.f32 FloatKind.f64 x) IntKind.i64))) (can FloatKind.f64 4602678819172646912) == some Ordering.gt || forder FloatKind.f64 (fop BinOp.sub FloatKind.f64 (fcvt FloatKind.f32 FloatKind.f64 x) (fofInt FloatKind.f64 (ftoInt FloatKind.f64 (fcvt FloatKind.f32 FloatKind.f64 x) IntKind.i64))) (can FloatKind.f64 4602678819172646912) == some Ordering.eq then fcvt FloatKind.f64 FloatKind.f32 (fneg FloatKind.f64 (fop BinOp.mul FloatKind.f64 (fop BinOp.mul FloatKind.f64 (fop BinOp.sub FloatKind.f64 (fcvt FloatKind.f32 FloatKind.f64 x) (fofInt FloatKind.f64 (ftoInt FloatKind.f64 (fcvt FloatKind.f32 FloatKind.f64 x) IntKind.i64))) (can FloatKind.f64 4618760256179416344)) (sp (fop BinOp.mul FloatKind.f64 (fop BinOp.mul FloatKind.f64 (fop BinOp.sub FloatKind.f64 (fcvt FloatKind.f32 FloatKind.f64 x) (fofInt FloatKind.f64 (ftoInt FloatKind.f64 (fcvt FloatKind.f32 FloatKind.f64 x) IntKind.i64))) (can FloatKind.f64 4618760256179416344)) (fop BinOp.mul FloatKind.f64 (fop BinOp.sub FloatKind.f64 (fcvt FloatKind.f32 FloatKind.f64 x) (fofInt FloatKind.f64 (ftoInt FloatKind.f64 (fcvt FloatKind.f32 FloatKind.f64 x) IntKind.i64))) (can FloatKind.f64 4618760256179416344))) 8))) else fcvt FloatKind.f64 FloatKind.f32 (fop BinOp.mul FloatKind.f64 (fop BinOp.mul FloatKind.f64 (fop BinOp.sub FloatKind.f64 (fcvt FloatKind.f32 FloatKind.f64 x) (fofInt FloatKind.f64 (ftoInt FloatKind.f64 (fcvt FloatKind.f32 FloatKind.f64 x) IntKind.i64))) (can FloatKind.f64 4618760256179416344)) (sp (fop BinOp.mul FloatKind.f64 (fop BinOp.mul FloatKind.f64 (fop BinOp.sub FloatKind.f64 (fcvt FloatKind.f32 FloatKind.f64 x) (fofInt FloatKind.f64 (ftoInt FloatKind.f64 (fcvt FloatKind.f32 FloatKind.f64 x) IntKind.i64))) (can FloatKind.f64 4618760256179416344)) (fop BinOp.mul FloatKind.f64 (fop BinOp.sub FloatKind.f64 (fcvt FloatKind.f32 FloatKind.f64 x) (fofInt FloatKind.f64 (ftoInt FloatKind.f64 (fcvt FloatKind.f32 FloatKind.f64 x) IntKind.i64))) (can FloatKind.f64 4618760256179416344))) 8)))) := by kernel_rfl
noncomputable def s80 : List A → Option (Bool × A)
  | [.flt .f32 x] => some (true, .flt .f32 (fcvt .f64 .f32 (sineW (fcvt .f32 .f64 x))))
  | _ => none
theorem s80_at : EnvAt Try.prog 74 s80 := of_auto cfg31_ok lp80_ok Try.func74 (by kernel_rfl) (by kernel_rfl) fun ds cc rr h hc => by
  unfold s80 at h
  split at h
  · rename_i x
    simp only [Option.some.injEq, Prod.mk.injEq] at h
    obtain ⟨rfl, rfl⟩ := h
    refine auto_fit (auto80 x) ?_ ?_
    · show A.flt .f32 (bif !fin x then qnan .f32 else bif geF (absN (fcvt .f32 .f64 x)) c52 then can .f32 0 else treeS (fun g i => bif geF g (can .f64 4602678819172646912) then fcvt .f64 .f32 (fneg .f64 (sineP (fop .mul .f64 i (can .f64 4618760256179416344)))) else fcvt .f64 .f32 (sineP (fop .mul .f64 i (can .f64 4618760256179416344)))) (fracF (fcvt .f32 .f64 x))) = _
      rw [treeS_eq, fin_num, ← num_cvt]
      unfold sineW
      generalize fcvt .f32 .f64 x = y
      cases hn : num .f64 y
      · show A.flt .f32 (qnan .f32) = A.flt .f32 (fcvt .f64 .f32 (qnan .f64))
        rw [show fcvt .f64 .f32 (qnan .f64) = qnan .f32 by decide +kernel]
      · rw [big_absN hn]
        cases bigF y
        · show A.flt .f32 (bif geF (sineF1 (fracF y)) (can .f64 4602678819172646912) then _ else _) = A.flt .f32 (fcvt .f64 .f32 (bif geF (sineF1 (fracF y)) (can .f64 4602678819172646912) then _ else _))
          cases geF (sineF1 (fracF y)) (can .f64 4602678819172646912) <;> rfl
        · show A.flt .f32 (can .f32 0) = A.flt .f32 (fcvt .f64 .f32 (can .f64 0))
          rw [show fcvt .f64 .f32 (can .f64 0) = can .f32 0 by decide +kernel]
    · show (bif !fin x then true else !isNaN .f64 (fcvt .f32 .f64 x) && bif geF (absN (fcvt .f32 .f64 x)) c52 then true else ftoIntOk .f64 (fcvt .f32 .f64 x) .i64 && treeS (fun g i => Nat.beq (can .f64 4607182418800017408) (sp (fop .mul .f64 (fop .mul .f64 i (can .f64 4618760256179416344)) (fop .mul .f64 i (can .f64 4618760256179416344))) 0) && Nat.beq (can .f64 4620693217682128896) (kF 0) && bif geF g (can .f64 4602678819172646912) then fcvtOk .f64 .f32 (fneg .f64 (sineP (fop .mul .f64 i (can .f64 4618760256179416344)))) && true else fcvtOk .f64 .f32 (sineP (fop .mul .f64 i (can .f64 4618760256179416344))) && true) (fracF (fcvt .f32 .f64 x))) = true
      rw [treeS_eq, fin_num, ← num_cvt]
      generalize fcvt .f32 .f64 x = y
      cases hn : num .f64 y
      · rfl
      · rw [big_absN hn, num_nan hn]
        cases hb : bigF y
        · have hz : Le .f64 6 (fop .mul .f64 (sineF3 (sineF2 (sineF1 (fracF y)))) (can .f64 4618760256179416344)) := le_mul (le_sineF (frac_ok hn hb).2) le_ctau (by decide) (by decide)
          have p1 := cvt_down (le_sineP hz) (by decide) (by decide)
          have p2 := cvt_down (le_neg (le_sineP hz)) (by decide) (by decide)
          have p3 : Nat.beq (can .f64 4620693217682128896) (kF 0) = true := by decide +kernel
          rw [(frac_ok hn hb).1, p1, p2, p3]
          show (Nat.beq (can .f64 4607182418800017408) (can .f64 4607182418800017408) && true && _) = true
          rw [Nat.beq_refl, Bool.cond_self]; rfl
        · rfl
  · cases h

noncomputable def env32 : List (Nat × (List A → Option (Bool × A))) := (74, s80) :: env31
theorem env32_ok : EnvOK Try.prog (look env32) := (env_cons s80_at env31_ok)
noncomputable def cfg32 : Cfg := mkCfg tab [] xts (look env32)
theorem cfg32_ok : CfgOK Try.prog cfg32 := cfg_ok tab_eq (no_fts _) xts_ok env32_ok mixed
noncomputable def s93 : List A → Option (Bool × A)
  | [.flt .f32 x] => some (true, .flt .f32 (fcvt .f64 .f32 (sineW (fcvt .f32 .f64 x))))
  | _ => none
noncomputable def env33 : List (Nat × (List A → Option (Bool × A))) := env32
theorem env33_ok : EnvOK Try.prog (look env33) := env32_ok
noncomputable def cfg33 : Cfg := mkCfg tab [] xts (look env33)
theorem cfg33_ok : CfgOK Try.prog cfg33 := cfg_ok tab_eq (no_fts _) xts_ok env33_ok mixed
end Go.Fw.E1

/-
  Points of a ring: the loops.
-/
namespace Go.Fw.E1
open Go.Proofs
noncomputable def sine32 (x : Nat) : Nat := fcvt .f64 .f32 (sineW (fcvt .f32 .f64 x))
def ringQ (n : Int) (i : Nat) : Nat := fop .quo .f32 (fofInt .f32 (Int.ofNat i)) (fofInt .f32 n)
noncomputable def ringX (n : Int) (r i : Nat) : Nat := fop .mul .f32 r (fcvt .f64 .f32 (sineW (fcvt .f32 .f64 (fop .add .f32 (ringQ n i) (can .f32 1048576000)))))
noncomputable def ringY (n : Int) (r i : Nat) : Nat := fop .mul .f32 r (fcvt .f64 .f32 (sineW (fcvt .f32 .f64 (ringQ n i))))
theorem lt_int {k : Nat} {n : Int} (h : k < n.toNat) : decide (Int.ofNat k < n) = true := by simp; omega
theorem ge_int {k : Nat} {n : Int} (h : ¬ k < n.toNat) : decide (Int.ofNat k < n) = false := by simp; omega
theorem app3 {k j p : Nat} {u : Nat → Nat} {x : List Nat} (hx : x.getD j 0 = u k) (hp : p < k + 1) : (match decide (p < k) with | true => u p | false => ([x].getD (p - k) []).getD j 0) = u p := by
  by_cases h : p < k
  · rw [decide_eq_true h]
  · rw [decide_eq_false h]
    obtain rfl : p = k := by omega
    rw [Nat.sub_self]; exact hx
noncomputable def s74 : List A → Option (Bool × A)
  | [.flt .f32 q, .flt .f32 r, .flt .f32 z] => some (true, .agg [.flt .f32 (fop .mul .f32 r (fcvt .f64 .f32 (sineW (fcvt .f32 .f64 (fop .add .f32 q (can .f32 1048576000)))))), .flt .f32 (fop .mul .f32 r (fcvt .f64 .f32 (sineW (fcvt .f32 .f64 q)))), .flt .f32 z])
  | _ => none
noncomputable def env34 : List (Nat × (List A → Option (Bool × A))) := env33
theorem env34_ok : EnvOK Try.prog (look env34) := env33_ok
noncomputable def cfg34 : Cfg := mkCfg tab [] xts (look env34)
theorem cfg34_ok : CfgOK Try.prog cfg34 := cfg_ok tab_eq (no_fts _) xts_ok env34_ok mixed
noncomputable def cfgD : Cfg := mkCfg (nilTab tab) [] xts (look env34)
theorem cfgD_ok : CfgOK Try.prog cfgD := cfgN_ok' tab_eq (no_fts _) xts_ok env34_ok mixed
noncomputable def I84 (n : Int) (r h c : Nat) (k : Nat) : List A := [.int .i64 n, .flt .f32 r, .flt .f32 h, .int .i64 (Int.ofNat k), .ptr 64 0, .ptr 0 0]
noncomputable def J84 (n : Int) (r h c : Nat) (k : Nat) : List O := [.var [.sl 16 k, .bool true, .flt .f32 c], .row 30 3 k (.vecs .f32 (ringX n r) (ringY n r) (fun _ => h)), .var [.emp, .bool false, .flt .f32 0]]
noncomputable def F84 : List A → List (Option O) → Option R3
  | [.int .i64 n, .flt .f32 r, .flt .f32 h, .int .i64 0, .ptr 64 0, .ptr 0 0], [some (.var [.sl 16 0, .bool true, .flt .f32 c]), some (.row 30 3 0 g), some (.var [.emp, .bool false, .flt .f32 0])] => some (.ite (decide (n ≤ 1000)) (.leaf .normal (I84 n r h c (n.toNat)) (J84 n r h c (n.toNat))) .fail)
  | _, _ => none
noncomputable def I31 (n : Int) (r h c : Nat) (k : Nat) : List A := [.int .i64 n, .int .i64 n, .flt .f32 r, .flt .f32 h, .int .i64 (Int.ofNat k), .ptr 272 0, .ptr 0 0, .bool false]
noncomputable def J31 (n : Int) (r h c : Nat) (k : Nat) : List O := [.var [.sl 336 k, .bool true, .flt .f32 c], .row 30 3 k (.vecs .f32 (ringX n r) (ringY n r) (fun _ => h)), .var [.nils, .bool false, .flt .f32 0]]
theorem round31 (n : Int) (r h c : Nat) (k : Nat) (L : XK → List A → List (Option O) → Prop) :
    ((exec cfgD (fun _ => true) (fun _ => none) 0 1000 (loopOf Try.f20 0) (litSt Try.f20.ntmps 352 [29, 0, 1, 2, 30, 10, 8, 9] [272, 336, 0] (I31 n r h c k) (J31 n r h c k))).rt [29, 0, 1, 2, 30, 10, 8, 9] [272, 336, 0]).Ok L =
    bif decide (Int.ofNat k < n) then
      bif decide (k + 1 ≤ 1073741824) then
        L (XK.normal) ([A.int IntKind.i64 n, A.int IntKind.i64 n, A.flt FloatKind.f32 r, A.flt FloatKind.f32 h, A.int IntKind.i64 (IntKind.i64.wrap (Int.ofNat k + Int.ofNat 1)), A.ptr 272 0, A.ptr 0 0, A.bool false]) ([some (O.var [A.sl 336 (k + 1), A.bool true, A.flt FloatKind.f32 c]),   some     (O.row 30 3 (k + 1)       (Row.vecs FloatKind.f32         (fun j =>           match decide (j < k) with           | true => ringX n r j           | false => ([[fop BinOp.mul FloatKind.f32 r (fcvt FloatKind.f64 FloatKind.f32 (sineW (fcvt FloatKind.f32 FloatKind.f64 (fop BinOp.add FloatKind.f32 (fop BinOp.quo FloatKind.f32 (fofInt FloatKind.f32 (Int.ofNat k)) (fofInt FloatKind.f32 n)) (can FloatKind.f32 1048576000))))), fop BinOp.mul FloatKind.f32 r (fcvt FloatKind.f64 FloatKind.f32 (sineW (fcvt FloatKind.f32 FloatKind.f64 (fop BinOp.quo FloatKind.f32 (fofInt FloatKind.f32 (Int.ofNat k)) (fofInt FloatKind.f32 n))))), h]].getD (j - k) []).getD 0 0)         (fun j =>           match decide (j < k) with           | true => ringY n r j           | false => ([[fop BinOp.mul FloatKind.f32 r (fcvt FloatKind.f64 FloatKind.f32 (sineW (fcvt FloatKind.f32 FloatKind.f64 (fop BinOp.add FloatKind.f32 (fop BinOp.quo FloatKind.f32 (fofInt FloatKind.f32 (Int.ofNat k)) (fofInt FloatKind.f32 n)) (can FloatKind.f32 1048576000))))), fop BinOp.mul FloatKind.f32 r (fcvt FloatKind.f64 FloatKind.f32 (sineW (fcvt FloatKind.f32 FloatKind.f64 (fop BinOp.quo FloatKind.f32 (fofInt FloatKind.f32 (Int.ofNat k)) (fofInt FloatKind.f32 n))))), h]].getD (j - k) []).getD 1 0)         fun j =>         match decide (j < k) with         | true => h         | false => ([[fop BinOp.mul FloatKind.f32 r (fcvt FloatKind.f64 FloatKind.f32 (sineW (fcvt FloatKind.f32 FloatKind.f64 (fop BinOp.add FloatKind.f32 (fop BinOp.quo FloatKind.f32 (fofInt FloatKind.f32 (Int.ofNat k)) (fofInt FloatKind.f32 n)) (can FloatKind.f32 1048576000))))), fop BinOp.mul FloatKind.f32 r (fcvt FloatKind.f64 FloatKind.f32 (sineW (fcvt FloatKind.f32 FloatKind.f64 (fop BinOp.quo FloatKind.f32 (fofInt FloatKind.f32 (Int.ofNat k)) (fofInt FloatKind.f32 n))))), h]].getD (j - k) []).getD 2 0)),   some (O.var [A.nils, A.bool false, A.flt FloatKind.f32 0])])
      else
        False
    else
      L (XK.exit 0) ([A.int IntKind.i64 n, A.int IntKind.i64 n, A.flt FloatKind.f32 r, A.flt FloatKind.f32 h, A.int IntKind.i64 (Int.ofNat k), A.ptr 272 0, A.ptr 0 0, A.bool false]) ([some (O.var [A.sl 336 k, A.bool true, A.flt FloatKind.f32 c]), some (O.row 30 3 k (Row.vecs FloatKind.f32 (fun i => ringX n r i) (fun i => ringY n r i) fun x => h)), some (O.var [A.nils, A.bool false, A.flt FloatKind.f32 0])]) := by kernel_rfl
noncomputable def F31 : List A → List (Option O) → Option R3
  | [.int .i64 n2, .int .i64 n, .flt .f32 r, .flt .f32 h, .int .i64 0, .ptr 272 0, .ptr 0 0, .bool false], [some (.var [.sl 336 0, .bool true, .flt .f32 c]), some (.row 30 3 0 g), some (.var [.nils, .bool false, .flt .f32 0])] => some (.ite (decide (n = n2) && decide (n ≤ 1000)) (.leaf .normal (I31 n r h c (n.toNat)) (J31 n r h c (n.toNat))) .fail)
  | _, _ => none
theorem loop31 : CodeOK Try.prog (fun _ σ => sumAt Try.f20.ntmps 352 [29, 0, 1, 2, 30, 10, 8, 9] [272, 336, 0] F31 σ) (.block 0 (.loop (loopOf Try.f20 0))) := by
  refine block_ok (own := fun _ => true) (lp := (fun _ => none)) (un := 0) (fuel := 1000) cfgD_ok (lp_none _) fun az os R hF hok => ?_
  unfold F31 at hF
  split at hF
  · rename_i n2 n r h c g
    injection hF with hF
    subst hF
    have hg := hok.guard
    have hg' := hg
    simp only [Bool.and_eq_true, Nat.ble_eq, Nat.beq_eq, decide_eq_true_eq] at hg'
    obtain ⟨rfl, hn⟩ := hg'
    refine for_fact (ids := [272, 336, 0]) (fun _ => true) (n.toNat) (I31 n r h c) (J31 n r h c) _ (.ret) (I31 n r h c) (I31 n r h c) (I31 n r h c (n.toNat)) (J31 n r h c (n.toNat)) rfl (by unfold J31; exact ⟨rfl, ⟨30, _, rfl, .inr rfl, fun p hp => absurd hp (by omega)⟩, rfl, trivial⟩) (fun _ => rfl) (fun _ => rfl) (fun _ => ALe.self _) (fun _ => rfl) (ALe.self _) (OSims.self _) rfl (fun h => by cases h) (fun k hk L h1 h2 h3 => ?_) fun L hL => ?_
    · rw [round31]

      by_cases hkm : k < n.toNat
      · refine condT (lt_int hkm) ?_
        rw [wrap_succ (by omega)]
        refine condT (decide_eq_true (by omega)) ?_
        exact h1 hkm rfl _ ⟨rfl, ⟨30, _, rfl, .inr rfl, fun p hp => vec_at (app3 (u := ringX n r) rfl hp) (app3 (u := ringY n r) rfl hp) (app3 (u := fun _ => h) rfl hp)⟩, rfl, trivial⟩
      · refine condE (ge_int hkm) ?_
        obtain rfl : k = n.toNat := by omega
        exact h3 rfl
    · exact ⟨fun _ => hL.1 hg, fun N _ h => by cases h⟩
  · cases hF

noncomputable def N31 : St → T := nilW 272 0 30 3 (sumAt Try.f20.ntmps 352 [29, 0, 1, 2, 30, 10, 8, 9] [272, 336, 0] F31)
theorem loopN31 : CodeOK Try.prog (fun _ σ => N31 σ) (.block 0 (.loop (loopOf Try.f20 0))) := nilW_ok loop31
end Go.Fw.E1

/-
  Points of a helix: the loops; rings as wires.
-/
namespace Go.Fw.E1
open Go.Proofs
def helixZ (s i : Nat) : Nat := fop .mul .f32 (fofInt .f32 (Int.ofNat i)) s
noncomputable def I25 (n m : Int) (r s c : Nat) (k : Nat) : List A := [.int .i64 n, .int .i64 m, .flt .f32 r, .flt .f32 s, .int .i64 (Int.ofNat k), .ptr 288 0, .ptr 0 0, .bool false]
noncomputable def J25 (n m : Int) (r s c : Nat) (k : Nat) : List O := [.var [.sl 240 k, .bool false, .flt .f32 c], .row 30 3 k (.vecs .f32 (ringX m r) (ringY m r) (helixZ s)), .var [.emp, .bool false, .flt .f32 0]]
noncomputable def F25 : List A → List (Option O) → Option R3
  | [.int .i64 n, .int .i64 m, .flt .f32 r, .flt .f32 s, .int .i64 0, .ptr 288 0, .ptr 0 0, .bool false], [some (.var [.sl 240 0, .bool false, .flt .f32 c]), some (.row 30 3 0 g), some (.var [.emp, .bool false, .flt .f32 0])] => some (.ite (decide (n ≤ 1000)) (.leaf .normal (I25 n m r s c (n.toNat)) (J25 n m r s c (n.toNat))) .fail)
  | _, _ => none
noncomputable def I26 (n m : Int) (r s c : Nat) (k : Nat) : List A := [.int .i64 n, .int .i64 n, .int .i64 m, .flt .f32 r, .flt .f32 s, .int .i64 (Int.ofNat k), .ptr 352 0, .ptr 0 0, .bool false]
noncomputable def J26 (n m : Int) (r s c : Nat) (k : Nat) : List O := [.var [.sl 416 k, .bool false, .flt .f32 c], .row 30 3 k (.vecs .f32 (ringX m r) (ringY m r) (helixZ s)), .var [.nils, .bool false, .flt .f32 0]]
theorem round26 (n m : Int) (r s c : Nat) (k : Nat) (L : XK → List A → List (Option O) → Prop) :
    ((exec cfgD (fun _ => true) (fun _ => none) 0 1000 (loopOf Try.f27 0) (litSt Try.f27.ntmps 432 [36, 0, 1, 2, 3, 37, 12, 10, 11] [352, 416, 0] (I26 n m r s c k) (J26 n m r s c k))).rt [36, 0, 1, 2, 3, 37, 12, 10, 11] [352, 416, 0]).Ok L =
    bif decide (Int.ofNat k < n) then
      bif decide (k + 1 ≤ 1073741824) then
        L (XK.normal) ([A.int IntKind.i64 n, A.int IntKind.i64 n, A.int IntKind.i64 m, A.flt FloatKind.f32 r, A.flt FloatKind.f32 s, A.int IntKind.i64 (IntKind.i64.wrap (Int.ofNat k + Int.ofNat 1)), A.ptr 352 0, A.ptr 0 0, A.bool false]) ([some (O.var [A.sl 416 (k + 1), A.bool false, A.flt FloatKind.f32 c]),   some     (O.row 30 3 (k + 1)       (Row.vecs FloatKind.f32         (fun j =>           match decide (j < k) with           | true => ringX m r j           | false => ([[fop BinOp.mul FloatKind.f32 r (fcvt FloatKind.f64 FloatKind.f32 (sineW (fcvt FloatKind.f32 FloatKind.f64 (fop BinOp.add FloatKind.f32 (fop BinOp.quo FloatKind.f32 (fofInt FloatKind.f32 (Int.ofNat k)) (fofInt FloatKind.f32 m)) (can FloatKind.f32 1048576000))))), fop BinOp.mul FloatKind.f32 r (fcvt FloatKind.f64 FloatKind.f32 (sineW (fcvt FloatKind.f32 FloatKind.f64 (fop BinOp.quo FloatKind.f32 (fofInt FloatKind.f32 (Int.ofNat k)) (fofInt FloatKind.f32 m))))), fop BinOp.mul FloatKind.f32 (fofInt FloatKind.f32 (Int.ofNat k)) s]].getD (j - k) []).getD 0 0)         (fun j =>           match decide (j < k) with           | true => ringY m r j           | false => ([[fop BinOp.mul FloatKind.f32 r (fcvt FloatKind.f64 FloatKind.f32 (sineW (fcvt FloatKind.f32 FloatKind.f64 (fop BinOp.add FloatKind.f32 (fop BinOp.quo FloatKind.f32 (fofInt FloatKind.f32 (Int.ofNat k)) (fofInt FloatKind.f32 m)) (can FloatKind.f32 1048576000))))), fop BinOp.mul FloatKind.f32 r (fcvt FloatKind.f64 FloatKind.f32 (sineW (fcvt FloatKind.f32 FloatKind.f64 (fop BinOp.quo FloatKind.f32 (fofInt FloatKind.f32 (Int.ofNat k)) (fofInt FloatKind.f32 m))))), fop BinOp.mul FloatKind.f32 (fofInt FloatKind.f32 (Int.ofNat k)) s]].getD (j - k) []).getD 1 0)         fun j =>         match decide (j < k) with         | true => helixZ s j         | false => ([[fop BinOp.mul FloatKind.f32 r (fcvt FloatKind.f64 FloatKind.f32 (sineW (fcvt FloatKind.f32 FloatKind.f64 (fop BinOp.add FloatKind.f32 (fop BinOp.quo FloatKind.f32 (fofInt FloatKind.f32 (Int.ofNat k)) (fofInt FloatKind.f32 m)) (can FloatKind.f32 1048576000))))), fop BinOp.mul FloatKind.f32 r (fcvt FloatKind.f64 FloatKind.f32 (sineW (fcvt FloatKind.f32 FloatKind.f64 (fop BinOp.quo FloatKind.f32 (fofInt FloatKind.f32 (Int.ofNat k)) (fofInt FloatKind.f32 m))))), fop BinOp.mul FloatKind.f32 (fofInt FloatKind.f32 (Int.ofNat k)) s]].getD (j - k) []).getD 2 0)),   some (O.var [A.nils, A.bool false, A.flt FloatKind.f32 0])])
      else
        False
    else
      L (XK.exit 0) ([A.int IntKind.i64 n, A.int IntKind.i64 n, A.int IntKind.i64 m, A.flt FloatKind.f32 r, A.flt FloatKind.f32 s, A.int IntKind.i64 (Int.ofNat k), A.ptr 352 0, A.ptr 0 0, A.bool false]) ([some (O.var [A.sl 416 k, A.bool false, A.flt FloatKind.f32 c]), some (O.row 30 3 k (Row.vecs FloatKind.f32 (fun i => ringX m r i) (fun i => ringY m r i) fun i => helixZ s i)), some (O.var [A.nils, A.bool false, A.flt FloatKind.f32 0])]) := by kernel_rfl
noncomputable def F26 : List A → List (Option O) → Option R3
  | [.int .i64 n2, .int .i64 n, .int .i64 m, .flt .f32 r, .flt .f32 s, .int .i64 0, .ptr 352 0, .ptr 0 0, .bool false], [some (.var [.sl 416 0, .bool false, .flt .f32 c]), some (.row 30 3 0 g), some (.var [.nils, .bool false, .flt .f32 0])] => some (.ite (decide (n = n2) && decide (n ≤ 1000)) (.leaf .normal (I26 n m r s c (n.toNat)) (J26 n m r s c (n.toNat))) .fail)
  | _, _ => none
theorem loop26 : CodeOK Try.prog (fun _ σ => sumAt Try.f27.ntmps 432 [36, 0, 1, 2, 3, 37, 12, 10, 11] [352, 416, 0] F26 σ) (.block 0 (.loop (loopOf Try.f27 0))) := by
  refine block_ok (own := fun _ => true) (lp := (fun _ => none)) (un := 0) (fuel := 1000) cfgD_ok (lp_none _) fun az os R hF hok => ?_
  unfold F26 at hF
  split at hF
  · rename_i n2 n m r s c g
    injection hF with hF
    subst hF
    have hg := hok.guard
    have hg' := hg
    simp only [Bool.and_eq_true, Nat.ble_eq, Nat.beq_eq, decide_eq_true_eq] at hg'
    obtain ⟨rfl, hn⟩ := hg'
    refine for_fact (ids := [352, 416, 0]) (fun _ => true) (n.toNat) (I26 n m r s c) (J26 n m r s c) _ (.ret) (I26 n m r s c) (I26 n m r s c) (I26 n m r s c (n.toNat)) (J26 n m r s c (n.toNat)) rfl (by unfold J26; exact ⟨rfl, ⟨30, _, rfl, .inr rfl, fun p hp => absurd hp (by omega)⟩, rfl, trivial⟩) (fun _ => rfl) (fun _ => rfl) (fun _ => ALe.self _) (fun _ => rfl) (ALe.self _) (OSims.self _) rfl (fun h => by cases h) (fun k hk L h1 h2 h3 => ?_) fun L hL => ?_
    · rw [round26]

      by_cases hkm : k < n.toNat
      · refine condT (lt_int hkm) ?_
        rw [wrap_succ (by omega)]
        refine condT (decide_eq_true (by omega)) ?_
        exact h1 hkm rfl _ ⟨rfl, ⟨30, _, rfl, .inr rfl, fun p hp => vec_at (app3 (u := ringX m r) rfl hp) (app3 (u := ringY m r) rfl hp) (app3 (u := helixZ s) rfl hp)⟩, rfl, trivial⟩
      · refine condE (ge_int hkm) ?_
        obtain rfl : k = n.toNat := by omega
        exact h3 rfl
    · exact ⟨fun _ => hL.1 hg, fun N _ h => by cases h⟩
  · cases hF

noncomputable def N26 : St → T := nilW 352 0 30 3 (sumAt Try.f27.ntmps 432 [36, 0, 1, 2, 3, 37, 12, 10, 11] [352, 416, 0] F26)
theorem loopN26 : CodeOK Try.prog (fun _ σ => N26 σ) (.block 0 (.loop (loopOf Try.f27 0))) := nilW_ok loop26
end Go.Fw.E1

/-
  Rings and helices as wires.
-/
namespace Go.Fw.E1
open Go.Proofs
noncomputable def s84 : List A → Option (Bool × A)
  | [.int .i64 n, .flt .f32 r, .flt .f32 h, .flt .f32 c] => some (decide (n ≤ 1000), .agg [.ro 3 n.toNat (.vecs .f32 (ringX n r) (ringY n r) (fun _ => h)), .bool true, .flt .f32 c])
  | _ => none
noncomputable def env35 : List (Nat × (List A → Option (Bool × A))) := env34
theorem env35_ok : EnvOK Try.prog (look env35) := env34_ok
noncomputable def cfg35 : Cfg := mkCfg tab [] xts (look env35)
theorem cfg35_ok : CfgOK Try.prog cfg35 := cfg_ok tab_eq (no_fts _) xts_ok env35_ok mixed
noncomputable def fts75 : List (Nat × Func) := [(75, Try.f75)]
theorem fts75_ok (f : Nat) (fn : Func) (h : (f, fn) ∈ fts75) : Try.prog.funcs[f]? = some fn ∧ (fn.name == "runtime.NumGoroutine") = false := by
  simp only [fts75, List.mem_cons, Prod.mk.injEq, List.not_mem_nil, or_false] at h
  obtain ⟨rfl, rfl⟩ := h
  exact ⟨Try.func75, by kernel_rfl⟩
noncomputable def cfgG : Cfg := mkCfg tab fts75 xts (look env35)
theorem cfgG_ok : CfgOK Try.prog cfgG := cfg_ok tab_eq fts75_ok xts_ok env35_ok mixed
noncomputable def cfgGD : Cfg := mkCfg (nilTab tab) fts75 xts (look env35)
theorem cfgGD_ok : CfgOK Try.prog cfgGD := cfgN_ok' tab_eq fts75_ok xts_ok env35_ok mixed
end Go.Fw.E1

/-
  Rings as wires: contracts.
-/
namespace Go.Fw.E1
open Go.Proofs
noncomputable def ringOk (n : Int) (r h c : Nat) : Bool := (bif decide (n ≥ 3) then decide (n ≤ 48) else false) && above r && okW n.toNat c (ringX n r) (ringY n r) (fun _ => h)
theorem ring_ok {n : Int} {r h c : Nat} (hr : ringOk n r h c = true) : (bif decide (n ≥ 3) then decide (n ≤ 48) else false) = true ∧ above r = true ∧ okW n.toNat c (ringX n r) (ringY n r) (fun _ => h) = true ∧ 3 ≤ n ∧ n ≤ 48 := by
  unfold ringOk at hr
  simp only [Bool.and_eq_true] at hr
  refine ⟨hr.1.1, hr.1.2, hr.2, ?_⟩
  have h1 := hr.1.1
  by_cases h3 : n ≥ 3
  · rw [decide_eq_true h3] at h1; exact ⟨h3, of_decide_eq_true h1⟩
  · rw [decide_eq_false h3] at h1; cases h1
theorem okW_fin {n cur : Nat} {x y : Nat → Nat} {h : Nat} (hw : okW n cur x y (fun _ => h) = true) : fin h = true := by
  unfold okW at hw
  simp only [Bool.and_eq_true, decide_eq_true_eq] at hw
  have := allUpTo_iff.1 hw.2 0 (by omega)
  unfold vfinAt vfin at this
  revert this
  cases fin (x 0) <;> cases fin (y 0) <;> cases fin h <;> simp
noncomputable def s30T : List A → Option (Bool × A)
  | [.int .i64 n, .flt .f32 r, .flt .f32 h, .flt .f32 c] => some (ringOk n r h c, .tup [.agg [.ro 3 n.toNat (.vecs .f32 (ringX n r) (ringY n r) (fun _ => h)), .bool true, .flt .f32 c], .bool true])
  | _ => none
noncomputable def s30F : List A → Option (Bool × A)
  | [.int .i64 n, .flt .f32 r, .flt .f32 h, .flt .f32 c] => some (!ringOk n r h c, .tup [.agg [.emp, .bool false, .flt .f32 0], .bool false])
  | _ => none
noncomputable def lp31T : List (Nat × (St → T)) := [(0, N31)]
theorem lp31T_ok : LpOK Try.prog (look lp31T) (bodyOf Try.f20) := lp_loops (by kernel_rfl) (by kernel_rfl) fun p hp => by
  simp only [lp31T, List.mem_cons, List.not_mem_nil, or_false] at hp
  rcases hp with rfl
  · exact loopN31
theorem auto31T (n : Int) (r h c : Nat) : autoS cfgGD (look lp31T) false Try.f20 [.int .i64 n, .flt .f32 r, .flt .f32 h, .flt .f32 c] =
    some ((!bif bif !inI n (Int.ofNat 3) (Int.ofNat 48) then true else !above r then true else !fin h) && (decide (n = n) && decide (n ≤ 1000) && (n.toNat.ble 4611686018427387000 && ((!!okW n.toNat c (ringX n r) (ringY n r) fun x => h) && true))), A.tup [A.agg [A.ro 3 n.toNat (Row.vecs FloatKind.f32 (fun i => ringX n r i) (fun i => ringY n r i) fun x => h), A.bool true, A.flt FloatKind.f32 c], A.bool true]) := by kernel_rfl
noncomputable def s31T : List A → Option (Bool × A)
  | [.int .i64 n, .flt .f32 r, .flt .f32 h, .flt .f32 c] => some (ringOk n r h c, .tup [.agg [.ro 3 n.toNat (.vecs .f32 (ringX n r) (ringY n r) (fun _ => h)), .bool true, .flt .f32 c], .bool true])
  | _ => none
theorem s31T_at : EnvAt Try.prog 20 s31T := of_autoS cfgGD_ok lp31T_ok Try.func20 (by kernel_rfl) (by kernel_rfl) fun ds cc rr h hc => by
  unfold s31T at h
  split at h
  · rename_i n r h c
    simp only [Option.some.injEq, Prod.mk.injEq] at h
    obtain ⟨rfl, rfl⟩ := h
    refine auto_fit (auto31T n r h c) ?_ ?_
    · rfl
    · obtain ⟨h1, h2, h3, h4, h5⟩ := ring_ok hc
      have h1' : inI n (Int.ofNat 3) (Int.ofNat 48) = true := h1
      rw [h1', h2, h3, okW_fin h3, decide_eq_true (show n ≤ 1000 by omega), decide_eq_true rfl, ble_of (show n.toNat ≤ 4611686018427387000 by omega)]; rfl
  · cases h

noncomputable def lp31N : List (Nat × (St → T)) := [(0, N31)]
theorem lp31N_ok : LpOK Try.prog (look lp31N) (bodyOf Try.f20) := lp_loops (by kernel_rfl) (by kernel_rfl) fun p hp => by
  simp only [lp31N, List.mem_cons, List.not_mem_nil, or_false] at hp
  rcases hp with rfl
  · exact loopN31
theorem auto31N (n : Int) (r h c : Nat) : autoS cfgGD (look lp31N) true Try.f20 [.int .i64 n, .flt .f32 r, .flt .f32 h, .flt .f32 c] =
    some (bif bif bif !inI n (Int.ofNat 3) (Int.ofNat 48) then true else !above r then true else !fin h then true else decide (n = n) && decide (n ≤ 1000) && (n.toNat.ble 4611686018427387000 && ((!okW n.toNat c (ringX n r) (ringY n r) fun x => h) && true)), A.tup [A.agg [A.nils, A.bool (bif bif bif !inI n (Int.ofNat 3) (Int.ofNat 48) then true else !above r then true else !fin h then false else false), A.flt FloatKind.f32 (bif bif bif !inI n (Int.ofNat 3) (Int.ofNat 48) then true else !above r then true else !fin h then 0 else 0)], A.bool (bif bif bif !inI n (Int.ofNat 3) (Int.ofNat 48) then true else !above r then true else !fin h then false else false)]) := by kernel_rfl
noncomputable def s31N : List A → Option (Bool × A)
  | [.int .i64 n, .flt .f32 r, .flt .f32 h, .flt .f32 c] => some (!ringOk n r h c, .tup [.agg [.nils, .bool false, .flt .f32 0], .bool false])
  | _ => none
theorem s31N_at : EnvAt Try.prog 20 s31N := of_autoS cfgGD_ok lp31N_ok Try.func20 (by kernel_rfl) (by kernel_rfl) fun ds cc rr h hc => by
  unfold s31N at h
  split at h
  · rename_i n r h c
    simp only [Option.some.injEq, Prod.mk.injEq] at h
    obtain ⟨rfl, rfl⟩ := h
    refine auto_fit (auto31N n r h c) ?_ ?_
    · simp only [Bool.cond_self]
    · unfold ringOk at hc
      cases hA : inI n (Int.ofNat 3) (Int.ofNat 48)
      · rfl
      · cases hB : above r
        · rfl
        · have hA' : (bif decide (n ≥ 3) then decide (n ≤ 48) else false) = true := hA
          rw [hA', hB] at hc
          have hC : okW n.toNat c (ringX n r) (ringY n r) (fun _ => h) = false := by simpa using hc
          have h5 : n ≤ 48 := by
            by_cases h3 : n ≥ 3
            · rw [decide_eq_true h3] at hA'; exact of_decide_eq_true hA'
            · rw [decide_eq_false h3] at hA'; cases hA'
          rw [hC, decide_eq_true (show n ≤ 1000 by omega), decide_eq_true rfl, ble_of (show n.toNat ≤ 4611686018427387000 by omega)]
          cases fin h <;> rfl
  · cases h

noncomputable def s31F : List A → Option (Bool × A)
  | [.int .i64 n, .flt .f32 r, .flt .f32 h, .flt .f32 c] => some (!ringOk n r h c, .tup [.agg [.emp, .bool false, .flt .f32 0], .bool false])
  | _ => none
theorem s31F_at : EnvAt Try.prog 20 s31F := by
  refine ⟨s31N_at.1, fun ds c r h hc => ?_⟩
  unfold s31F at h
  split at h
  · rename_i n r hh cc
    simp only [Option.some.injEq, Prod.mk.injEq] at h
    obtain ⟨rfl, rfl⟩ := h
    exact (s31N_at.2 [.int .i64 n, .flt .f32 r, .flt .f32 hh, .flt .f32 cc] _ _ rfl hc).emp_of
  · cases h
end Go.Fw.E1

/-
  Helices as wires: contracts.
-/
namespace Go.Fw.E1
open Go.Proofs
theorem num_mul {k : FloatKind} {x y : Nat} (h : num k (fop .mul k x y) = true) : num k y = true := by
  cases hy : k.format.read y with
  | number s m i => exact num_iff.2 ⟨_, _, _, hy⟩
  | nan s t =>
    exfalso
    have e : fop .mul k x y = qnan k := by
      unfold fop
      have e : floatBits .mul k x y = ((k.format.read x).product (k.format.read y)).map k.format.write := rfl
      rw [e, hy, product_nan_right]; rfl
    rw [e] at h
    revert h
    cases k <;> decide +kernel
  | infinity s =>
    exfalso
    have e : ∃ g, fop .mul k x y = qnan k ∨ fop .mul k x y = k.format.word g k.format.infRung := by
      unfold fop
      have e : floatBits .mul k x y = ((k.format.read x).product (k.format.read y)).map k.format.write := rfl
      rw [e, hy]
      have hD : ∀ d : Ieee.Datum, d.product (.infinity s) = none ∨ ∃ g, d.product (.infinity s) = some (.infinity g) := fun d => by
        cases d with
        | nan a b => exact .inl rfl
        | infinity a => exact .inr ⟨_, rfl⟩
        | number a n j =>
          simp only [Ieee.Datum.product]
          split
          · exact .inl rfl
          · exact .inr ⟨_, rfl⟩
      rcases hD (k.format.read x) with h | ⟨g, h⟩
      · rw [h]; exact ⟨true, .inl rfl⟩
      · rw [h]; exact ⟨g, .inr rfl⟩
    obtain ⟨g, e | e⟩ := e
    · rw [e] at h; revert h; cases k <;> decide +kernel
    · rw [e] at h; revert h; cases k <;> cases g <;> decide +kernel
noncomputable def inN (n : Int) : Bool := bif decide (n ≥ 2) then decide (n ≤ 48) else false
noncomputable def inM (n : Int) : Bool := bif decide (n ≥ 3) then decide (n ≤ 48) else false
noncomputable def helixOk (n m : Int) (r s c : Nat) : Bool := inN n && inM m && above r && okW n.toNat c (ringX m r) (ringY m r) (helixZ s)
theorem inN_ok {n : Int} (h : inN n = true) : 2 ≤ n ∧ n ≤ 48 := by
  unfold inN at h
  by_cases h3 : n ≥ 2
  · rw [decide_eq_true h3] at h; exact ⟨h3, of_decide_eq_true h⟩
  · rw [decide_eq_false h3] at h; cases h
theorem helix_ok {n m : Int} {r s c : Nat} (hr : helixOk n m r s c = true) : inN n = true ∧ inM m = true ∧ above r = true ∧ okW n.toNat c (ringX m r) (ringY m r) (helixZ s) = true ∧ 2 ≤ n ∧ n ≤ 48 := by
  unfold helixOk at hr
  simp only [Bool.and_eq_true] at hr
  obtain ⟨⟨⟨h1, h2⟩, h3⟩, h4⟩ := hr
  exact ⟨h1, h2, h3, h4, inN_ok h1⟩
theorem okW_rise {n cur : Nat} {x y : Nat → Nat} {s : Nat} (hw : okW n cur x y (helixZ s) = true) : fin s = true := by
  unfold okW at hw
  simp only [Bool.and_eq_true, decide_eq_true_eq] at hw
  have := allUpTo_iff.1 hw.2 1 (by omega)
  unfold vfinAt vfin at this
  have hz : fin (helixZ s 1) = true := by
    revert this
    cases fin (x 1) <;> cases fin (y 1) <;> cases fin (helixZ s 1) <;> simp
  rw [fin_num] at hz ⊢
  exact num_mul hz
noncomputable def s25T : List A → Option (Bool × A)
  | [.int .i64 n, .int .i64 m, .flt .f32 r, .flt .f32 s, .flt .f32 c] => some (helixOk n m r s c, .tup [.agg [.ro 3 n.toNat (.vecs .f32 (ringX m r) (ringY m r) (helixZ s)), .bool false, .flt .f32 c], .bool true])
  | _ => none
noncomputable def s25F : List A → Option (Bool × A)
  | [.int .i64 n, .int .i64 m, .flt .f32 r, .flt .f32 s, .flt .f32 c] => some (!helixOk n m r s c, .tup [.agg [.emp, .bool false, .flt .f32 0], .bool false])
  | _ => none
noncomputable def lp26T : List (Nat × (St → T)) := [(0, N26)]
theorem lp26T_ok : LpOK Try.prog (look lp26T) (bodyOf Try.f27) := lp_loops (by kernel_rfl) (by kernel_rfl) fun p hp => by
  simp only [lp26T, List.mem_cons, List.not_mem_nil, or_false] at hp
  rcases hp with rfl
  · exact loopN26
theorem auto26T (n m : Int) (r s c : Nat) : autoS cfgGD (look lp26T) false Try.f27 [.int .i64 n, .int .i64 m, .flt .f32 r, .flt .f32 s, .flt .f32 c] =
    some ((!bif bif bif !bif decide (n ≥ 2) then decide (n ≤ 48) else false then true else !inI m (Int.ofNat 3) (Int.ofNat 48) then true else !above r then true else !fin s) && (decide (n = n) && decide (n ≤ 1000) && (n.toNat.ble 4611686018427387000 && (!!okW n.toNat c (ringX m r) (ringY m r) (helixZ s) && true))), A.tup [A.agg [A.ro 3 n.toNat (Row.vecs FloatKind.f32 (fun i => ringX m r i) (fun i => ringY m r i) fun i => helixZ s i), A.bool false, A.flt FloatKind.f32 c], A.bool true]) := by kernel_rfl
noncomputable def s26T : List A → Option (Bool × A)
  | [.int .i64 n, .int .i64 m, .flt .f32 r, .flt .f32 s, .flt .f32 c] => some (helixOk n m r s c, .tup [.agg [.ro 3 n.toNat (.vecs .f32 (ringX m r) (ringY m r) (helixZ s)), .bool false, .flt .f32 c], .bool true])
  | _ => none
theorem s26T_at : EnvAt Try.prog 27 s26T := of_autoS cfgGD_ok lp26T_ok Try.func27 (by kernel_rfl) (by kernel_rfl) fun ds cc rr h hc => by
  unfold s26T at h
  split at h
  · rename_i n m r s c
    simp only [Option.some.injEq, Prod.mk.injEq] at h
    obtain ⟨rfl, rfl⟩ := h
    refine auto_fit (auto26T n m r s c) ?_ ?_
    · rfl
    · obtain ⟨h1, h2, h3, h4, h5, h6⟩ := helix_ok hc
      have h1' : (bif decide (n ≥ 2) then decide (n ≤ 48) else false) = true := h1
      have h2' : inI m (Int.ofNat 3) (Int.ofNat 48) = true := h2
      rw [h1', h2', h3, h4, okW_rise h4, decide_eq_true (show n ≤ 1000 by omega), decide_eq_true rfl, ble_of (show n.toNat ≤ 4611686018427387000 by omega)]; rfl
  · cases h

noncomputable def lp26N : List (Nat × (St → T)) := [(0, N26)]
theorem lp26N_ok : LpOK Try.prog (look lp26N) (bodyOf Try.f27) := lp_loops (by kernel_rfl) (by kernel_rfl) fun p hp => by
  simp only [lp26N, List.mem_cons, List.not_mem_nil, or_false] at hp
  rcases hp with rfl
  · exact loopN26
theorem auto26N (n m : Int) (r s c : Nat) : autoS cfgGD (look lp26N) true Try.f27 [.int .i64 n, .int .i64 m, .flt .f32 r, .flt .f32 s, .flt .f32 c] =
    some (bif bif bif bif !bif decide (n ≥ 2) then decide (n ≤ 48) else false then true else !inI m (Int.ofNat 3) (Int.ofNat 48) then true else !above r then true else !fin s then true else decide (n = n) && decide (n ≤ 1000) && (n.toNat.ble 4611686018427387000 && (!okW n.toNat c (ringX m r) (ringY m r) (helixZ s) && true)), A.tup [A.agg [A.nils, A.bool (bif bif bif bif !bif decide (n ≥ 2) then decide (n ≤ 48) else false then true else !inI m (Int.ofNat 3) (Int.ofNat 48) then true else !above r then true else !fin s then false else false), A.flt FloatKind.f32 (bif bif bif bif !bif decide (n ≥ 2) then decide (n ≤ 48) else false then true else !inI m (Int.ofNat 3) (Int.ofNat 48) then true else !above r then true else !fin s then 0 else 0)], A.bool (bif bif bif bif !bif decide (n ≥ 2) then decide (n ≤ 48) else false then true else !inI m (Int.ofNat 3) (Int.ofNat 48) then true else !above r then true else !fin s then false else false)]) := by kernel_rfl
noncomputable def s26N : List A → Option (Bool × A)
  | [.int .i64 n, .int .i64 m, .flt .f32 r, .flt .f32 s, .flt .f32 c] => some (!helixOk n m r s c, .tup [.agg [.nils, .bool false, .flt .f32 0], .bool false])
  | _ => none
theorem s26N_at : EnvAt Try.prog 27 s26N := of_autoS cfgGD_ok lp26N_ok Try.func27 (by kernel_rfl) (by kernel_rfl) fun ds cc rr h hc => by
  unfold s26N at h
  split at h
  · rename_i n m r s c
    simp only [Option.some.injEq, Prod.mk.injEq] at h
    obtain ⟨rfl, rfl⟩ := h
    refine auto_fit (auto26N n m r s c) ?_ ?_
    · simp only [Bool.cond_self]
    · unfold helixOk at hc
      show (bif (bif bif bif !inN n then true else !inM m then true else !above r then true else !fin s) then true else decide (n = n) && decide (n ≤ 1000) && (n.toNat.ble 4611686018427387000 && ((!okW n.toNat c (ringX m r) (ringY m r) (helixZ s)) && true))) = true
      cases hA : inN n
      · rfl
      · cases hD : inM m
        · rfl
        · cases hB : above r
          · rfl
          · rw [hA, hB, hD] at hc
            have hC : okW n.toNat c (ringX m r) (ringY m r) (helixZ s) = false := by simpa using hc
            have h5 := (inN_ok hA).2
            rw [hC, decide_eq_true (show n ≤ 1000 by omega), decide_eq_true rfl, ble_of (show n.toNat ≤ 4611686018427387000 by omega)]
            cases fin s <;> rfl
  · cases h

noncomputable def s26F : List A → Option (Bool × A)
  | [.int .i64 n, .int .i64 m, .flt .f32 r, .flt .f32 s, .flt .f32 c] => some (!helixOk n m r s c, .tup [.agg [.emp, .bool false, .flt .f32 0], .bool false])
  | _ => none
theorem s26F_at : EnvAt Try.prog 27 s26F := by
  refine ⟨s26N_at.1, fun ds c r h hc => ?_⟩
  unfold s26F at h
  split at h
  · rename_i n m r s cc
    simp only [Option.some.injEq, Prod.mk.injEq] at h
    obtain ⟨rfl, rfl⟩ := h
    exact (s26N_at.2 [.int .i64 n, .int .i64 m, .flt .f32 r, .flt .f32 s, .flt .f32 cc] _ _ rfl hc).emp_of
  · cases h
end Go.Fw.E1

/-
  Wires that are turned: tables.
-/
namespace Go.Fw.E1
open Go.Proofs
noncomputable def ftsS : List (Nat × Func) := [(75, Try.f75), (85, Try.f85)]
theorem ftsS_ok (f : Nat) (fn : Func) (h : (f, fn) ∈ ftsS) : Try.prog.funcs[f]? = some fn ∧ (fn.name == "runtime.NumGoroutine") = false := by
  simp only [ftsS, List.mem_cons, Prod.mk.injEq, List.not_mem_nil, or_false] at h
  rcases h with ⟨rfl, rfl⟩ | ⟨rfl, rfl⟩
  · exact ⟨Try.func75, by kernel_rfl⟩
  · exact ⟨Try.func85, by kernel_rfl⟩
noncomputable def cfgS : Cfg := mkCfg tab ftsS xts (look env35)
theorem cfgS_ok : CfgOK Try.prog cfgS := cfg_ok tab_eq ftsS_ok xts_ok env35_ok mixed
noncomputable def cfgSD : Cfg := mkCfg (nilTab tab) ftsS xts (look env35)
theorem cfgSD_ok : CfgOK Try.prog cfgSD := cfgN_ok' tab_eq ftsS_ok xts_ok env35_ok mixed
end Go.Fw.E1

/-
  A wire that is turned: the reference's loop.
-/
namespace Go.Fw.E1
open Go.Proofs
theorem upto_self (k : Nat) (a b : Nat → Nat) : upto k a b k = b k := by simp [upto]
theorem upto_put {k v : Nat} {a b : Nat → Nat} (hv : v = a k) (j : Nat) : (match decide (j = k) with | true => v | false => upto k a b j) = upto (k + 1) a b j := by subst hv; exact upto_set a b j
theorem same_put {k : Nat} {z : Nat → Nat} (j : Nat) : (match decide (j = k) with | true => z k | false => z j) = z j := by
  by_cases h : j = k
  · subst h; simp
  · simp [h]
noncomputable def spX (c s : Nat) (x y : Nat → Nat) (p : Nat) : Nat := fop .sub .f32 (fop .mul .f32 c (x p)) (fop .mul .f32 s (y p))
noncomputable def spY (c s : Nat) (x y : Nat → Nat) (p : Nat) : Nat := fop .add .f32 (fop .mul .f32 s (x p)) (fop .mul .f32 c (y p))
theorem spX_at {c s k v : Nat} {x y : Nat → Nat} (h : v = fop .sub .f32 (fop .mul .f32 c (x k)) (fop .mul .f32 s (y k))) : v = spX c s x y k := h
theorem spY_at {c s k v : Nat} {x y : Nat → Nat} (h : v = fop .add .f32 (fop .mul .f32 s (x k)) (fop .mul .f32 c (y k))) : v = spY c s x y k := h
noncomputable def I36 (n cur c s : Nat) (x y z : Nat → Nat) (cl : Bool) (k : Nat) : List A := [.flt .f32 c, .flt .f32 s, .ptr 288 0, .int .i64 (Int.ofNat k), .ptr 16 0, .bool false]
noncomputable def J36 (n cur c s : Nat) (x y z : Nat → Nat) (cl : Bool) (k : Nat) : List O := [.var [.sl 416 n, .bool cl, .flt .f32 cur], .row 30 3 n (.vecs .f32 (upto k (spX c s x y) x) (upto k (spY c s x y) y) z), .var [.emp, .bool false, .flt .f32 0]]
noncomputable def F36 : List A → List (Option O) → Option R3
  | [.flt .f32 c, .flt .f32 s, .ptr 288 0, .int .i64 0, .ptr 16 0, .bool false], [some (.var [.sl 416 n, .bool cl, .flt .f32 cur]), some (.row 30 3 n2 (.vecs .f32 x y z)), some (.var [.emp, .bool false, .flt .f32 0])] => some (.ite (Nat.beq n n2 && Nat.ble n 1073741824) (.leaf .normal (I36 n cur c s x y z cl (n)) [.var [.sl 416 n, .bool cl, .flt .f32 cur], .row 30 3 n (.vecs .f32 (spX c s x y) (spY c s x y) z), .var [.emp, .bool false, .flt .f32 0]]) .fail)
  | _, _ => none
end Go.Fw.E1

/-
  A wire that is turned: the reference.
-/
namespace Go.Fw.E1
open Go.Proofs
noncomputable def sT (t : Nat) : Nat := fcvt .f64 .f32 (sineW (fcvt .f32 .f64 t))
noncomputable def cT (t : Nat) : Nat := fcvt .f64 .f32 (sineW (fcvt .f32 .f64 (fop .add .f32 t (can .f32 1048576000))))
noncomputable def spinOk (n cur : Nat) (x y z : Nat → Nat) (t : Nat) : Bool := okW n cur x y z && fin t && okW n cur (spX (cT t) (sT t) x y) (spY (cT t) (sT t) x y) z
theorem spin_ok {n cur t : Nat} {x y z : Nat → Nat} (h : spinOk n cur x y z t = true) : okW n cur x y z = true ∧ fin t = true ∧ okW n cur (spX (cT t) (sT t) x y) (spY (cT t) (sT t) x y) z = true ∧ 1 ≤ n ∧ n ≤ 1000 := by
  unfold spinOk at h
  simp only [Bool.and_eq_true] at h
  obtain ⟨⟨h1, h2⟩, h3⟩ := h
  exact ⟨h1, h2, h3, by have := okW_n h1; omega, by have := okW_n h1; omega⟩
noncomputable def s36T : List A → Option (Bool × A)
  | [.agg [.ro 3 n (.vecs .f32 x y z), .bool cl, .flt .f32 cur], .flt .f32 t] => some (spinOk n cur x y z t, .tup [.agg [.ro 3 n (.vecs .f32 (spX (cT t) (sT t) x y) (spY (cT t) (sT t) x y) z), .bool cl, .flt .f32 cur], .bool true])
  | _ => none
noncomputable def s36F : List A → Option (Bool × A)
  | [.agg [.ro 3 n (.vecs .f32 x y z), .bool cl, .flt .f32 cur], .flt .f32 t] => some (Nat.ble n 4611686018427387000 && !spinOk n cur x y z t, .tup [.agg [.emp, .bool false, .flt .f32 0], .bool false])
  | _ => none
end Go.Fw.E1

/-
  A wire that is turned: the program's point.
-/
namespace Go.Fw.E1
open Go.Proofs
theorem auto96 (x y z c s : Nat) : autoLp cfg34 (fun _ => none) Try.f90 [.agg [.flt .f32 x, .flt .f32 y, .flt .f32 z], .rop (.agg [.flt .f32 c]) 0, .rop (.agg [.flt .f32 s]) 0] =
    some (true, A.agg [A.flt FloatKind.f32 (fop BinOp.sub FloatKind.f32 (fop BinOp.mul FloatKind.f32 c x) (fop BinOp.mul FloatKind.f32 s y)), A.flt FloatKind.f32 (fop BinOp.add FloatKind.f32 (fop BinOp.mul FloatKind.f32 s x) (fop BinOp.mul FloatKind.f32 c y)), A.flt FloatKind.f32 z]) := by kernel_rfl
noncomputable def s96 : List A → Option (Bool × A)
  | [.agg [.flt .f32 x, .flt .f32 y, .flt .f32 z], .rop (.agg [.flt .f32 c]) 0, .rop (.agg [.flt .f32 s]) 0] => some (true, .agg [.flt .f32 (fop .sub .f32 (fop .mul .f32 c x) (fop .mul .f32 s y)), .flt .f32 (fop .add .f32 (fop .mul .f32 s x) (fop .mul .f32 c y)), .flt .f32 z])
  | _ => none
theorem s96_at : EnvAt Try.prog 90 s96 := of_auto cfg34_ok (lp_none _) Try.func90 (by kernel_rfl) (by kernel_rfl) fun ds cc rr h hc => by
  unfold s96 at h
  split at h
  · rename_i x y z c s
    simp only [Option.some.injEq, Prod.mk.injEq] at h
    obtain ⟨rfl, rfl⟩ := h
    refine auto_fit (auto96 x y z c s) ?_ ?_
    · rfl
    · rfl
  · cases h

noncomputable def env39 : List (Nat × (List A → Option (Bool × A))) := (90, s96) :: env35
theorem env39_ok : EnvOK Try.prog (look env39) := (env_cons s96_at env35_ok)
noncomputable def cfg39 : Cfg := mkCfg tab [] xts (look env39)
theorem cfg39_ok : CfgOK Try.prog cfg39 := cfg_ok tab_eq (no_fts _) xts_ok env39_ok mixed
noncomputable def cfgGN : Cfg := mkCfg (nilTab tab) fts75 xts (look env39)
theorem cfgGN_ok : CfgOK Try.prog cfgGN := cfgN_ok' tab_eq fts75_ok xts_ok env39_ok mixed
end Go.Fw.E1

/-
  A wire that is turned: the program.
-/
namespace Go.Fw.E1
open Go.Proofs
noncomputable def I95 (n cur c s : Nat) (x y z : Nat → Nat) (cl : Bool) (k : Nat) : List A := [.fn 90 [.rop (.agg [.flt .f32 c]) 0, .rop (.agg [.flt .f32 s]) 0], .ro 3 n (.vecs .f32 x y z), .int .i64 (Int.ofNat n), .int .i64 (Int.ofNat k), .ptr 176 0, .ptr 16 0, .bool false]
noncomputable def J95 (n cur c s : Nat) (x y z : Nat → Nat) (cl : Bool) (k : Nat) : List O := [.var [.sl 272 k, .bool cl, .flt .f32 cur], .row 30 3 k (.vecs .f32 (spX c s x y) (spY c s x y) z), .var [.nils, .bool false, .flt .f32 0]]
theorem round95 (n cur c s : Nat) (x y z : Nat → Nat) (cl : Bool) (k : Nat) (L : XK → List A → List (Option O) → Prop) :
    ((exec cfgGN (fun _ => true) (fun _ => none) 0 1000 (loopOf Try.f85 0) (litSt Try.f85.ntmps 288 [1, 19, 20, 21, 6, 4, 5] [176, 272, 16] (I95 n cur c s x y z cl k) (J95 n cur c s x y z cl k))).rt [1, 19, 20, 21, 6, 4, 5] [176, 272, 16]).Ok L =
    bif decide (Int.ofNat k < Int.ofNat n) then 
       bif decide (Int.ofNat k < Int.ofNat n) then 
         bif decide (k + 1 ≤ 1073741824) then 
           L (XK.normal) ([A.fn 90 [(A.agg [A.flt FloatKind.f32 c]).rop 0, (A.agg [A.flt FloatKind.f32 s]).rop 0], A.ro 3 n (Row.vecs FloatKind.f32 x y z), A.int IntKind.i64 (Int.ofNat n), A.int IntKind.i64 (IntKind.i64.wrap (Int.ofNat k + Int.ofNat 1)), A.ptr 176 0, A.ptr 16 0, A.bool false]) ([some (O.var [A.sl 272 (k + 1), A.bool cl, A.flt FloatKind.f32 cur]),   some     (O.row 30 3 (k + 1)       (Row.vecs FloatKind.f32         (fun j =>           (match decide (j < k) with | true => spX c s x y j | false => ([[fop BinOp.sub FloatKind.f32 (fop BinOp.mul FloatKind.f32 c (x k)) (fop BinOp.mul FloatKind.f32 s (y k)), fop BinOp.add FloatKind.f32 (fop BinOp.mul FloatKind.f32 s (x k)) (fop BinOp.mul FloatKind.f32 c (y k)), z k]].getD (j - k) []).getD 0 0))         (fun j =>           (match decide (j < k) with | true => spY c s x y j | false => ([[fop BinOp.sub FloatKind.f32 (fop BinOp.mul FloatKind.f32 c (x k)) (fop BinOp.mul FloatKind.f32 s (y k)), fop BinOp.add FloatKind.f32 (fop BinOp.mul FloatKind.f32 s (x k)) (fop BinOp.mul FloatKind.f32 c (y k)), z k]].getD (j - k) []).getD 1 0))         fun j =>         (match decide (j < k) with | true => z j | false => ([[fop BinOp.sub FloatKind.f32 (fop BinOp.mul FloatKind.f32 c (x k)) (fop BinOp.mul FloatKind.f32 s (y k)), fop BinOp.add FloatKind.f32 (fop BinOp.mul FloatKind.f32 s (x k)) (fop BinOp.mul FloatKind.f32 c (y k)), z k]].getD (j - k) []).getD 2 0))),   some (O.var [A.nils, A.bool false, A.flt FloatKind.f32 0])]) 
         else 
           False 
       else 
         False 
     else 
       L (XK.exit 0) ([A.fn 90 [(A.agg [A.flt FloatKind.f32 c]).rop 0, (A.agg [A.flt FloatKind.f32 s]).rop 0], A.ro 3 n (Row.vecs FloatKind.f32 x y z), A.int IntKind.i64 (Int.ofNat n), A.int IntKind.i64 (Int.ofNat k), A.ptr 176 0, A.ptr 16 0, A.bool false]) ([some (O.var [A.sl 272 k, A.bool cl, A.flt FloatKind.f32 cur]), some (O.row 30 3 k (Row.vecs FloatKind.f32 (fun p => spX c s x y p) (fun p => spY c s x y p) z)), some (O.var [A.nils, A.bool false, A.flt FloatKind.f32 0])]) := by kernel_rfl
noncomputable def F95 : List A → List (Option O) → Option R3
  | [.fn 90 [.rop (.agg [.flt .f32 c]) 0, .rop (.agg [.flt .f32 s]) 0], .ro 3 n (.vecs .f32 x y z), .int .i64 l, .int .i64 0, .ptr 176 0, .ptr 16 0, .bool false], [some (.var [.sl 272 0, .bool cl, .flt .f32 cur]), some (.row 30 3 0 g), some (.var [.nils, .bool false, .flt .f32 0])] => some (.ite (decide (l = Int.ofNat n) && Nat.ble n 1000) (.leaf .normal (I95 n cur c s x y z cl (n)) (J95 n cur c s x y z cl (n))) .fail)
  | _, _ => none
theorem loop95 : CodeOK Try.prog (fun _ σ => sumAt Try.f85.ntmps 288 [1, 19, 20, 21, 6, 4, 5] [176, 272, 16] F95 σ) (.block 0 (.loop (loopOf Try.f85 0))) := by
  refine block_ok (own := fun _ => true) (lp := (fun _ => none)) (un := 0) (fuel := 1000) cfgGN_ok (lp_none _) fun az os R hF hok => ?_
  unfold F95 at hF
  split at hF
  · rename_i c s n x y z l cl cur g
    injection hF with hF
    subst hF
    have hg := hok.guard
    have hg' := hg
    simp only [Bool.and_eq_true, Nat.ble_eq, Nat.beq_eq, decide_eq_true_eq] at hg'
    obtain ⟨rfl, hn⟩ := hg'
    refine for_fact (ids := [176, 272, 16]) (fun _ => true) (n) (I95 n cur c s x y z cl) (J95 n cur c s x y z cl) _ (.ret) (I95 n cur c s x y z cl) (I95 n cur c s x y z cl) (I95 n cur c s x y z cl (n)) (J95 n cur c s x y z cl (n)) rfl (by unfold J95; exact ⟨rfl, ⟨30, _, rfl, .inr rfl, fun p hp => absurd hp (by omega)⟩, rfl, trivial⟩) (fun _ => rfl) (fun _ => rfl) (fun _ => ALe.self _) (fun _ => rfl) (ALe.self _) (OSims.self _) rfl (fun h => by cases h) (fun k hk L h1 h2 h3 => ?_) fun L hL => ?_
    · rw [round95]

      by_cases hkm : k < n
      · refine condT (lt_dec hkm) ?_
        rw [wrap_succ (by omega)]
        refine condT (lt_dec hkm) ?_
        refine condT (decide_eq_true (by omega)) ?_
        exact h1 hkm rfl _ ⟨rfl, ⟨30, _, rfl, .inr rfl, fun p hp => vec_at (app3 (u := spX c s x y) rfl hp) (app3 (u := spY c s x y) rfl hp) (app3 (u := z) rfl hp)⟩, rfl, trivial⟩
      · refine condE (ge_dec (by omega)) ?_
        obtain rfl : k = n := by omega
        exact h3 rfl
    · exact ⟨fun _ => hL.1 hg, fun N _ h => by cases h⟩
  · cases hF

noncomputable def N95 : St → T := nilW 176 0 30 3 (sumAt Try.f85.ntmps 288 [1, 19, 20, 21, 6, 4, 5] [176, 272, 16] F95)
theorem loopN95 : CodeOK Try.prog (fun _ σ => N95 σ) (.block 0 (.loop (loopOf Try.f85 0))) := nilW_ok loop95
noncomputable def chgOk (n cur c s : Nat) (x y z : Nat → Nat) : Bool := okW n cur x y z && okW n cur (spX c s x y) (spY c s x y) z
noncomputable def lp95T : List (Nat × (St → T)) := [(0, N95)]
theorem lp95T_ok : LpOK Try.prog (look lp95T) (bodyOf Try.f85) := lp_loops (by kernel_rfl) (by kernel_rfl) fun p hp => by
  simp only [lp95T, List.mem_cons, List.not_mem_nil, or_false] at hp
  rcases hp with rfl
  · exact loopN95
theorem auto95T (n cur : Nat) (x y z : Nat → Nat) (cl : Bool) (c s : Nat) : autoS cfgGN (look lp95T) false Try.f85 [.agg [.ro 3 n (.vecs .f32 x y z), .bool cl, .flt .f32 cur], .fn 90 [.rop (.agg [.flt .f32 c]) 0, .rop (.agg [.flt .f32 s]) 0]] =
    some (n.ble 4611686018427387000 && (!!okW n cur x y z && (decide (Int.ofNat n = Int.ofNat n) && n.ble 1000 && (n.ble 4611686018427387000 && (!!okW n cur (spX c s x y) (spY c s x y) z && true)))), A.tup [A.agg [A.ro 3 n (Row.vecs FloatKind.f32 (fun p => spX c s x y p) (fun p => spY c s x y p) z), A.bool cl, A.flt FloatKind.f32 cur], A.bool true]) := by kernel_rfl
noncomputable def s95T : List A → Option (Bool × A)
  | [.agg [.ro 3 n (.vecs .f32 x y z), .bool cl, .flt .f32 cur], .fn 90 [.rop (.agg [.flt .f32 c]) 0, .rop (.agg [.flt .f32 s]) 0]] => some (chgOk n cur c s x y z, .tup [.agg [.ro 3 n (.vecs .f32 (spX c s x y) (spY c s x y) z), .bool cl, .flt .f32 cur], .bool true])
  | _ => none
theorem s95T_at : EnvAt Try.prog 85 s95T := of_autoS cfgGN_ok lp95T_ok Try.func85 (by kernel_rfl) (by kernel_rfl) fun ds cc rr h hc => by
  unfold s95T at h
  split at h
  · rename_i n x y z cl cur c s
    simp only [Option.some.injEq, Prod.mk.injEq] at h
    obtain ⟨rfl, rfl⟩ := h
    refine auto_fit (auto95T n cur x y z cl c s) ?_ ?_
    · rfl
    · obtain ⟨h1, h2⟩ := (Bool.and_eq_true _ _).mp hc
      have h5 := okW_n h1
      show (n.ble 4611686018427387000 && (!!okW n cur x y z && (decide (Int.ofNat n = Int.ofNat n) && n.ble 1000 && (n.ble 4611686018427387000 && (!!okW n cur (spX c s x y) (spY c s x y) z && true))))) = true
      rw [h1, h2, ble_of (show n ≤ 4611686018427387000 by omega), ble_of (show n ≤ 1000 by omega), decide_eq_true rfl]; rfl
  · cases h

noncomputable def lp95N : List (Nat × (St → T)) := [(0, N95)]
theorem lp95N_ok : LpOK Try.prog (look lp95N) (bodyOf Try.f85) := lp_loops (by kernel_rfl) (by kernel_rfl) fun p hp => by
  simp only [lp95N, List.mem_cons, List.not_mem_nil, or_false] at hp
  rcases hp with rfl
  · exact loopN95
theorem auto95N (n cur : Nat) (x y z : Nat → Nat) (cl : Bool) (c s : Nat) : autoS cfgGN (look lp95N) true Try.f85 [.agg [.ro 3 n (.vecs .f32 x y z), .bool cl, .flt .f32 cur], .fn 90 [.rop (.agg [.flt .f32 c]) 0, .rop (.agg [.flt .f32 s]) 0]] =
    some (n.ble 4611686018427387000 && bif !okW n cur x y z then true else decide (Int.ofNat n = Int.ofNat n) && n.ble 1000 && (n.ble 4611686018427387000 && (!okW n cur (spX c s x y) (spY c s x y) z && true)), A.tup [A.agg [A.nils, A.bool (bif !okW n cur x y z then false else false), A.flt FloatKind.f32 (bif !okW n cur x y z then 0 else 0)], A.bool (bif !okW n cur x y z then false else false)]) := by kernel_rfl
noncomputable def s95N : List A → Option (Bool × A)
  | [.agg [.ro 3 n (.vecs .f32 x y z), .bool cl, .flt .f32 cur], .fn 90 [.rop (.agg [.flt .f32 c]) 0, .rop (.agg [.flt .f32 s]) 0]] => some (Nat.ble n 4611686018427387000 && !chgOk n cur c s x y z, .tup [.agg [.nils, .bool false, .flt .f32 0], .bool false])
  | _ => none
theorem s95N_at : EnvAt Try.prog 85 s95N := of_autoS cfgGN_ok lp95N_ok Try.func85 (by kernel_rfl) (by kernel_rfl) fun ds cc rr h hc => by
  unfold s95N at h
  split at h
  · rename_i n x y z cl cur c s
    simp only [Option.some.injEq, Prod.mk.injEq] at h
    obtain ⟨rfl, rfl⟩ := h
    refine auto_fit (auto95N n cur x y z cl c s) ?_ ?_
    · simp only [Bool.cond_self]
    · simp only [Bool.and_eq_true] at hc
      have hn := hc.1
      have hc := hc.2
      show (n.ble 4611686018427387000 && bif !okW n cur x y z then true else decide (Int.ofNat n = Int.ofNat n) && n.ble 1000 && (n.ble 4611686018427387000 && (!okW n cur (spX c s x y) (spY c s x y) z && true))) = true
      rw [hn]
      cases hA : okW n cur x y z
      · rfl
      · unfold chgOk at hc
        rw [hA] at hc
        have hC : okW n cur (spX c s x y) (spY c s x y) z = false := by simpa using hc
        have h5 := okW_n hA
        rw [hC, ble_of (show n ≤ 1000 by omega), decide_eq_true rfl]; rfl
  · cases h

noncomputable def env40T : List (Nat × (List A → Option (Bool × A))) := (85, s95T) :: env39
theorem env40T_ok : EnvOK Try.prog (look env40T) := (env_cons s95T_at env39_ok)
noncomputable def cfg40T : Cfg := mkCfg tab [] xts (look env40T)
theorem cfg40T_ok : CfgOK Try.prog cfg40T := cfg_ok tab_eq (no_fts _) xts_ok env40T_ok mixed
noncomputable def env40N : List (Nat × (List A → Option (Bool × A))) := (85, s95N) :: env39
theorem env40N_ok : EnvOK Try.prog (look env40N) := (env_cons s95N_at env39_ok)
noncomputable def cfg40N : Cfg := mkCfg tab [] xts (look env40N)
theorem cfg40N_ok : CfgOK Try.prog cfg40N := cfg_ok tab_eq (no_fts _) xts_ok env40N_ok mixed
noncomputable def cfgGT : Cfg := mkCfg (nilTab tab) fts75 xts (look env40T)
theorem cfgGT_ok : CfgOK Try.prog cfgGT := cfgN_ok' tab_eq fts75_ok xts_ok env40T_ok mixed
noncomputable def cfgGNN : Cfg := mkCfg (nilTab tab) fts75 xts (look env40N)
theorem cfgGNN_ok : CfgOK Try.prog cfgGNN := cfgN_ok' tab_eq fts75_ok xts_ok env40N_ok mixed
theorem auto37T (n cur : Nat) (x y z : Nat → Nat) (cl : Bool) (t : Nat) : autoS cfgGT (fun _ => none) false Try.f36 [.agg [.ro 3 n (.vecs .f32 x y z), .bool cl, .flt .f32 cur], .flt .f32 t] =
    some (!!fin t && (chgOk n cur (fcvt FloatKind.f64 FloatKind.f32 (sineW (fcvt FloatKind.f32 FloatKind.f64 (fop BinOp.add FloatKind.f32 t (can FloatKind.f32 1048576000))))) (fcvt FloatKind.f64 FloatKind.f32 (sineW (fcvt FloatKind.f32 FloatKind.f64 t))) x y z && true), A.tup [A.agg [A.ro 3 n (Row.vecs FloatKind.f32 (fun p => spX (fcvt FloatKind.f64 FloatKind.f32 (sineW (fcvt FloatKind.f32 FloatKind.f64 (fop BinOp.add FloatKind.f32 t (can FloatKind.f32 1048576000))))) (fcvt FloatKind.f64 FloatKind.f32 (sineW (fcvt FloatKind.f32 FloatKind.f64 t))) x y p) (fun p => spY (fcvt FloatKind.f64 FloatKind.f32 (sineW (fcvt FloatKind.f32 FloatKind.f64 (fop BinOp.add FloatKind.f32 t (can FloatKind.f32 1048576000))))) (fcvt FloatKind.f64 FloatKind.f32 (sineW (fcvt FloatKind.f32 FloatKind.f64 t))) x y p) z), A.bool cl, A.flt FloatKind.f32 cur], A.bool true]) := by kernel_rfl
noncomputable def s37T : List A → Option (Bool × A)
  | [.agg [.ro 3 n (.vecs .f32 x y z), .bool cl, .flt .f32 cur], .flt .f32 t] => some (spinOk n cur x y z t, .tup [.agg [.ro 3 n (.vecs .f32 (spX (cT t) (sT t) x y) (spY (cT t) (sT t) x y) z), .bool cl, .flt .f32 cur], .bool true])
  | _ => none
theorem s37T_at : EnvAt Try.prog 36 s37T := of_autoS cfgGT_ok (lp_none _) Try.func36 (by kernel_rfl) (by kernel_rfl) fun ds cc rr h hc => by
  unfold s37T at h
  split at h
  · rename_i n x y z cl cur t
    simp only [Option.some.injEq, Prod.mk.injEq] at h
    obtain ⟨rfl, rfl⟩ := h
    refine auto_fit (auto37T n cur x y z cl t) ?_ ?_
    · rfl
    · obtain ⟨h1, h2, h3, h4, h5⟩ := spin_ok hc
      show (!!fin t && (chgOk n cur (cT t) (sT t) x y z && true)) = true
      unfold chgOk
      rw [h1, h2, h3]; rfl
  · cases h

theorem auto37N (n cur : Nat) (x y z : Nat → Nat) (cl : Bool) (t : Nat) : autoS cfgGNN (fun _ => none) true Try.f36 [.agg [.ro 3 n (.vecs .f32 x y z), .bool cl, .flt .f32 cur], .flt .f32 t] =
    some (bif !fin t then true else n.ble 4611686018427387000 && !chgOk n cur (fcvt FloatKind.f64 FloatKind.f32 (sineW (fcvt FloatKind.f32 FloatKind.f64 (fop BinOp.add FloatKind.f32 t (can FloatKind.f32 1048576000))))) (fcvt FloatKind.f64 FloatKind.f32 (sineW (fcvt FloatKind.f32 FloatKind.f64 t))) x y z && true, A.tup [A.agg [A.nils, A.bool (bif !fin t then false else false), A.flt FloatKind.f32 (bif !fin t then 0 else 0)], A.bool (bif !fin t then false else false)]) := by kernel_rfl
noncomputable def s37N : List A → Option (Bool × A)
  | [.agg [.ro 3 n (.vecs .f32 x y z), .bool cl, .flt .f32 cur], .flt .f32 t] => some (Nat.ble n 4611686018427387000 && !spinOk n cur x y z t, .tup [.agg [.nils, .bool false, .flt .f32 0], .bool false])
  | _ => none
theorem s37N_at : EnvAt Try.prog 36 s37N := of_autoS cfgGNN_ok (lp_none _) Try.func36 (by kernel_rfl) (by kernel_rfl) fun ds cc rr h hc => by
  unfold s37N at h
  split at h
  · rename_i n x y z cl cur t
    simp only [Option.some.injEq, Prod.mk.injEq] at h
    obtain ⟨rfl, rfl⟩ := h
    refine auto_fit (auto37N n cur x y z cl t) ?_ ?_
    · simp only [Bool.cond_self]
    · simp only [Bool.and_eq_true] at hc
      have hn := hc.1
      have hc := hc.2
      show (bif !fin t then true else n.ble 4611686018427387000 && !chgOk n cur (cT t) (sT t) x y z && true) = true
      rw [hn]
      unfold spinOk at hc
      unfold chgOk
      revert hc
      cases fin t <;> cases okW n cur x y z <;> cases okW n cur (spX (cT t) (sT t) x y) (spY (cT t) (sT t) x y) z <;> simp
  · cases h

noncomputable def s37F : List A → Option (Bool × A)
  | [.agg [.ro 3 n (.vecs .f32 x y z), .bool _, .flt .f32 cur], .flt .f32 t] => some (Nat.ble n 4611686018427387000 && !spinOk n cur x y z t, .tup [.agg [.emp, .bool false, .flt .f32 0], .bool false])
  | _ => none
theorem s37F_at : EnvAt Try.prog 36 s37F := by
  refine ⟨s37N_at.1, fun ds c r h hc => ?_⟩
  unfold s37F at h
  split at h
  · rename_i n x y z cl cur t
    simp only [Option.some.injEq, Prod.mk.injEq] at h
    obtain ⟨rfl, rfl⟩ := h
    exact (s37N_at.2 [.agg [.ro 3 n (.vecs .f32 x y z), .bool cl, .flt .f32 cur], .flt .f32 t] _ _ rfl hc).emp_of
  · cases h
end Go.Fw.E1

/-
  Wires that are moved: tables.
-/
namespace Go.Fw.E1
open Go.Proofs
theorem auto140 (x y z a b c : Nat) : autoLp cfg35 (fun _ => none) Try.f86 [.agg [.flt .f32 x, .flt .f32 y, .flt .f32 z], .rop (.agg [.flt .f32 a, .flt .f32 b, .flt .f32 c]) 0] =
    some (true, A.agg [A.flt FloatKind.f32 (fop BinOp.add FloatKind.f32 x a), A.flt FloatKind.f32 (fop BinOp.add FloatKind.f32 y b), A.flt FloatKind.f32 (fop BinOp.add FloatKind.f32 z c)]) := by kernel_rfl
noncomputable def s140 : List A → Option (Bool × A)
  | [.agg [.flt .f32 x, .flt .f32 y, .flt .f32 z], .rop (.agg [.flt .f32 a, .flt .f32 b, .flt .f32 c]) 0] => some (true, .agg [.flt .f32 (fop .add .f32 x a), .flt .f32 (fop .add .f32 y b), .flt .f32 (fop .add .f32 z c)])
  | _ => none
theorem s140_at : EnvAt Try.prog 86 s140 := of_auto cfg35_ok (lp_none _) Try.func86 (by kernel_rfl) (by kernel_rfl) fun ds cc rr h hc => by
  unfold s140 at h
  split at h
  · rename_i x y z a b c
    simp only [Option.some.injEq, Prod.mk.injEq] at h
    obtain ⟨rfl, rfl⟩ := h
    refine auto_fit (auto140 x y z a b c) ?_ ?_
    · rfl
    · rfl
  · cases h

noncomputable def env41 : List (Nat × (List A → Option (Bool × A))) := (86, s140) :: env35
theorem env41_ok : EnvOK Try.prog (look env41) := (env_cons s140_at env35_ok)
noncomputable def cfg41 : Cfg := mkCfg tab [] xts (look env41)
theorem cfg41_ok : CfgOK Try.prog cfg41 := cfg_ok tab_eq (no_fts _) xts_ok env41_ok mixed
noncomputable def cfgMN : Cfg := mkCfg (nilTab tab) fts75 xts (look env41)
theorem cfgMN_ok : CfgOK Try.prog cfgMN := cfgN_ok' tab_eq fts75_ok xts_ok env41_ok mixed
end Go.Fw.E1

/-
  Wires that are moved.
-/
namespace Go.Fw.E1
open Go.Proofs
noncomputable def adX (a : Nat) (x : Nat → Nat) (p : Nat) : Nat := fop .add .f32 (x p) a
theorem adX_at {a k v : Nat} {x : Nat → Nat} (h : v = fop .add .f32 (x k) a) : v = adX a x k := h
noncomputable def I120 (n cur a b c : Nat) (x y z : Nat → Nat) (cl : Bool) (k : Nat) : List A := [.ptr 112 0, .int .i64 (Int.ofNat k), .ptr 16 0, .ptr 32 0, .bool false]
noncomputable def J120 (n cur a b c : Nat) (x y z : Nat → Nat) (cl : Bool) (k : Nat) : List O := [.var [.sl 240 n, .bool cl, .flt .f32 cur], .row 30 3 n (.vecs .f32 (upto k (adX a x) x) (upto k (adX b y) y) (upto k (adX c z) z)), .var [.flt .f32 a, .flt .f32 b, .flt .f32 c], .var [.nils, .bool false, .flt .f32 0]]
noncomputable def F120 : List A → List (Option O) → Option R3
  | [.ptr 112 0, .int .i64 0, .ptr 16 0, .ptr 32 0, .bool false], [some (.var [.sl 240 n, .bool cl, .flt .f32 cur]), some (.row 30 3 n2 (.vecs .f32 x y z)), some (.var [.flt .f32 a, .flt .f32 b, .flt .f32 c]), some (.var [.nils, .bool false, .flt .f32 0])] => some (.ite (Nat.beq n n2 && Nat.ble n 1073741824) (.leaf .normal (I120 n cur a b c x y z cl (n)) [.var [.sl 240 n, .bool cl, .flt .f32 cur], .row 30 3 n (.vecs .f32 (adX a x) (adX b y) (adX c z)), .var [.flt .f32 a, .flt .f32 b, .flt .f32 c], .var [.nils, .bool false, .flt .f32 0]]) .fail)
  | _, _ => none
noncomputable def I95m (n cur a b c : Nat) (x y z : Nat → Nat) (cl : Bool) (k : Nat) : List A := [.fn 86 [.rop (.agg [.flt .f32 a, .flt .f32 b, .flt .f32 c]) 0], .ro 3 n (.vecs .f32 x y z), .int .i64 (Int.ofNat n), .int .i64 (Int.ofNat k), .ptr 176 0, .ptr 16 0, .bool false]
noncomputable def J95m (n cur a b c : Nat) (x y z : Nat → Nat) (cl : Bool) (k : Nat) : List O := [.var [.sl 272 k, .bool cl, .flt .f32 cur], .row 30 3 k (.vecs .f32 (adX a x) (adX b y) (adX c z)), .var [.nils, .bool false, .flt .f32 0]]
theorem round95m (n cur a b c : Nat) (x y z : Nat → Nat) (cl : Bool) (k : Nat) (L : XK → List A → List (Option O) → Prop) :
    ((exec cfgMN (fun _ => true) (fun _ => none) 0 1000 (loopOf Try.f85 0) (litSt Try.f85.ntmps 288 [1, 19, 20, 21, 6, 4, 5] [176, 272, 16] (I95m n cur a b c x y z cl k) (J95m n cur a b c x y z cl k))).rt [1, 19, 20, 21, 6, 4, 5] [176, 272, 16]).Ok L =
    bif decide (Int.ofNat k < Int.ofNat n) then 
       bif decide (Int.ofNat k < Int.ofNat n) then 
         bif decide (k + 1 ≤ 1073741824) then 
           L (XK.normal) ([A.fn 86 [(A.agg [A.flt FloatKind.f32 a, A.flt FloatKind.f32 b, A.flt FloatKind.f32 c]).rop 0], A.ro 3 n (Row.vecs FloatKind.f32 x y z), A.int IntKind.i64 (Int.ofNat n), A.int IntKind.i64 (IntKind.i64.wrap (Int.ofNat k + Int.ofNat 1)), A.ptr 176 0, A.ptr 16 0, A.bool false]) ([some (O.var [A.sl 272 (k + 1), A.bool cl, A.flt FloatKind.f32 cur]),   some     (O.row 30 3 (k + 1)       (Row.vecs FloatKind.f32         (fun j =>           (match decide (j < k) with | true => adX a x j | false => ([[fop BinOp.add FloatKind.f32 (x k) a, fop BinOp.add FloatKind.f32 (y k) b, fop BinOp.add FloatKind.f32 (z k) c]].getD (j - k) []).getD 0 0))         (fun j =>           (match decide (j < k) with | true => adX b y j | false => ([[fop BinOp.add FloatKind.f32 (x k) a, fop BinOp.add FloatKind.f32 (y k) b, fop BinOp.add FloatKind.f32 (z k) c]].getD (j - k) []).getD 1 0))         fun j =>         (match decide (j < k) with | true => adX c z j | false => ([[fop BinOp.add FloatKind.f32 (x k) a, fop BinOp.add FloatKind.f32 (y k) b, fop BinOp.add FloatKind.f32 (z k) c]].getD (j - k) []).getD 2 0))),   some (O.var [A.nils, A.bool false, A.flt FloatKind.f32 0])]) 
         else 
           False 
       else 
         False 
     else 
       L (XK.exit 0) ([A.fn 86 [(A.agg [A.flt FloatKind.f32 a, A.flt FloatKind.f32 b, A.flt FloatKind.f32 c]).rop 0], A.ro 3 n (Row.vecs FloatKind.f32 x y z), A.int IntKind.i64 (Int.ofNat n), A.int IntKind.i64 (Int.ofNat k), A.ptr 176 0, A.ptr 16 0, A.bool false]) ([some (O.var [A.sl 272 k, A.bool cl, A.flt FloatKind.f32 cur]), some (O.row 30 3 k (Row.vecs FloatKind.f32 (fun p => adX a x p) (fun p => adX b y p) fun p => adX c z p)), some (O.var [A.nils, A.bool false, A.flt FloatKind.f32 0])]) := by kernel_rfl
noncomputable def F95m : List A → List (Option O) → Option R3
  | [.fn 86 [.rop (.agg [.flt .f32 a, .flt .f32 b, .flt .f32 c]) 0], .ro 3 n (.vecs .f32 x y z), .int .i64 l, .int .i64 0, .ptr 176 0, .ptr 16 0, .bool false], [some (.var [.sl 272 0, .bool cl, .flt .f32 cur]), some (.row 30 3 0 g), some (.var [.nils, .bool false, .flt .f32 0])] => some (.ite (decide (l = Int.ofNat n) && Nat.ble n 1000) (.leaf .normal (I95m n cur a b c x y z cl (n)) (J95m n cur a b c x y z cl (n))) .fail)
  | _, _ => none
theorem loop95m : CodeOK Try.prog (fun _ σ => sumAt Try.f85.ntmps 288 [1, 19, 20, 21, 6, 4, 5] [176, 272, 16] F95m σ) (.block 0 (.loop (loopOf Try.f85 0))) := by
  refine block_ok (own := fun _ => true) (lp := (fun _ => none)) (un := 0) (fuel := 1000) cfgMN_ok (lp_none _) fun az os R hF hok => ?_
  unfold F95m at hF
  split at hF
  · rename_i a b c n x y z l cl cur g
    injection hF with hF
    subst hF
    have hg := hok.guard
    have hg' := hg
    simp only [Bool.and_eq_true, Nat.ble_eq, Nat.beq_eq, decide_eq_true_eq] at hg'
    obtain ⟨rfl, hn⟩ := hg'
    refine for_fact (ids := [176, 272, 16]) (fun _ => true) (n) (I95m n cur a b c x y z cl) (J95m n cur a b c x y z cl) _ (.ret) (I95m n cur a b c x y z cl) (I95m n cur a b c x y z cl) (I95m n cur a b c x y z cl (n)) (J95m n cur a b c x y z cl (n)) rfl (by unfold J95m; exact ⟨rfl, ⟨30, _, rfl, .inr rfl, fun p hp => absurd hp (by omega)⟩, rfl, trivial⟩) (fun _ => rfl) (fun _ => rfl) (fun _ => ALe.self _) (fun _ => rfl) (ALe.self _) (OSims.self _) rfl (fun h => by cases h) (fun k hk L h1 h2 h3 => ?_) fun L hL => ?_
    · rw [round95m]

      by_cases hkm : k < n
      · refine condT (lt_dec hkm) ?_
        rw [wrap_succ (by omega)]
        refine condT (lt_dec hkm) ?_
        refine condT (decide_eq_true (by omega)) ?_
        exact h1 hkm rfl _ ⟨rfl, ⟨30, _, rfl, .inr rfl, fun p hp => vec_at (app3 (u := adX a x) rfl hp) (app3 (u := adX b y) rfl hp) (app3 (u := adX c z) rfl hp)⟩, rfl, trivial⟩
      · refine condE (ge_dec (by omega)) ?_
        obtain rfl : k = n := by omega
        exact h3 rfl
    · exact ⟨fun _ => hL.1 hg, fun N _ h => by cases h⟩
  · cases hF

noncomputable def N95m : St → T := nilW 176 0 30 3 (sumAt Try.f85.ntmps 288 [1, 19, 20, 21, 6, 4, 5] [176, 272, 16] F95m)
theorem loopN95m : CodeOK Try.prog (fun _ σ => N95m σ) (.block 0 (.loop (loopOf Try.f85 0))) := nilW_ok loop95m
noncomputable def movOk (n cur a b c : Nat) (x y z : Nat → Nat) : Bool := okW n cur x y z && okW n cur (adX a x) (adX b y) (adX c z)
theorem mov_ok {n cur a b c : Nat} {x y z : Nat → Nat} (h : movOk n cur a b c x y z = true) : okW n cur x y z = true ∧ okW n cur (adX a x) (adX b y) (adX c z) = true ∧ 1 ≤ n ∧ n ≤ 1000 := by
  unfold movOk at h
  simp only [Bool.and_eq_true] at h
  obtain ⟨h1, h2⟩ := h
  exact ⟨h1, h2, by have := okW_n h1; omega, by have := okW_n h1; omega⟩
noncomputable def s120T : List A → Option (Bool × A)
  | [.agg [.ro 3 n (.vecs .f32 x y z), .bool cl, .flt .f32 cur], .agg [.flt .f32 a, .flt .f32 b, .flt .f32 c]] => some (movOk n cur a b c x y z, .tup [.agg [.ro 3 n (.vecs .f32 (adX a x) (adX b y) (adX c z)), .bool cl, .flt .f32 cur], .bool true])
  | _ => none
noncomputable def s120N : List A → Option (Bool × A)
  | [.agg [.ro 3 n (.vecs .f32 x y z), .bool cl, .flt .f32 cur], .agg [.flt .f32 a, .flt .f32 b, .flt .f32 c]] => some (Nat.ble n 4611686018427387000 && !movOk n cur a b c x y z, .tup [.agg [.nils, .bool false, .flt .f32 0], .bool false])
  | _ => none
noncomputable def lp95mT : List (Nat × (St → T)) := [(0, N95m)]
theorem lp95mT_ok : LpOK Try.prog (look lp95mT) (bodyOf Try.f85) := lp_loops (by kernel_rfl) (by kernel_rfl) fun p hp => by
  simp only [lp95mT, List.mem_cons, List.not_mem_nil, or_false] at hp
  rcases hp with rfl
  · exact loopN95m
theorem auto95mT (n cur : Nat) (x y z : Nat → Nat) (cl : Bool) (a b c : Nat) : autoS cfgMN (look lp95mT) false Try.f85 [.agg [.ro 3 n (.vecs .f32 x y z), .bool cl, .flt .f32 cur], .fn 86 [.rop (.agg [.flt .f32 a, .flt .f32 b, .flt .f32 c]) 0]] =
    some (n.ble 4611686018427387000 && (!!okW n cur x y z && (decide (Int.ofNat n = Int.ofNat n) && n.ble 1000 && (n.ble 4611686018427387000 && (!!okW n cur (adX a x) (adX b y) (adX c z) && true)))), A.tup [A.agg [A.ro 3 n (Row.vecs FloatKind.f32 (fun p => adX a x p) (fun p => adX b y p) fun p => adX c z p), A.bool cl, A.flt FloatKind.f32 cur], A.bool true]) := by kernel_rfl
noncomputable def s95mT : List A → Option (Bool × A)
  | [.agg [.ro 3 n (.vecs .f32 x y z), .bool cl, .flt .f32 cur], .fn 86 [.rop (.agg [.flt .f32 a, .flt .f32 b, .flt .f32 c]) 0]] => some (movOk n cur a b c x y z, .tup [.agg [.ro 3 n (.vecs .f32 (adX a x) (adX b y) (adX c z)), .bool cl, .flt .f32 cur], .bool true])
  | _ => none
theorem s95mT_at : EnvAt Try.prog 85 s95mT := of_autoS cfgMN_ok lp95mT_ok Try.func85 (by kernel_rfl) (by kernel_rfl) fun ds cc rr h hc => by
  unfold s95mT at h
  split at h
  · rename_i n x y z cl cur a b c
    simp only [Option.some.injEq, Prod.mk.injEq] at h
    obtain ⟨rfl, rfl⟩ := h
    refine auto_fit (auto95mT n cur x y z cl a b c) ?_ ?_
    · rfl
    · obtain ⟨h1, h2, h3, h4⟩ := mov_ok hc
      rw [h1, h2, ble_of (show n ≤ 4611686018427387000 by omega), ble_of (show n ≤ 1000 by omega), decide_eq_true rfl]; rfl
  · cases h

noncomputable def lp95mN : List (Nat × (St → T)) := [(0, N95m)]
theorem lp95mN_ok : LpOK Try.prog (look lp95mN) (bodyOf Try.f85) := lp_loops (by kernel_rfl) (by kernel_rfl) fun p hp => by
  simp only [lp95mN, List.mem_cons, List.not_mem_nil, or_false] at hp
  rcases hp with rfl
  · exact loopN95m
theorem auto95mN (n cur : Nat) (x y z : Nat → Nat) (cl : Bool) (a b c : Nat) : autoS cfgMN (look lp95mN) true Try.f85 [.agg [.ro 3 n (.vecs .f32 x y z), .bool cl, .flt .f32 cur], .fn 86 [.rop (.agg [.flt .f32 a, .flt .f32 b, .flt .f32 c]) 0]] =
    some (n.ble 4611686018427387000 && bif !okW n cur x y z then true else decide (Int.ofNat n = Int.ofNat n) && n.ble 1000 && (n.ble 4611686018427387000 && (!okW n cur (adX a x) (adX b y) (adX c z) && true)), A.tup [A.agg [A.nils, A.bool (bif !okW n cur x y z then false else false), A.flt FloatKind.f32 (bif !okW n cur x y z then 0 else 0)], A.bool (bif !okW n cur x y z then false else false)]) := by kernel_rfl
noncomputable def s95mN : List A → Option (Bool × A)
  | [.agg [.ro 3 n (.vecs .f32 x y z), .bool cl, .flt .f32 cur], .fn 86 [.rop (.agg [.flt .f32 a, .flt .f32 b, .flt .f32 c]) 0]] => some (Nat.ble n 4611686018427387000 && !movOk n cur a b c x y z, .tup [.agg [.nils, .bool false, .flt .f32 0], .bool false])
  | _ => none
theorem s95mN_at : EnvAt Try.prog 85 s95mN := of_autoS cfgMN_ok lp95mN_ok Try.func85 (by kernel_rfl) (by kernel_rfl) fun ds cc rr h hc => by
  unfold s95mN at h
  split at h
  · rename_i n x y z cl cur a b c
    simp only [Option.some.injEq, Prod.mk.injEq] at h
    obtain ⟨rfl, rfl⟩ := h
    refine auto_fit (auto95mN n cur x y z cl a b c) ?_ ?_
    · simp only [Bool.cond_self]
    · simp only [Bool.and_eq_true] at hc
      have hn := hc.1
      have hc := hc.2
      rw [hn]
      cases hA : okW n cur x y z
      · rfl
      · unfold movOk at hc
        rw [hA] at hc
        have hC : okW n cur (adX a x) (adX b y) (adX c z) = false := by simpa using hc
        have h5 := okW_n hA
        rw [hC, ble_of (show n ≤ 1000 by omega), decide_eq_true rfl]; rfl
  · cases h

noncomputable def env42T : List (Nat × (List A → Option (Bool × A))) := (85, s95mT) :: env41
theorem env42T_ok : EnvOK Try.prog (look env42T) := (env_cons s95mT_at env41_ok)
noncomputable def cfg42T : Cfg := mkCfg tab [] xts (look env42T)
theorem cfg42T_ok : CfgOK Try.prog cfg42T := cfg_ok tab_eq (no_fts _) xts_ok env42T_ok mixed
noncomputable def env42N : List (Nat × (List A → Option (Bool × A))) := (85, s95mN) :: env41
theorem env42N_ok : EnvOK Try.prog (look env42N) := (env_cons s95mN_at env41_ok)
noncomputable def cfg42N : Cfg := mkCfg tab [] xts (look env42N)
theorem cfg42N_ok : CfgOK Try.prog cfg42N := cfg_ok tab_eq (no_fts _) xts_ok env42N_ok mixed
noncomputable def cfgMT : Cfg := mkCfg (nilTab tab) fts75 xts (look env42T)
theorem cfgMT_ok : CfgOK Try.prog cfgMT := cfgN_ok' tab_eq fts75_ok xts_ok env42T_ok mixed
noncomputable def cfgMNN : Cfg := mkCfg (nilTab tab) fts75 xts (look env42N)
theorem cfgMNN_ok : CfgOK Try.prog cfgMNN := cfgN_ok' tab_eq fts75_ok xts_ok env42N_ok mixed
theorem auto122T (n cur : Nat) (x y z : Nat → Nat) (cl : Bool) (a b c : Nat) : autoLp cfgMT (fun _ => none) Try.f33 [.agg [.ro 3 n (.vecs .f32 x y z), .bool cl, .flt .f32 cur], .agg [.flt .f32 a, .flt .f32 b, .flt .f32 c]] =
    some (movOk n cur a b c x y z && true, A.tup [A.agg [A.ro 3 n (Row.vecs FloatKind.f32 (fun p => adX a x p) (fun p => adX b y p) fun p => adX c z p), A.bool cl, A.flt FloatKind.f32 cur], A.bool true]) := by kernel_rfl
noncomputable def s122T : List A → Option (Bool × A)
  | [.agg [.ro 3 n (.vecs .f32 x y z), .bool cl, .flt .f32 cur], .agg [.flt .f32 a, .flt .f32 b, .flt .f32 c]] => some (movOk n cur a b c x y z, .tup [.agg [.ro 3 n (.vecs .f32 (adX a x) (adX b y) (adX c z)), .bool cl, .flt .f32 cur], .bool true])
  | _ => none
theorem s122T_at : EnvAt Try.prog 33 s122T := of_auto cfgMT_ok (lp_none _) Try.func33 (by kernel_rfl) (by kernel_rfl) fun ds cc rr h hc => by
  unfold s122T at h
  split at h
  · rename_i n x y z cl cur a b c
    simp only [Option.some.injEq, Prod.mk.injEq] at h
    obtain ⟨rfl, rfl⟩ := h
    refine auto_fit (auto122T n cur x y z cl a b c) ?_ ?_
    · rfl
    · rw [hc]; rfl
  · cases h

theorem auto122N (n cur : Nat) (x y z : Nat → Nat) (cl : Bool) (a b c : Nat) : autoLp cfgMNN (fun _ => none) Try.f33 [.agg [.ro 3 n (.vecs .f32 x y z), .bool cl, .flt .f32 cur], .agg [.flt .f32 a, .flt .f32 b, .flt .f32 c]] =
    some (n.ble 4611686018427387000 && !movOk n cur a b c x y z && true, A.tup [A.agg [A.nils, A.bool false, A.flt FloatKind.f32 0], A.bool false]) := by kernel_rfl
noncomputable def s122N : List A → Option (Bool × A)
  | [.agg [.ro 3 n (.vecs .f32 x y z), .bool cl, .flt .f32 cur], .agg [.flt .f32 a, .flt .f32 b, .flt .f32 c]] => some (Nat.ble n 4611686018427387000 && !movOk n cur a b c x y z, .tup [.agg [.nils, .bool false, .flt .f32 0], .bool false])
  | _ => none
theorem s122N_at : EnvAt Try.prog 33 s122N := of_auto cfgMNN_ok (lp_none _) Try.func33 (by kernel_rfl) (by kernel_rfl) fun ds cc rr h hc => by
  unfold s122N at h
  split at h
  · rename_i n x y z cl cur a b c
    simp only [Option.some.injEq, Prod.mk.injEq] at h
    obtain ⟨rfl, rfl⟩ := h
    refine auto_fit (auto122N n cur x y z cl a b c) ?_ ?_
    · rfl
    · rw [hc]; rfl
  · cases h

end Go.Fw.E1

/-
  An answer's struct may be forgotten.
-/
namespace Go.Fw.E1
open Go.Proofs
theorem RelS.tup2 {w : World} {S : Nat → Prop} {cv : Nat → Option Value} {v : Value} {a b : A} (h : RelS w S cv v (.tup [a, b])) : ∃ vs : Array Value, v = .tuple vs ∧ vs.size = 2 ∧ RelS w S cv (vs.getD 0 undef) a ∧ RelS w S cv (vs.getD 1 undef) b := by
  cases h with
  | data h => cases h with
    | tup hs h => exact ⟨_, rfl, hs, .data (h 0 (Nat.succ_pos 1)), .data (h 1 (Nat.lt_succ_self 1))⟩
  | tup hs h => exact ⟨_, rfl, hs, h 0 (Nat.succ_pos 1), h 1 (Nat.lt_succ_self 1)⟩
theorem RelS.agg_size {w : World} {S : Nat → Prop} {cv : Nat → Option Value} {v : Value} {cs : List A} (h : RelS w S cv v (.agg cs)) : ∃ vs : Array Value, v = .agg vs ∧ vs.size = cs.length := by
  cases h with
  | data h => cases h with
    | agg hs h => exact ⟨_, rfl, hs⟩
  | agg hs h => exact ⟨_, rfl, hs⟩
theorem RelS.to_bool {w : World} {S : Nat → Prop} {cv : Nat → Option Value} {v : Value} {d : Bool} (h : RelS w S cv v (.bool d)) : v = .bool d := by
  cases h with
  | data h => cases h with
    | bool b => rfl
theorem imps_size : ∀ (i : Nat) (cs : List A), (imps i cs).1.length = cs.length
  | _, [] => rfl
  | i, x :: r => by
    simp only [imps, List.length_cons]
    rw [imps_size]
theorem RelS.agg3 {w : World} {S : Nat → Prop} {cv : Nat → Option Value} {v : Value} {a b c : A} (h : RelS w S cv v (.agg [a, b, c])) : ∃ vs : Array Value, v = .agg vs ∧ vs.size = 3 ∧ RelS w S cv (vs.getD 0 undef) a ∧ RelS w S cv (vs.getD 1 undef) b ∧ RelS w S cv (vs.getD 2 undef) c := by
  cases h with
  | data h => cases h with
    | agg hs h => exact ⟨_, rfl, hs, .data (h 0 (by show 0 < 3; omega)), .data (h 1 (by show 1 < 3; omega)), .data (h 2 (by show 2 < 3; omega))⟩
  | agg hs h => exact ⟨_, rfl, hs, h 0 (by show 0 < 3; omega), h 1 (by show 1 < 3; omega), h 2 (by show 2 < 3; omega)⟩
theorem RelS.to_nils {w : World} {S : Nat → Prop} {cv : Nat → Option Value} {v : Value} (h : RelS w S cv v .nils) : v = .slice none 0 0 := by
  cases h with
  | data h => cases h with
    | nils => rfl
theorem RelS.to_flt {w : World} {S : Nat → Prop} {cv : Nat → Option Value} {v : Value} {k : FloatKind} {n : Nat} (h : RelS w S cv v (.flt k n)) : RelD w S v (.flt k n) := by
  cases h with
  | data h => exact h
theorem flt_any {w w' : World} {S S' : Nat → Prop} {v : Value} {k : FloatKind} {n : Nat} (h : RelD w S v (.flt k n)) : RelD w' S' v (.flt k n) := by
  cases h with
  | flt h => exact .flt h
/-- A struct whose slice is nil may be told as one with an empty row. -/
theorem PostV.row0 {B : Nat} {w' : World} {v : Value} {p d : Bool} {q : Nat} {g : Row A} {T T' : Nat → Prop} (h : PostV B T w' v (.tup [.agg [.nils, .bool p, .flt .f32 q], .bool d])) : PostV B T' w' v (.tup [.agg [.ro 3 0 g, .bool p, .flt .f32 q], .bool d]) := by
  intro base
  obtain ⟨cv, -, -, -, h4⟩ := h base
  obtain ⟨vs, rfl, hs, h5, h6⟩ := RelS.tup2 h4
  obtain ⟨ws, hw, hz, h7, h8, h9⟩ := RelS.agg3 h5
  have hb := RelS.to_bool h6
  have h7' := RelS.to_nils h7
  have h8' := RelS.to_bool h8
  have h9' := RelS.to_flt h9
  let cv' : Nat → Option Value := fun i => match Nat.beq i base with | true => some (.slice none 0 0) | false => none
  have hcv : ∀ id u, cv' id = some u → id = base ∧ u = .slice none 0 0 := by
    intro id u hu
    simp only [cv'] at hu
    split at hu
    · rename_i hb; injection hu with hu; exact ⟨Nat.eq_of_beq_eq_true hb, hu.symm⟩
    · cases hu
  have hcb : cv' base = some (.slice none 0 0) := by
    show (match Nat.beq base base with | true => some (Value.slice none 0 0) | false => none) = _
    rw [Nat.beq_refl]
  refine ⟨cv', fun id u hu => ?_, fun i j u u' b hi _ hbu _ => ?_, fun id o ho => ?_, ?_⟩
  · obtain ⟨rfl, rfl⟩ := hcv id u hu
    exact ⟨Nat.le_refl _, Nat.lt_succ_self _, fun b hb => by cases hb⟩
  · obtain ⟨rfl, rfl⟩ := hcv i u hi
    cases hbu
  · have ho' : look [(base, O.row 0 3 0 g)] id = some o := ho
    simp only [look] at ho'
    split at ho'
    · rename_i hbb
      injection ho' with ho'
      subst ho'
      obtain rfl := Nat.eq_of_beq_eq_true hbb
      exact ⟨.slice none 0 0, 0, [], hcb, ⟨rfl, .inl ⟨rfl, rfl⟩⟩, fun h => absurd rfl h, by omega, fun i hi => absurd hi (by omega), fun i j hi => absurd hi (by omega)⟩
    · cases ho'
  · show RelS _ _ _ _ (.tup [.agg [.sl base 0, .bool p, .flt .f32 q], .bool d])
    refine .tup hs fun i hi => ?_
    match i, hi with
    | 0, _ =>
      show RelS _ _ _ (vs.getD 0 undef) (.agg [.sl base 0, .bool p, .flt .f32 q])
      rw [hw]
      refine .agg hz fun i hi => ?_
      match i, hi with
      | 0, _ =>
        show RelS _ _ _ (ws.getD 0 undef) (.sl base 0)
        rw [h7']
        exact .sl fun u hu => by
          obtain ⟨_, rfl⟩ := hcv base u hu
          exact ⟨rfl, none, 0, rfl⟩
      | 1, _ =>
        show RelS _ _ _ (ws.getD 1 undef) (.bool p)
        rw [h8']
        exact .data (.bool p)
      | 2, _ => exact .data (flt_any h9')
      | i + 3, hi => exact absurd (show i + 3 < 3 from hi) (by omega)
    | 1, _ =>
      show RelS _ _ _ (vs.getD 1 undef) (.bool d)
      rw [hb]
      exact .data (.bool d)
    | i + 2, hi => exact absurd (show i + 2 < 2 from hi) (by omega)
theorem PureCall.row0 {P : Program} {f : Nat} {ds : List A} {p d : Bool} {q : Nat} {g : Row A} (h : PureCall P f ds (.tup [.agg [.nils, .bool p, .flt .f32 q], .bool d])) : PureCall P f ds (.tup [.agg [.ro 3 0 g, .bool p, .flt .f32 q], .bool d]) :=
  fun w vs T hT hs hr => (h w vs T hT hs hr).mono fun _ _ ⟨v, he, hb, hp⟩ => ⟨v, he, hb, PostV.row0 hp⟩
noncomputable def movA (n cur a b c : Nat) (x y z : Nat → Nat) (cl : Bool) : A := .tup [.agg [.ro 3 (bif movOk n cur a b c x y z then n else 0) (.vecs .f32 (adX a x) (adX b y) (adX c z)), .bool (bif movOk n cur a b c x y z then cl else false), .flt .f32 (bif movOk n cur a b c x y z then cur else 0)], .bool (movOk n cur a b c x y z)]
theorem movA_at {f n cur a b c : Nat} {x y z : Nat → Nat} {cl : Bool} {ds : List A} (hT : movOk n cur a b c x y z = true → PureCall Try.prog f ds (.tup [.agg [.ro 3 n (.vecs .f32 (adX a x) (adX b y) (adX c z)), .bool cl, .flt .f32 cur], .bool true]))
    (hF : movOk n cur a b c x y z = false → PureCall Try.prog f ds (.tup [.agg [.nils, .bool false, .flt .f32 0], .bool false])) : PureCall Try.prog f ds (movA n cur a b c x y z cl) := by
  unfold movA
  cases hm : movOk n cur a b c x y z
  · exact PureCall.row0 (hF hm)
  · exact hT hm
noncomputable def s120 : List A → Option (Bool × A)
  | [.agg [.ro 3 n (.vecs .f32 x y z), .bool cl, .flt .f32 cur], .agg [.flt .f32 a, .flt .f32 b, .flt .f32 c]] => some (Nat.ble n 4611686018427387000, .tup [.agg [.ro 3 (bif movOk n cur a b c x y z then n else 0) (.vecs .f32 (adX a x) (adX b y) (adX c z)), .bool (bif movOk n cur a b c x y z then cl else false), .flt .f32 (bif movOk n cur a b c x y z then cur else 0)], .bool (movOk n cur a b c x y z)])
  | _ => none
noncomputable def s122 : List A → Option (Bool × A)
  | [.agg [.ro 3 n (.vecs .f32 x y z), .bool cl, .flt .f32 cur], .agg [.flt .f32 a, .flt .f32 b, .flt .f32 c]] => some (Nat.ble n 4611686018427387000, .tup [.agg [.ro 3 (bif movOk n cur a b c x y z then n else 0) (.vecs .f32 (adX a x) (adX b y) (adX c z)), .bool (bif movOk n cur a b c x y z then cl else false), .flt .f32 (bif movOk n cur a b c x y z then cur else 0)], .bool (movOk n cur a b c x y z)])
  | _ => none
theorem s122_at : EnvAt Try.prog 33 s122 := by
  refine ⟨s122T_at.1, fun ds cc r h hc => ?_⟩
  unfold s122 at h
  split at h
  · rename_i n x y z cl cur a b c
    simp only [Option.some.injEq, Prod.mk.injEq] at h
    obtain ⟨rfl, rfl⟩ := h
    exact movA_at (fun hm => s122T_at.2 [.agg [.ro 3 n (.vecs .f32 x y z), .bool cl, .flt .f32 cur], .agg [.flt .f32 a, .flt .f32 b, .flt .f32 c]] _ _ rfl hm) (fun hm => s122N_at.2 [.agg [.ro 3 n (.vecs .f32 x y z), .bool cl, .flt .f32 cur], .agg [.flt .f32 a, .flt .f32 b, .flt .f32 c]] _ _ rfl (by rw [hc, hm]; rfl))
  · cases h
noncomputable def env43 : List (Nat × (List A → Option (Bool × A))) := (33, s122) :: env35
theorem env43_ok : EnvOK Try.prog (look env43) := (env_cons s122_at env35_ok)
noncomputable def cfg43 : Cfg := mkCfg tab [] xts (look env43)
theorem cfg43_ok : CfgOK Try.prog cfg43 := cfg_ok tab_eq (no_fts _) xts_ok env43_ok mixed
end Go.Fw.E1

/-
  Fields of lists of wires: contracts.
-/
namespace Go.Fw.E1
open Go.Proofs
noncomputable def flOk (m : Nat) (n : Nat → Nat) (x y z : Nat → Nat → Nat) (cl : Nat → Bool) (cur : Nat → Nat) (p q r : Nat) : Bool := areW m n x y z cur && vfin p q r && fOkA m n x y z cl cur p q r
noncomputable def s52 : List A → Option (Bool × A)
  | [.ro 3 m (.wires n x y z cl cur), .agg [.flt .f32 p, .flt .f32 q, .flt .f32 r]] => some (Nat.ble m 1048576 && allUpTo (shortW n) m, .tup [.agg [.flt .f32 (bif flOk m n x y z cl cur p q r then faX n x y z cl cur p q r 0 m else 0), .flt .f32 (bif flOk m n x y z cl cur p q r then faY n x y z cl cur p q r 0 m else 0), .flt .f32 (bif flOk m n x y z cl cur p q r then faZ n x y z cl cur p q r 0 m else 0)], .bool (flOk m n x y z cl cur p q r)])
  | _ => none
theorem auto54 (m : Nat) (n : Nat → Nat) (x y z : Nat → Nat → Nat) (cl : Nat → Bool) (cur : Nat → Nat) (p q r : Nat) : autoLp cfg29 (fun _ => none) Try.f15 [.ro 3 m (.wires n x y z cl cur), .agg [.flt .f32 p, .flt .f32 q, .flt .f32 r]] =
    some (m.ble 1048576 && allUpTo (shortW n) m && bif !areW m n x y z cur then true else m.ble 1048576 && allUpTo (smallW n) m && bif !bif vfin p q r then fOkA m n x y z cl cur p q r else false then true else true, A.tup [A.agg [A.flt FloatKind.f32 (bif !areW m n x y z cur then 0 else bif !bif vfin p q r then fOkA m n x y z cl cur p q r else false then 0 else faX n x y z cl cur p q r 0 m), A.flt FloatKind.f32 (bif !areW m n x y z cur then 0 else bif !bif vfin p q r then fOkA m n x y z cl cur p q r else false then 0 else faY n x y z cl cur p q r 0 m), A.flt FloatKind.f32 (bif !areW m n x y z cur then 0 else bif !bif vfin p q r then fOkA m n x y z cl cur p q r else false then 0 else faZ n x y z cl cur p q r 0 m)], A.bool (bif !areW m n x y z cur then false else bif !bif vfin p q r then fOkA m n x y z cl cur p q r else false then false else true)]) := by kernel_rfl
noncomputable def s54 : List A → Option (Bool × A)
  | [.ro 3 m (.wires n x y z cl cur), .agg [.flt .f32 p, .flt .f32 q, .flt .f32 r]] => some (Nat.ble m 1048576 && allUpTo (shortW n) m, .tup [.agg [.flt .f32 (bif flOk m n x y z cl cur p q r then faX n x y z cl cur p q r 0 m else 0), .flt .f32 (bif flOk m n x y z cl cur p q r then faY n x y z cl cur p q r 0 m else 0), .flt .f32 (bif flOk m n x y z cl cur p q r then faZ n x y z cl cur p q r 0 m else 0)], .bool (flOk m n x y z cl cur p q r)])
  | _ => none
theorem s54_at : EnvAt Try.prog 15 s54 := of_auto cfg29_ok (lp_none _) Try.func15 (by kernel_rfl) (by kernel_rfl) fun ds cc rr h hc => by
  unfold s54 at h
  split at h
  · rename_i m n x y z cl cur p q r
    simp only [Option.some.injEq, Prod.mk.injEq] at h
    obtain ⟨rfl, rfl⟩ := h
    refine auto_fit (auto54 m n x y z cl cur p q r) ?_ ?_
    · unfold flOk fOkA
      cases areW m n x y z cur
      · rfl
      · cases vfin p q r
        · rfl
        · simp only [cond_true, Bool.true_and, Bool.not_true, cond_false] <;>
          cases vfin (faX n x y z cl cur p q r 0 m) (faY n x y z cl cur p q r 0 m) (faZ n x y z cl cur p q r 0 m) <;> rfl
    · rw [hc]
      simp only [Bool.and_eq_true] at hc
      cases hA : areW m n x y z cur
      · rfl
      · rw [hc.1, (areW_ok hA).2]
        cases vfin p q r
        · rfl
        · first | rfl | (cases fOkA m n x y z cl cur p q r <;> rfl)
  · cases h

end Go.Fw.E1

/-
  Rings as wires, pairs of rings: contracts.
-/
namespace Go.Fw.E1
open Go.Proofs
noncomputable def ftsI : List (Nat × Func) := [(75, Try.f75)]
theorem ftsI_ok (f : Nat) (fn : Func) (h : (f, fn) ∈ ftsI) : Try.prog.funcs[f]? = some fn ∧ (fn.name == "runtime.NumGoroutine") = false := by
  simp only [ftsI, List.mem_cons, Prod.mk.injEq, List.not_mem_nil, or_false] at h
  obtain ⟨rfl, rfl⟩ := h
  exact ⟨Try.func75, by kernel_rfl⟩
noncomputable def cfgGI : Cfg := mkCfg (nilTab tab) ftsI xts (look env35)
theorem cfgGI_ok : CfgOK Try.prog cfgGI := cfgN_ok' tab_eq ftsI_ok xts_ok env35_ok mixed
noncomputable def lp20T : List (Nat × (St → T)) := [(0, N31)]
theorem lp20T_ok : LpOK Try.prog (look lp20T) (bodyOf Try.f20) := lp_loops (by kernel_rfl) (by kernel_rfl) fun p hp => by
  simp only [lp20T, List.mem_cons, List.not_mem_nil, or_false] at hp
  rcases hp with rfl
  · exact loopN31
theorem auto20T (n : Int) (r h c : Nat) : autoS cfgGI (look lp20T) false Try.f20 [.int .i64 n, .flt .f32 r, .flt .f32 h, .flt .f32 c] =
    some ((!bif bif !inI n (Int.ofNat 3) (Int.ofNat 48) then true else !above r then true else !fin h) && (decide (n = n) && decide (n ≤ 1000) && (n.toNat.ble 4611686018427387000 && ((!!okW n.toNat c (ringX n r) (ringY n r) fun x => h) && true))), A.tup [A.agg [A.ro 3 n.toNat (Row.vecs FloatKind.f32 (fun i => ringX n r i) (fun i => ringY n r i) fun x => h), A.bool true, A.flt FloatKind.f32 c], A.bool true]) := by kernel_rfl
noncomputable def s20T : List A → Option (Bool × A)
  | [.int .i64 n, .flt .f32 r, .flt .f32 h, .flt .f32 c] => some (ringOk n r h c, .tup [.agg [.ro 3 n.toNat (.vecs .f32 (ringX n r) (ringY n r) (fun _ => h)), .bool true, .flt .f32 c], .bool true])
  | _ => none
theorem s20T_at : EnvAt Try.prog 20 s20T := of_autoS cfgGI_ok lp20T_ok Try.func20 (by kernel_rfl) (by kernel_rfl) fun ds cc rr h hc => by
  unfold s20T at h
  split at h
  · rename_i n r h c
    simp only [Option.some.injEq, Prod.mk.injEq] at h
    obtain ⟨rfl, rfl⟩ := h
    refine auto_fit (auto20T n r h c) ?_ ?_
    · rfl
    · obtain ⟨h1, h2, h3, h4, h5⟩ := ring_ok hc
      have h1' : inI n (Int.ofNat 3) (Int.ofNat 48) = true := h1
      rw [h1', h2, h3, okW_fin h3, decide_eq_true (show n ≤ 1000 by omega), decide_eq_true rfl, ble_of (show n.toNat ≤ 4611686018427387000 by omega)]; rfl
  · cases h

noncomputable def envA1 : List (Nat × (List A → Option (Bool × A))) := (20, s20T) :: env35
theorem envA1_ok : EnvOK Try.prog (look envA1) := env_cons s20T_at env35_ok
noncomputable def cfgA1 : Cfg := mkCfg tab [] xts (look envA1)
theorem cfgA1_ok : CfgOK Try.prog cfgA1 := cfg_ok tab_eq (no_fts _) xts_ok envA1_ok mixed
theorem auto12 (n : Int) (r g c : Nat) : autoO cfgA1 (fun d => Nat.beq d 45) 0 (fun _ => none) false Try.f12 [.int .i64 n, .flt .f32 r, .flt .f32 g, .flt .f32 c] =
    some (ringOk n r (fop BinOp.mul FloatKind.f32 (can FloatKind.f32 1056964608) g) c && (ringOk n r (fop BinOp.mul FloatKind.f32 (can FloatKind.f32 3204448256) g) c && (!!above g && true)), A.tup [A.ro 3 2 (Row.wires (fun i => [n.toNat, n.toNat].getD i 0) (fun i => [ringX n r, ringX n r].getD i fun x => 0) (fun i => [ringY n r, ringY n r].getD i fun x => 0) (fun i => [fun x => fop BinOp.mul FloatKind.f32 (can FloatKind.f32 1056964608) g, fun x => fop BinOp.mul FloatKind.f32 (can FloatKind.f32 3204448256) g].getD i fun x => 0) (fun i => [true, true].getD i false) fun i => [c, c].getD i 0), A.bool true]) := by kernel_rfl
noncomputable def hlf (g : Nat) : Nat := fop .mul .f32 (can .f32 1056964608) g
noncomputable def nhlf (g : Nat) : Nat := fop .mul .f32 (can .f32 3204448256) g
noncomputable def pairOk (n : Int) (r g c : Nat) : Bool := ringOk n r (hlf g) c && ringOk n r (nhlf g) c && above g
noncomputable def pairZ (g i : Nat) : Nat := match i with | 0 => hlf g | _ + 1 => nhlf g
noncomputable def s12 : List A → Option (Bool × A)
  | [.int .i64 n, .flt .f32 r, .flt .f32 g, .flt .f32 c] => some (pairOk n r g c, .tup [.ro 3 2 (.wires (fun _ => n.toNat) (fun _ => ringX n r) (fun _ => ringY n r) (fun i _ => pairZ g i) (fun _ => true) (fun _ => c)), .bool true])
  | _ => none
theorem s12_at : EnvAt Try.prog 12 s12 := by
  refine ⟨⟨Try.f12, Try.func12, by kernel_rfl, by kernel_rfl⟩, fun ds cc rr h hc => ?_⟩
  unfold s12 at h
  split at h
  · rename_i n r g c
    simp only [Option.some.injEq, Prod.mk.injEq] at h
    obtain ⟨rfl, rfl⟩ := h
    refine (autoO_ok cfgA1_ok Try.func12 (by kernel_rfl) (lp_none _) (auto12 n r g c) ?_).roT_congr ?_
    · unfold pairOk at hc
      simp only [Bool.and_eq_true] at hc
      have h1 : ringOk n r (fop BinOp.mul FloatKind.f32 (can FloatKind.f32 1056964608) g) c = true := hc.1.1
      have h2 : ringOk n r (fop BinOp.mul FloatKind.f32 (can FloatKind.f32 3204448256) g) c = true := hc.1.2
      rw [h1, h2, hc.2]; rfl
    · intro i hi
      match i, hi with
      | 0, _ => rfl
      | 1, _ => rfl
  · cases h
noncomputable def envA2 : List (Nat × (List A → Option (Bool × A))) := (12, s12) :: (15, s54) :: envA1
theorem envA2_ok : EnvOK Try.prog (look envA2) := env_cons s12_at (env_cons s54_at envA1_ok)
noncomputable def cfgA2 : Cfg := mkCfg tab [] xts (look envA2)
theorem cfgA2_ok : CfgOK Try.prog cfgA2 := cfg_ok tab_eq (no_fts _) xts_ok envA2_ok mixed
end Go.Fw.E1

/-
  Lists of wires copied: a contract; fields of all wires: the law.
-/
namespace Go.Fw.E1
open Go.Proofs
noncomputable def s53 : List A → Option (Bool × A)
  | [.ro 3 m (.wires n x y z cl cur)] => some (Nat.ble m 1048576 && allUpTo (shortW n) m, .ro 3 m (.wires n x y z cl cur))
  | _ => none
noncomputable def s51v : List A → Option (Bool × A)
  | [.ro 3 m (.wires n x y z cl cur), .int .i64 left] => some (bif decide (IntKind.i64.wrap (left - Int.ofNat m) < 0) then true else Nat.ble m 4611686018427387000, .int .i64 (szWs left m n))
  | _ => none
noncomputable def env30v : List (Nat × (List A → Option (Bool × A))) := (15, s54) :: env29
theorem env30v_ok : EnvOK Try.prog (look env30v) := (env_cons s54_at env29_ok)
noncomputable def cfg30v : Cfg := mkCfg tab [] xts (look env30v)
theorem cfg30v_ok : CfgOK Try.prog cfg30v := cfg_ok tab_eq (no_fts _) xts_ok env30v_ok mixed
theorem short_of {m : Nat} {n : Nat → Nat} (h : ∀ k, k < m → (n k : Int) ≤ 1048576) : allUpTo (shortW n) m = true := allUpTo_iff.2 fun i hi => by
  unfold shortW
  have := h i hi
  exact ble_of (by omega)
end Go.Fw.E1

/-
  Fluxes: contracts.
-/
namespace Go.Fw.E1
open Go.Proofs
noncomputable def canL (m : Nat) (n : Nat → Nat) (x y z : Nat → Nat → Nat) (cur : Nat → Nat) (th : Nat) (p : Int) : Bool := bif bif areW m n x y z cur then least th else false then inI p 1 8 else false
noncomputable def s119 : List A → Option (Bool × A)
  | [.ro 3 m (.wires n x y z cl cur), .flt .f32 th, .int .i64 p] => some (Nat.ble m 1048576 && allUpTo (shortW n) m, .bool (canL m n x y z cur th p))
  | _ => none
noncomputable def env31v : List (Nat × (List A → Option (Bool × A))) := env30v
theorem env31v_ok : EnvOK Try.prog (look env31v) := env30v_ok
noncomputable def cfg31v : Cfg := mkCfg tab [] xts (look env31v)
theorem cfg31v_ok : CfgOK Try.prog cfg31v := cfg_ok tab_eq (no_fts _) xts_ok env31v_ok mixed
end Go.Fw.E1

/-
  Fluxes: loops.
-/
namespace Go.Fw.E1
open Go.Proofs
noncomputable def fxW (n : Nat → Nat) (x y z : Nat → Nat → Nat) (cl : Nat → Bool) (cur : Nat → Nat) (n2 : Nat) (x2 y2 z2 : Nat → Nat) (cl2 : Bool) (th pp s : Nat) : Nat → Nat
  | 0 => s
  | k + 1 => fop .add .f32 (fxW n x y z cl cur n2 x2 y2 z2 cl2 th pp s k) (fop .mul .f32 (psW n2 x2 y2 z2 cl2 (n k) (x k) (y k) (z k) (cl k) th pp) (cur k))
noncomputable def I55 (m : Nat) (n : Nat → Nat) (x y z : Nat → Nat → Nat) (cl : Nat → Bool) (cur : Nat → Nat) (n2 cur2 : Nat) (x2 y2 z2 : Nat → Nat) (cl2 : Bool) (th pp s : Nat) (k : Nat) : List A := [.ro 3 m (.wires n x y z cl cur), .flt .f32 th, .int .i64 (.ofNat pp), .ptr 0 0, .flt .f32 (fxW n x y z cl cur n2 x2 y2 z2 cl2 th pp s k), .int .i64 (Int.ofNat k)]
noncomputable def J55 (m : Nat) (n : Nat → Nat) (x y z : Nat → Nat → Nat) (cl : Nat → Bool) (cur : Nat → Nat) (n2 cur2 : Nat) (x2 y2 z2 : Nat → Nat) (cl2 : Bool) (th pp s : Nat) (k : Nat) : List O := [.var [.ro 3 n2 (.vecs .f32 x2 y2 z2), .bool cl2, .flt .f32 cur2]]
noncomputable def F55 : List A → List (Option O) → Option R3
  | [.ro 3 m (.wires n x y z cl cur), .flt .f32 th, .int .i64 (.ofNat pp), .ptr 0 0, .flt .f32 s, .int .i64 0], [some (.var [.ro 3 n2 (.vecs .f32 x2 y2 z2), .bool cl2, .flt .f32 cur2])] => some (.ite (Nat.ble m 1048576 && allUpTo (smallW n) m && (Nat.ble 1 n2 && Nat.ble n2 1000) && Nat.ble pp 32) (.leaf .normal (I55 m n x y z cl cur n2 cur2 x2 y2 z2 cl2 th pp s (m)) (J55 m n x y z cl cur n2 cur2 x2 y2 z2 cl2 th pp s (m))) .fail)
  | _, _ => none
noncomputable def I56 (m : Nat) (n : Nat → Nat) (x y z : Nat → Nat → Nat) (cl : Nat → Bool) (cur : Nat → Nat) (n2 cur2 : Nat) (x2 y2 z2 : Nat → Nat) (cl2 : Bool) (th pp s : Nat) (k : Nat) : List A := [.ro 3 m (.wires n x y z cl cur), .int .i64 (Int.ofNat m), .flt .f32 th, .int .i64 (.ofNat pp), .ptr 0 0, .flt .f32 (fxW n x y z cl cur n2 x2 y2 z2 cl2 th pp s k), .int .i64 (Int.ofNat k)]
noncomputable def J56 (m : Nat) (n : Nat → Nat) (x y z : Nat → Nat → Nat) (cl : Nat → Bool) (cur : Nat → Nat) (n2 cur2 : Nat) (x2 y2 z2 : Nat → Nat) (cl2 : Bool) (th pp s : Nat) (k : Nat) : List O := [.var [.ro 3 n2 (.vecs .f32 x2 y2 z2), .bool cl2, .flt .f32 cur2]]
theorem round56 (m : Nat) (n : Nat → Nat) (x y z : Nat → Nat → Nat) (cl : Nat → Bool) (cur : Nat → Nat) (n2 cur2 : Nat) (x2 y2 z2 : Nat → Nat) (cl2 : Bool) (th pp s : Nat) (k : Nat) (L : XK → List A → List (Option O) → Prop) :
    ((exec cfg31v (fun _ => true) (fun _ => none) 0 1000 (loopOf Try.f61 0) (litSt Try.f61.ntmps 400 [31, 32, 2, 3, 5, 10, 33] [0] (I56 m n x y z cl cur n2 cur2 x2 y2 z2 cl2 th pp s k) (J56 m n x y z cl cur n2 cur2 x2 y2 z2 cl2 th pp s k))).rt [31, 32, 2, 3, 5, 10, 33] [0]).Ok L =
    bif decide (Int.ofNat k < Int.ofNat m) then
      bif decide (Int.ofNat k < Int.ofNat m) then
        bif Nat.ble 1 n2 && n2.ble 1000 && Nat.ble 1 (n k) && (n k).ble 1000 && pp.ble 32 && true then
          L (XK.normal) ([A.ro 3 m (Row.wires n x y z cl cur), A.int IntKind.i64 (Int.ofNat m), A.flt FloatKind.f32 th, A.int IntKind.i64 (Int.ofNat pp), A.ptr 0 0, A.flt FloatKind.f32 (fop BinOp.add FloatKind.f32 (fxW n x y z cl cur n2 x2 y2 z2 cl2 th pp s k) (fop BinOp.mul FloatKind.f32 (psW n2 x2 y2 z2 cl2 (n k) (x (Int.ofNat k).toNat) (y (Int.ofNat k).toNat) (z (Int.ofNat k).toNat) (cl k) th pp) (cur k))), A.int IntKind.i64 (IntKind.i64.wrap (Int.ofNat k + Int.ofNat 1))]) ([some (O.var [A.ro 3 n2 (Row.vecs FloatKind.f32 x2 y2 z2), A.bool cl2, A.flt FloatKind.f32 cur2])])
        else
          False
      else
        False
    else
      L (XK.exit 0) ([A.ro 3 m (Row.wires n x y z cl cur), A.int IntKind.i64 (Int.ofNat m), A.flt FloatKind.f32 th, A.int IntKind.i64 (Int.ofNat pp), A.ptr 0 0, A.flt FloatKind.f32 (fxW n x y z cl cur n2 x2 y2 z2 cl2 th pp s k), A.int IntKind.i64 (Int.ofNat k)]) ([some (O.var [A.ro 3 n2 (Row.vecs FloatKind.f32 x2 y2 z2), A.bool cl2, A.flt FloatKind.f32 cur2])]) := by kernel_rfl
noncomputable def F56 : List A → List (Option O) → Option R3
  | [.ro 3 m (.wires n x y z cl cur), .int .i64 l, .flt .f32 th, .int .i64 (.ofNat pp), .ptr 0 0, .flt .f32 s, .int .i64 0], [some (.var [.ro 3 n2 (.vecs .f32 x2 y2 z2), .bool cl2, .flt .f32 cur2])] => some (.ite (decide (l = Int.ofNat m) && Nat.ble m 1048576 && allUpTo (smallW n) m && (Nat.ble 1 n2 && Nat.ble n2 1000) && Nat.ble pp 32) (.leaf .normal (I56 m n x y z cl cur n2 cur2 x2 y2 z2 cl2 th pp s (m)) (J56 m n x y z cl cur n2 cur2 x2 y2 z2 cl2 th pp s (m))) .fail)
  | _, _ => none
theorem loop56 : CodeOK Try.prog (fun _ σ => sumAt Try.f61.ntmps 400 [31, 32, 2, 3, 5, 10, 33] [0] F56 σ) (.block 0 (.loop (loopOf Try.f61 0))) := by
  refine block_ok (own := fun _ => true) (lp := (fun _ => none)) (un := 0) (fuel := 1000) cfg31v_ok (lp_none _) fun az os R hF hok => ?_
  unfold F56 at hF
  split at hF
  · rename_i m n x y z cl cur l th pp s n2 x2 y2 z2 cl2 cur2
    injection hF with hF
    subst hF
    have hg := hok.guard
    have hg' := hg
    simp only [Bool.and_eq_true, Nat.ble_eq, Nat.beq_eq, decide_eq_true_eq] at hg'
    obtain ⟨⟨⟨⟨rfl, hm⟩, hsm⟩, h1n, h2n⟩, hpp⟩ := hg'
    refine for_fact (ids := [0]) (fun _ => true) (m) (I56 m n x y z cl cur n2 cur2 x2 y2 z2 cl2 th pp s) (J56 m n x y z cl cur n2 cur2 x2 y2 z2 cl2 th pp s) _ (.ret) (I56 m n x y z cl cur n2 cur2 x2 y2 z2 cl2 th pp s) (I56 m n x y z cl cur n2 cur2 x2 y2 z2 cl2 th pp s) (I56 m n x y z cl cur n2 cur2 x2 y2 z2 cl2 th pp s (m)) (J56 m n x y z cl cur n2 cur2 x2 y2 z2 cl2 th pp s (m)) rfl (OSims.self _) (fun _ => rfl) (fun _ => rfl) (fun _ => ALe.self _) (fun _ => rfl) (ALe.self _) (OSims.self _) rfl (fun h => by cases h) (fun k hk L h1 h2 h3 => ?_) fun L hL => ?_
    · rw [round56]

      by_cases hkm : k < m
      · refine condT (lt_dec hkm) ?_
        obtain ⟨k1, k2⟩ := smallW_ok (W.at_ok hsm hkm)
        rw [wrap_succ (by omega)]
        refine condT (lt_dec hkm) ?_
        refine condT (by rw [ble_of h1n, ble_of h2n, ble_of k1, ble_of k2, ble_of hpp]; rfl) ?_
        exact h1 hkm rfl _ (OSims.self (J56 m n x y z cl cur n2 cur2 x2 y2 z2 cl2 th pp s (k + 1)))
      · refine condE (ge_dec (by omega)) ?_
        obtain rfl : k = m := by omega
        exact h3 rfl
    · exact ⟨fun _ => hL.1 hg, fun N _ h => by cases h⟩
  · cases hF

noncomputable def flxOk (m : Nat) (n : Nat → Nat) (x y z : Nat → Nat → Nat) (cl : Nat → Bool) (cur : Nat → Nat) (n2 cur2 : Nat) (x2 y2 z2 : Nat → Nat) (cl2 : Bool) (th pp : Nat) : Bool := canL m n x y z cur th (Int.ofNat pp) && okW n2 cur2 x2 y2 z2
end Go.Fw.E1

/-
  Fluxes: contracts of the reference and the program.
-/
namespace Go.Fw.E1
open Go.Proofs
theorem canL_ok {m : Nat} {n : Nat → Nat} {x y z : Nat → Nat → Nat} {cur : Nat → Nat} {th : Nat} {p : Int} (h : canL m n x y z cur th p = true) : areW m n x y z cur = true ∧ least th = true ∧ inI p 1 8 = true := by
  unfold canL at h
  revert h
  cases areW m n x y z cur <;> cases least th <;> cases inI p 1 8 <;> simp
theorem inI8 {pp : Nat} (h : inI (Int.ofNat pp) 1 8 = true) : pp ≤ 32 := by
  unfold inI at h
  cases h1 : decide (Int.ofNat pp ≥ 1)
  · rw [h1] at h; cases h
  · rw [h1] at h
    have := of_decide_eq_true h
    simp at this
    omega
theorem inI_neg (pp : Nat) : inI (Int.negSucc pp) 1 8 = false := by
  unfold inI
  rw [decide_eq_false (show ¬ (Int.negSucc pp ≥ 1) by omega)]; rfl
noncomputable def s55a : List A → Option (Bool × A)
  | [.ro 3 m (.wires n x y z cl cur), .agg [.ro 3 n2 (.vecs .f32 x2 y2 z2), .bool cl2, .flt .f32 cur2], .flt .f32 th, .int .i64 (.ofNat pp)] => some (Nat.ble m 1048576 && allUpTo (shortW n) m && Nat.ble n2 1048576, .tup [.flt .f32 (bif flxOk m n x y z cl cur n2 cur2 x2 y2 z2 cl2 th pp && fin (fxW n x y z cl cur n2 x2 y2 z2 cl2 th pp (can .f32 0) m) then fxW n x y z cl cur n2 x2 y2 z2 cl2 th pp (can .f32 0) m else can .f32 0), .bool (flxOk m n x y z cl cur n2 cur2 x2 y2 z2 cl2 th pp && fin (fxW n x y z cl cur n2 x2 y2 z2 cl2 th pp (can .f32 0) m))])
  | _ => none
noncomputable def lp56a : List (Nat × (St → T)) := [(0, sumAt Try.f61.ntmps 400 [31, 32, 2, 3, 5, 10, 33] [0] F56)]
theorem lp56a_ok : LpOK Try.prog (look lp56a) (bodyOf Try.f61) := lp_loops (by kernel_rfl) (by kernel_rfl) fun p hp => by
  simp only [lp56a, List.mem_cons, List.not_mem_nil, or_false] at hp
  rcases hp with rfl
  · exact loop56
theorem auto56a (m : Nat) (n : Nat → Nat) (x y z : Nat → Nat → Nat) (cl : Nat → Bool) (cur : Nat → Nat) (n2 cur2 : Nat) (x2 y2 z2 : Nat → Nat) (cl2 : Bool) (th pp : Nat) : autoLp cfg31v (look lp56a) Try.f61 [.ro 3 m (.wires n x y z cl cur), .agg [.ro 3 n2 (.vecs .f32 x2 y2 z2), .bool cl2, .flt .f32 cur2], .flt .f32 th, .int .i64 (.ofNat pp)] =
    some (m.ble 1048576 && allUpTo (shortW n) m && ((n2.ble 4611686018427387000 || !(!areW m n x y z cur) == false) && bif bif bif bif !areW m n x y z cur then true else !okW n2 cur2 x2 y2 z2 then true else !least th then true else !inI (Int.ofNat pp) (Int.ofNat 1) (Int.ofNat 8) then true else decide (Int.ofNat m = Int.ofNat m) && m.ble 1048576 && allUpTo (smallW n) m && (Nat.ble 1 n2 && n2.ble 1000) && pp.ble 32 && true), A.tup [A.flt FloatKind.f32 (bif bif bif bif !areW m n x y z cur then true else !okW n2 cur2 x2 y2 z2 then true else !least th then true else !inI (Int.ofNat pp) (Int.ofNat 1) (Int.ofNat 8) then can FloatKind.f32 0 else bif fin (fxW n x y z cl cur n2 x2 y2 z2 cl2 th pp (can FloatKind.f32 0) m) then fxW n x y z cl cur n2 x2 y2 z2 cl2 th pp (can FloatKind.f32 0) m else can FloatKind.f32 0), A.bool (bif bif bif bif !areW m n x y z cur then true else !okW n2 cur2 x2 y2 z2 then true else !least th then true else !inI (Int.ofNat pp) (Int.ofNat 1) (Int.ofNat 8) then false else fin (fxW n x y z cl cur n2 x2 y2 z2 cl2 th pp (can FloatKind.f32 0) m))]) := by kernel_rfl
noncomputable def s56a : List A → Option (Bool × A)
  | [.ro 3 m (.wires n x y z cl cur), .agg [.ro 3 n2 (.vecs .f32 x2 y2 z2), .bool cl2, .flt .f32 cur2], .flt .f32 th, .int .i64 (.ofNat pp)] => some (Nat.ble m 1048576 && allUpTo (shortW n) m && Nat.ble n2 1048576, .tup [.flt .f32 (bif flxOk m n x y z cl cur n2 cur2 x2 y2 z2 cl2 th pp && fin (fxW n x y z cl cur n2 x2 y2 z2 cl2 th pp (can .f32 0) m) then fxW n x y z cl cur n2 x2 y2 z2 cl2 th pp (can .f32 0) m else can .f32 0), .bool (flxOk m n x y z cl cur n2 cur2 x2 y2 z2 cl2 th pp && fin (fxW n x y z cl cur n2 x2 y2 z2 cl2 th pp (can .f32 0) m))])
  | _ => none
theorem s56a_at : EnvAt Try.prog 61 s56a := of_auto cfg31v_ok lp56a_ok Try.func61 (by kernel_rfl) (by kernel_rfl) fun ds cc rr h hc => by
  unfold s56a at h
  split at h
  · rename_i m n x y z cl cur n2 x2 y2 z2 cl2 cur2 th pp
    simp only [Option.some.injEq, Prod.mk.injEq] at h
    obtain ⟨rfl, rfl⟩ := h
    refine auto_fit (auto56a m n x y z cl cur n2 cur2 x2 y2 z2 cl2 th pp) ?_ ?_
    · have e : inI (Int.ofNat pp) (Int.ofNat 1) (Int.ofNat 8) = inI (Int.ofNat pp) 1 8 := rfl
      rw [e]
      unfold flxOk canL
      cases areW m n x y z cur <;> cases okW n2 cur2 x2 y2 z2 <;> cases least th <;> cases inI (Int.ofNat pp) 1 8 <;> rfl
    · simp only [Bool.and_eq_true, Nat.ble_eq] at hc
      obtain ⟨⟨hm, hsh⟩, hn2⟩ := hc
      rw [ble_of hm, hsh, ble_of (show n2 ≤ 4611686018427387000 by omega)]
      have e : inI (Int.ofNat pp) (Int.ofNat 1) (Int.ofNat 8) = inI (Int.ofNat pp) 1 8 := rfl
      rw [e]
      cases hA : areW m n x y z cur
      · rfl
      · cases hB : okW n2 cur2 x2 y2 z2
        · rfl
        · cases least th
          · rfl
          · cases hI : inI (Int.ofNat pp) 1 8
            · rfl
            · have k4 := okW_n hB
              rw [(areW_ok hA).2, ble_of (show 1 ≤ n2 by omega), ble_of (show n2 ≤ 1000 by omega), ble_of (inI8 hI), decide_eq_true rfl]; rfl
  · cases h

noncomputable def s55b : List A → Option (Bool × A)
  | [.ro 3 m (.wires n x y z cl cur), .agg [.ro 3 n2 (.vecs .f32 x2 y2 z2), .bool cl2, .flt .f32 cur2], .flt .f32 th, .int .i64 (.negSucc pp)] => some (Nat.ble m 1048576 && allUpTo (shortW n) m && Nat.ble n2 1048576, .tup [.flt .f32 (can .f32 0), .bool false])
  | _ => none
theorem auto56b (m : Nat) (n : Nat → Nat) (x y z : Nat → Nat → Nat) (cl : Nat → Bool) (cur : Nat → Nat) (n2 cur2 : Nat) (x2 y2 z2 : Nat → Nat) (cl2 : Bool) (th pp : Nat) : autoS cfg31v (fun _ => none) true Try.f61 [.ro 3 m (.wires n x y z cl cur), .agg [.ro 3 n2 (.vecs .f32 x2 y2 z2), .bool cl2, .flt .f32 cur2], .flt .f32 th, .int .i64 (.negSucc pp)] =
    some (m.ble 1048576 && allUpTo (shortW n) m && ((n2.ble 4611686018427387000 || !(!areW m n x y z cur) == false) && ((bif bif bif !areW m n x y z cur then true else !okW n2 cur2 x2 y2 z2 then true else !least th then true else !inI (Int.negSucc pp) (Int.ofNat 1) (Int.ofNat 8)) && true)), A.tup [A.flt FloatKind.f32 (can FloatKind.f32 0), A.bool false]) := by kernel_rfl
noncomputable def s56b : List A → Option (Bool × A)
  | [.ro 3 m (.wires n x y z cl cur), .agg [.ro 3 n2 (.vecs .f32 x2 y2 z2), .bool cl2, .flt .f32 cur2], .flt .f32 th, .int .i64 (.negSucc pp)] => some (Nat.ble m 1048576 && allUpTo (shortW n) m && Nat.ble n2 1048576, .tup [.flt .f32 (can .f32 0), .bool false])
  | _ => none
theorem s56b_at : EnvAt Try.prog 61 s56b := of_autoS cfg31v_ok (lp_none _) Try.func61 (by kernel_rfl) (by kernel_rfl) fun ds cc rr h hc => by
  unfold s56b at h
  split at h
  · rename_i m n x y z cl cur n2 x2 y2 z2 cl2 cur2 th pp
    simp only [Option.some.injEq, Prod.mk.injEq] at h
    obtain ⟨rfl, rfl⟩ := h
    refine auto_fit (auto56b m n x y z cl cur n2 cur2 x2 y2 z2 cl2 th pp) ?_ ?_
    · simp only [Bool.cond_self]
    · simp only [Bool.and_eq_true, Nat.ble_eq] at hc
      obtain ⟨⟨hm, hsh⟩, hn2⟩ := hc
      rw [ble_of hm, hsh, ble_of (show n2 ≤ 4611686018427387000 by omega)]
      have e : inI (Int.negSucc pp) (Int.ofNat 1) (Int.ofNat 8) = false := inI_neg pp
      rw [e]
      cases areW m n x y z cur <;> cases okW n2 cur2 x2 y2 z2 <;> cases least th <;> rfl
  · cases h

noncomputable def s55 : List A → Option (Bool × A)
  | [u, v, t, .int .i64 (.ofNat pp)] => s55a [u, v, t, .int .i64 (.ofNat pp)]
  | ds => s55b ds
noncomputable def s56 : List A → Option (Bool × A)
  | [u, v, t, .int .i64 (.ofNat pp)] => s56a [u, v, t, .int .i64 (.ofNat pp)]
  | ds => s56b ds
theorem s56_at : EnvAt Try.prog 61 s56 := by
  refine ⟨s56a_at.1, fun ds c r h hc => ?_⟩
  unfold s56 at h
  split at h
  · exact s56a_at.2 _ _ _ h hc
  · exact s56b_at.2 _ _ _ h hc
noncomputable def env32v : List (Nat × (List A → Option (Bool × A))) := (61, s56) :: env31v
theorem env32v_ok : EnvOK Try.prog (look env32v) := (env_cons s56_at env31v_ok)
noncomputable def cfg32v : Cfg := mkCfg tab [] xts (look env32v)
theorem cfg32v_ok : CfgOK Try.prog cfg32v := cfg_ok tab_eq (no_fts _) xts_ok env32v_ok mixed
end Go.Fw.E1

/-
  Along paths: the inner loops.
-/
namespace Go.Fw.E1
open Go.Proofs
noncomputable def atC (a u pp k : Nat) : Nat := fop .add .f32 a (fop .mul .f32 u (mid k pp))
noncomputable def okP (m : Nat) (n : Nat → Nat) (x y z : Nat → Nat → Nat) (cl : Nat → Bool) (cur : Nat → Nat) (a0 a1 a2 u0 u1 u2 pp k : Nat) : Bool := bif vfin (atC a0 u0 pp k) (atC a1 u1 pp k) (atC a2 u2 pp k) then fOkA m n x y z cl cur (atC a0 u0 pp k) (atC a1 u1 pp k) (atC a2 u2 pp k) else false
noncomputable def innR (m : Nat) (n : Nat → Nat) (x y z : Nat → Nat → Nat) (cl : Nat → Bool) (cur : Nat → Nat) (p q r v0 v1 v2 : Nat) : Nat := inn (faX n x y z cl cur p q r (st0 p q r p) m) (faY n x y z cl cur p q r (st0 p q r q) m) (faZ n x y z cl cur p q r (st0 p q r r) m) v0 v1 v2
noncomputable def innP (m : Nat) (n : Nat → Nat) (x y z : Nat → Nat → Nat) (cl : Nat → Bool) (cur : Nat → Nat) (p q r v0 v1 v2 : Nat) : Nat := inn (faX n x y z cl cur p q r 0 m) (faY n x y z cl cur p q r 0 m) (faZ n x y z cl cur p q r 0 m) v0 v1 v2
noncomputable def awS (m : Nat) (n : Nat → Nat) (x y z : Nat → Nat → Nat) (cl : Nat → Bool) (cur : Nat → Nat) (a0 a1 a2 u0 u1 u2 v0 v1 v2 pp s : Nat) : Nat → Nat
  | 0 => s
  | k + 1 => fop .add .f32 (awS m n x y z cl cur a0 a1 a2 u0 u1 u2 v0 v1 v2 pp s k) (innR m n x y z cl cur (atC a0 u0 pp k) (atC a1 u1 pp k) (atC a2 u2 pp k) v0 v1 v2)
noncomputable def apS (m : Nat) (n : Nat → Nat) (x y z : Nat → Nat → Nat) (cl : Nat → Bool) (cur : Nat → Nat) (a0 a1 a2 u0 u1 u2 v0 v1 v2 pp s : Nat) : Nat → Nat
  | 0 => s
  | k + 1 => fop .add .f32 (apS m n x y z cl cur a0 a1 a2 u0 u1 u2 v0 v1 v2 pp s k) (innP m n x y z cl cur (atC a0 u0 pp k) (atC a1 u1 pp k) (atC a2 u2 pp k) v0 v1 v2)
noncomputable def I59k (m : Nat) (n : Nat → Nat) (x y z : Nat → Nat → Nat) (cl : Nat → Bool) (cur : Nat → Nat) (n2 cur2 : Nat) (x2 y2 z2 : Nat → Nat) (cl2 : Bool) (a0 a1 a2 u0 u1 u2 v0 v1 v2 pp s i : Nat) (k : Nat) : List A := [.ro 3 m (.wires n x y z cl cur), .int .i64 (.ofNat pp), .ptr 400 0, .ptr 512 0, .ptr 624 0, .int .i64 (Int.ofNat k), .flt .f32 (awS m n x y z cl cur a0 a1 a2 u0 u1 u2 v0 v1 v2 pp s k), .int .i64 (.ofNat i), .ptr 0 0]
noncomputable def J59k (m : Nat) (n : Nat → Nat) (x y z : Nat → Nat → Nat) (cl : Nat → Bool) (cur : Nat → Nat) (n2 cur2 : Nat) (x2 y2 z2 : Nat → Nat) (cl2 : Bool) (a0 a1 a2 u0 u1 u2 v0 v1 v2 pp s i : Nat) (k : Nat) : List O := [.var [.flt .f32 a0, .flt .f32 a1, .flt .f32 a2], .var [.flt .f32 u0, .flt .f32 u1, .flt .f32 u2], .var [.flt .f32 v0, .flt .f32 v1, .flt .f32 v2], .var [.ro 3 n2 (.vecs .f32 x2 y2 z2), .bool cl2, .flt .f32 cur2]]
noncomputable def F59k : List A → List (Option O) → Option R3
  | [.ro 3 m (.wires n x y z cl cur), .int .i64 (.ofNat pp), .ptr 400 0, .ptr 512 0, .ptr 624 0, .int .i64 0, .flt .f32 s, .int .i64 (.ofNat i), .ptr 0 0], [some (.var [.flt .f32 a0, .flt .f32 a1, .flt .f32 a2]), some (.var [.flt .f32 u0, .flt .f32 u1, .flt .f32 u2]), some (.var [.flt .f32 v0, .flt .f32 v1, .flt .f32 v2]), some (.var [.ro 3 n2 (.vecs .f32 x2 y2 z2), .bool cl2, .flt .f32 cur2])] => some (.ite (Nat.ble m 1048576 && allUpTo (smallW n) m && Nat.ble pp 32) (.leaf .normal (I59k m n x y z cl cur n2 cur2 x2 y2 z2 cl2 a0 a1 a2 u0 u1 u2 v0 v1 v2 pp s i (pp)) (J59k m n x y z cl cur n2 cur2 x2 y2 z2 cl2 a0 a1 a2 u0 u1 u2 v0 v1 v2 pp s i (pp))) .fail)
  | _, _ => none
noncomputable def I60k (m : Nat) (n : Nat → Nat) (x y z : Nat → Nat → Nat) (cl : Nat → Bool) (cur : Nat → Nat) (gg : Nat → Nat → Nat) (l a b c u v w pp s i e6 : Nat) (k : Nat) : List A := [.ro 3 m (.wires n x y z cl cur), .int .i64 (.ofNat pp), .ptr 384 0, .int .i64 (Int.ofNat pp), .int .i64 (Int.ofNat k), .flt .f32 (apS m n x y z cl cur a b c (fop .sub .f32 u a) (fop .sub .f32 v b) (fop .sub .f32 w c) (fop .mul .f32 (fop .sub .f32 u a) (inv pp)) (fop .mul .f32 (fop .sub .f32 v b) (inv pp)) (fop .mul .f32 (fop .sub .f32 w c) (inv pp)) pp s k), .sl 288 l, .int .i64 (Int.ofNat l), .int .i64 (.ofNat i), .flt .f32 e6, .bool false]
noncomputable def J60k (m : Nat) (n : Nat → Nat) (x y z : Nat → Nat → Nat) (cl : Nat → Bool) (cur : Nat → Nat) (gg : Nat → Nat → Nat) (l a b c u v w pp s i e6 : Nat) (k : Nat) : List O := [.var [.flt .f32 a, .flt .f32 b, .flt .f32 c, .flt .f32 u, .flt .f32 v, .flt .f32 w], .row 0 6 l (.flns .f32 6 gg)]
theorem round60k (m : Nat) (n : Nat → Nat) (x y z : Nat → Nat → Nat) (cl : Nat → Bool) (cur : Nat → Nat) (gg : Nat → Nat → Nat) (l a b c u v w pp s i e6 : Nat) (k : Nat) (L : XK → List A → List (Option O) → Prop) :
    ((exec cfg31v (fun _ => true) (fun _ => none) 0 1000 (loopOf Try.f32 2) (litSt Try.f32.ntmps 448 [0, 2, 10, 34, 35, 8, 28, 29, 30, 6, 7] [384, 288] (I60k m n x y z cl cur gg l a b c u v w pp s i e6 k) (J60k m n x y z cl cur gg l a b c u v w pp s i e6 k))).rt [0, 2, 10, 34, 35, 8, 28, 29, 30, 6, 7] [384, 288]).Ok L =
    bif decide (Int.ofNat k < Int.ofNat pp) then
      bif m.ble 1048576 && allUpTo (smallW n) m then
        bif !bif vfin (pcS a b c u v w pp k 3) (pcS a b c u v w pp k 4) (pcS a b c u v w pp k 5) then fOkA m n x y z cl cur (pcS a b c u v w pp k 3) (pcS a b c u v w pp k 4) (pcS a b c u v w pp k 5) else false then
          L (XK.ret) ([A.ro 3 m (Row.wires n x y z cl cur), A.int IntKind.i64 (Int.ofNat pp), A.ptr 384 0, A.int IntKind.i64 (Int.ofNat pp), A.int IntKind.i64 (Int.ofNat k), A.flt FloatKind.f32 (apS m n x y z cl cur a b c (fop BinOp.sub FloatKind.f32 u a) (fop BinOp.sub FloatKind.f32 v b) (fop BinOp.sub FloatKind.f32 w c) (fop BinOp.mul FloatKind.f32 (fop BinOp.sub FloatKind.f32 u a) (inv pp)) (fop BinOp.mul FloatKind.f32 (fop BinOp.sub FloatKind.f32 v b) (inv pp)) (fop BinOp.mul FloatKind.f32 (fop BinOp.sub FloatKind.f32 w c) (inv pp)) pp s k), A.sl 288 l, A.int IntKind.i64 (Int.ofNat l), A.int IntKind.i64 (Int.ofNat i), A.flt FloatKind.f32 (can FloatKind.f32 0), A.bool false]) ([some (O.var [A.flt FloatKind.f32 a, A.flt FloatKind.f32 b, A.flt FloatKind.f32 c, A.flt FloatKind.f32 u, A.flt FloatKind.f32 v, A.flt FloatKind.f32 w]), some (O.row 0 6 l (Row.flns FloatKind.f32 6 gg))])
        else
          L (XK.normal) ([A.ro 3 m (Row.wires n x y z cl cur), A.int IntKind.i64 (Int.ofNat pp), A.ptr 384 0, A.int IntKind.i64 (Int.ofNat pp), A.int IntKind.i64 (IntKind.i64.wrap (Int.ofNat k + Int.ofNat 1)), A.flt FloatKind.f32 (fop BinOp.add FloatKind.f32 (apS m n x y z cl cur a b c (fop BinOp.sub FloatKind.f32 u a) (fop BinOp.sub FloatKind.f32 v b) (fop BinOp.sub FloatKind.f32 w c) (fop BinOp.mul FloatKind.f32 (fop BinOp.sub FloatKind.f32 u a) (inv pp)) (fop BinOp.mul FloatKind.f32 (fop BinOp.sub FloatKind.f32 v b) (inv pp)) (fop BinOp.mul FloatKind.f32 (fop BinOp.sub FloatKind.f32 w c) (inv pp)) pp s k) (inn (faX n x y z cl cur (pcS a b c u v w pp k 3) (pcS a b c u v w pp k 4) (pcS a b c u v w pp k 5) 0 m) (faY n x y z cl cur (pcS a b c u v w pp k 3) (pcS a b c u v w pp k 4) (pcS a b c u v w pp k 5) 0 m) (faZ n x y z cl cur (pcS a b c u v w pp k 3) (pcS a b c u v w pp k 4) (pcS a b c u v w pp k 5) 0 m) (pcS a b c u v w pp 0 0) (pcS a b c u v w pp 0 1) (pcS a b c u v w pp 0 2))), A.sl 288 l, A.int IntKind.i64 (Int.ofNat l), A.int IntKind.i64 (Int.ofNat i), A.flt FloatKind.f32 e6, A.bool false]) ([some (O.var [A.flt FloatKind.f32 a, A.flt FloatKind.f32 b, A.flt FloatKind.f32 c, A.flt FloatKind.f32 u, A.flt FloatKind.f32 v, A.flt FloatKind.f32 w]), some (O.row 0 6 l (Row.flns FloatKind.f32 6 gg))])
      else
        False
    else
      L (XK.exit 2) ([A.ro 3 m (Row.wires n x y z cl cur), A.int IntKind.i64 (Int.ofNat pp), A.ptr 384 0, A.int IntKind.i64 (Int.ofNat pp), A.int IntKind.i64 (Int.ofNat k), A.flt FloatKind.f32 (apS m n x y z cl cur a b c (fop BinOp.sub FloatKind.f32 u a) (fop BinOp.sub FloatKind.f32 v b) (fop BinOp.sub FloatKind.f32 w c) (fop BinOp.mul FloatKind.f32 (fop BinOp.sub FloatKind.f32 u a) (inv pp)) (fop BinOp.mul FloatKind.f32 (fop BinOp.sub FloatKind.f32 v b) (inv pp)) (fop BinOp.mul FloatKind.f32 (fop BinOp.sub FloatKind.f32 w c) (inv pp)) pp s k), A.sl 288 l, A.int IntKind.i64 (Int.ofNat l), A.int IntKind.i64 (Int.ofNat i), A.flt FloatKind.f32 e6, A.bool false]) ([some (O.var [A.flt FloatKind.f32 a, A.flt FloatKind.f32 b, A.flt FloatKind.f32 c, A.flt FloatKind.f32 u, A.flt FloatKind.f32 v, A.flt FloatKind.f32 w]), some (O.row 0 6 l (Row.flns FloatKind.f32 6 gg))]) := by kernel_rfl
noncomputable def F60k : List A → List (Option O) → Option R3
  | [.ro 3 m (.wires n x y z cl cur), .int .i64 (.ofNat pp), .ptr 384 0, .int .i64 q, .int .i64 0, .flt .f32 s, .sl 288 l, .int .i64 l2, .int .i64 (.ofNat i), .flt .f32 e6, .bool false], [some (.var [.flt .f32 a, .flt .f32 b, .flt .f32 c, .flt .f32 u, .flt .f32 v, .flt .f32 w]), some (.row 0 6 l3 (.flns .f32 6 gg))] => some (.ite (decide (q = Int.ofNat pp) && decide (l2 = Int.ofNat l) && Nat.beq l l3 && Nat.ble m 1048576 && allUpTo (smallW n) m && Nat.ble pp 32) (.ite (allUpTo (okP m n x y z cl cur a b c (fop .sub .f32 u a) (fop .sub .f32 v b) (fop .sub .f32 w c) pp) (pp)) (.leaf .normal (I60k m n x y z cl cur gg l a b c u v w pp s i e6 (pp)) (J60k m n x y z cl cur gg l a b c u v w pp s i e6 (pp))) (.leaf (.ret) ((fun k => [.ro 3 m (.wires n x y z cl cur), .int .i64 (.ofNat pp), .ptr 384 0, .int .i64 (Int.ofNat pp), .int .i64 (Int.ofNat k), .flt .f32 (apS m n x y z cl cur a b c (fop .sub .f32 u a) (fop .sub .f32 v b) (fop .sub .f32 w c) (fop .mul .f32 (fop .sub .f32 u a) (inv pp)) (fop .mul .f32 (fop .sub .f32 v b) (inv pp)) (fop .mul .f32 (fop .sub .f32 w c) (inv pp)) pp s k), .sl 288 l, .int .i64 (Int.ofNat l), .int .i64 (.ofNat i), .flt .f32 (can .f32 0), .bool false]) (firstIdx (okP m n x y z cl cur a b c (fop .sub .f32 u a) (fop .sub .f32 v b) (fop .sub .f32 w c) pp) (pp))) (J60k m n x y z cl cur gg l a b c u v w pp s i e6 (firstIdx (okP m n x y z cl cur a b c (fop .sub .f32 u a) (fop .sub .f32 v b) (fop .sub .f32 w c) pp) (pp))))) .fail)
  | _, _ => none
theorem loop60k : CodeOK Try.prog (fun _ σ => sumAt Try.f32.ntmps 448 [0, 2, 10, 34, 35, 8, 28, 29, 30, 6, 7] [384, 288] F60k σ) (.block 2 (.loop (loopOf Try.f32 2))) := by
  refine block_ok (own := fun _ => true) (lp := (fun _ => none)) (un := 0) (fuel := 1000) cfg31v_ok (lp_none _) fun az os R hF hok => ?_
  unfold F60k at hF
  split at hF
  · rename_i m n x y z cl cur pp q s l l2 i e6 a b c u v w l3 gg
    injection hF with hF
    subst hF
    have hg := hok.guard
    have hg' := hg
    simp only [Bool.and_eq_true, Nat.ble_eq, Nat.beq_eq, decide_eq_true_eq] at hg'
    obtain ⟨⟨⟨⟨⟨rfl, rfl⟩, rfl⟩, hm⟩, hsm⟩, hpp⟩ := hg'
    refine for_fact (ids := [384, 288]) (okP m n x y z cl cur a b c (fop .sub .f32 u a) (fop .sub .f32 v b) (fop .sub .f32 w c) pp) (pp) (I60k m n x y z cl cur gg l a b c u v w pp s i e6) (J60k m n x y z cl cur gg l a b c u v w pp s i e6) _ (.ret) (fun k => [.ro 3 m (.wires n x y z cl cur), .int .i64 (.ofNat pp), .ptr 384 0, .int .i64 (Int.ofNat pp), .int .i64 (Int.ofNat k), .flt .f32 (apS m n x y z cl cur a b c (fop .sub .f32 u a) (fop .sub .f32 v b) (fop .sub .f32 w c) (fop .mul .f32 (fop .sub .f32 u a) (inv pp)) (fop .mul .f32 (fop .sub .f32 v b) (inv pp)) (fop .mul .f32 (fop .sub .f32 w c) (inv pp)) pp s k), .sl 288 l, .int .i64 (Int.ofNat l), .int .i64 (.ofNat i), .flt .f32 (can .f32 0), .bool false]) (fun k => [.ro 3 m (.wires n x y z cl cur), .int .i64 (.ofNat pp), .ptr 384 0, .int .i64 (Int.ofNat pp), .int .i64 (Int.ofNat k), .flt .f32 (apS m n x y z cl cur a b c (fop .sub .f32 u a) (fop .sub .f32 v b) (fop .sub .f32 w c) (fop .mul .f32 (fop .sub .f32 u a) (inv pp)) (fop .mul .f32 (fop .sub .f32 v b) (inv pp)) (fop .mul .f32 (fop .sub .f32 w c) (inv pp)) pp s k), .sl 288 l, .int .i64 (Int.ofNat l), .int .i64 (.ofNat i), .flt .f32 (can .f32 0), .bool false]) (I60k m n x y z cl cur gg l a b c u v w pp s i e6 (pp)) (J60k m n x y z cl cur gg l a b c u v w pp s i e6 (pp)) rfl (OSims.self _) (fun _ => rfl) (fun _ => rfl) (fun _ => ALe.self _) (fun _ => rfl) (ALe.self _) (OSims.self _) rfl (fun h => by cases h) (fun k hk L h1 h2 h3 => ?_) fun L hL => ?_
    · rw [round60k]

      by_cases hkm : k < pp
      · refine condT (lt_dec hkm) ?_
        rw [wrap_succ (by omega)]
        refine condT (by rw [ble_of hm, hsm]; rfl) ?_
        show cond (!(okP m n x y z cl cur a b c (fop .sub .f32 u a) (fop .sub .f32 v b) (fop .sub .f32 w c) pp k)) _ _
        cases hs : okP m n x y z cl cur a b c (fop .sub .f32 u a) (fop .sub .f32 v b) (fop .sub .f32 w c) pp k
        · exact h2 hkm hs
        · exact h1 hkm hs _ (OSims.self (J60k m n x y z cl cur gg l a b c u v w pp s i e6 (k + 1)))
      · refine condE (ge_dec (by omega)) ?_
        obtain rfl : k = pp := by omega
        exact h3 rfl
    · exact ⟨fun h => (hL.1 hg).1 h, fun N hN hf hall => by
        have := (hL.1 hg).2 (allUpTo_false hN hf)
        rw [firstIdx_eq hN hf hall] at this
        exact this⟩
  · cases hF

end Go.Fw.E1

/-
  Along paths: the outer loops.
-/
namespace Go.Fw.E1
open Go.Proofs
noncomputable def arR (m : Nat) (n : Nat → Nat) (x y z : Nat → Nat → Nat) (cl : Nat → Bool) (cur : Nat → Nat) (gg : Nat → Nat → Nat) (pp s : Nat) : Nat → Nat
  | 0 => s
  | i + 1 => awS m n x y z cl cur (gg i 0) (gg i 1) (gg i 2) (fop .sub .f32 (gg i 3) (gg i 0)) (fop .sub .f32 (gg i 4) (gg i 1)) (fop .sub .f32 (gg i 5) (gg i 2)) (fop .mul .f32 (fop .sub .f32 (gg i 3) (gg i 0)) (inv pp)) (fop .mul .f32 (fop .sub .f32 (gg i 4) (gg i 1)) (inv pp)) (fop .mul .f32 (fop .sub .f32 (gg i 5) (gg i 2)) (inv pp)) pp (arR m n x y z cl cur gg pp s i) pp
noncomputable def apR (m : Nat) (n : Nat → Nat) (x y z : Nat → Nat → Nat) (cl : Nat → Bool) (cur : Nat → Nat) (gg : Nat → Nat → Nat) (pp s : Nat) : Nat → Nat
  | 0 => s
  | i + 1 => apS m n x y z cl cur (gg i 0) (gg i 1) (gg i 2) (fop .sub .f32 (gg i 3) (gg i 0)) (fop .sub .f32 (gg i 4) (gg i 1)) (fop .sub .f32 (gg i 5) (gg i 2)) (fop .mul .f32 (fop .sub .f32 (gg i 3) (gg i 0)) (inv pp)) (fop .mul .f32 (fop .sub .f32 (gg i 4) (gg i 1)) (inv pp)) (fop .mul .f32 (fop .sub .f32 (gg i 5) (gg i 2)) (inv pp)) pp (apR m n x y z cl cur gg pp s i) pp

noncomputable def okI (m : Nat) (n : Nat → Nat) (x y z : Nat → Nat → Nat) (cl : Nat → Bool) (cur : Nat → Nat) (gg : Nat → Nat → Nat) (pp i : Nat) : Bool := allUpTo (okP m n x y z cl cur (gg i 0) (gg i 1) (gg i 2) (fop .sub .f32 (gg i 3) (gg i 0)) (fop .sub .f32 (gg i 4) (gg i 1)) (fop .sub .f32 (gg i 5) (gg i 2)) pp) pp
noncomputable def I59i (m : Nat) (n : Nat → Nat) (x y z : Nat → Nat → Nat) (cl : Nat → Bool) (cur : Nat → Nat) (n2 cur2 : Nat) (x2 y2 z2 : Nat → Nat) (cl2 : Bool) (pp s : Nat) (k : Nat) : List A := [.ro 3 m (.wires n x y z cl cur), .int .i64 (.ofNat pp), .ptr 0 0, .flt .f32 (arR m n x y z cl cur (sg n2 x2 y2 z2) pp s k), .int .i64 (Int.ofNat k)]
noncomputable def J59i (m : Nat) (n : Nat → Nat) (x y z : Nat → Nat → Nat) (cl : Nat → Bool) (cur : Nat → Nat) (n2 cur2 : Nat) (x2 y2 z2 : Nat → Nat) (cl2 : Bool) (pp s : Nat) (k : Nat) : List O := [.var [.ro 3 n2 (.vecs .f32 x2 y2 z2), .bool cl2, .flt .f32 cur2]]
noncomputable def F59i : List A → List (Option O) → Option R3
  | [.ro 3 m (.wires n x y z cl cur), .int .i64 (.ofNat pp), .ptr 0 0, .flt .f32 s, .int .i64 0], [some (.var [.ro 3 n2 (.vecs .f32 x2 y2 z2), .bool cl2, .flt .f32 cur2])] => some (.ite (Nat.ble m 1048576 && allUpTo (smallW n) m && Nat.ble pp 32 && (Nat.ble 1 n2 && Nat.ble n2 1000)) (.leaf .normal (I59i m n x y z cl cur n2 cur2 x2 y2 z2 cl2 pp s (cnt n2 cl2)) (J59i m n x y z cl cur n2 cur2 x2 y2 z2 cl2 pp s (cnt n2 cl2))) .fail)
  | _, _ => none
noncomputable def lpi60i : List (Nat × (St → T)) := [(2, sumAt Try.f32.ntmps 448 [0, 2, 10, 34, 35, 8, 28, 29, 30, 6, 7] [384, 288] F60k)]
theorem lpi60i_ok : LpOK Try.prog (look lpi60i) (loopOf Try.f32 0) := lp_in (lp_loops (by kernel_rfl) (by kernel_rfl) fun p hp => by
  simp only [lpi60i, List.mem_cons, List.not_mem_nil, or_false] at hp
  rcases hp with rfl
  · exact loop60k) _
noncomputable def I60i (m : Nat) (n : Nat → Nat) (x y z : Nat → Nat → Nat) (cl : Nat → Bool) (cur : Nat → Nat) (gg : Nat → Nat → Nat) (l pp s e6 : Nat) (k : Nat) : List A := [.ro 3 m (.wires n x y z cl cur), .int .i64 (.ofNat pp), .sl 288 l, .int .i64 (Int.ofNat l), .int .i64 (Int.ofNat k), .flt .f32 (apR m n x y z cl cur gg pp s k), .flt .f32 e6, .bool false]
noncomputable def J60i (m : Nat) (n : Nat → Nat) (x y z : Nat → Nat → Nat) (cl : Nat → Bool) (cur : Nat → Nat) (gg : Nat → Nat → Nat) (l pp s e6 : Nat) (k : Nat) : List O := [.row 0 6 l (.flns .f32 6 gg)]
theorem round60i (m : Nat) (n : Nat → Nat) (x y z : Nat → Nat → Nat) (cl : Nat → Bool) (cur : Nat → Nat) (gg : Nat → Nat → Nat) (l pp s e6 : Nat) (k : Nat) (L : XK → List A → List (Option O) → Prop) :
    ((exec cfg31v (fun _ => true) (look lpi60i) 0 1000 (loopOf Try.f32 0) (litSt Try.f32.ntmps 336 [0, 2, 28, 29, 30, 8, 6, 7] [288] (I60i m n x y z cl cur gg l pp s e6 k) (J60i m n x y z cl cur gg l pp s e6 k))).rt [0, 2, 28, 29, 30, 8, 6, 7] [288]).Ok L =
    bif decide (Int.ofNat k < Int.ofNat l) then
      bif decide (Int.ofNat k < Int.ofNat l) then
        bif decide (Int.ofNat pp = Int.ofNat pp) && decide (Int.ofNat l = Int.ofNat l) && l.beq l && m.ble 1048576 && allUpTo (smallW n) m && pp.ble 32 then
          bif allUpTo (okP m n x y z cl cur (gg (Int.ofNat k).toNat 0) (gg (Int.ofNat k).toNat 1) (gg (Int.ofNat k).toNat 2) (fop BinOp.sub FloatKind.f32 (gg (Int.ofNat k).toNat 3) (gg (Int.ofNat k).toNat 0)) (fop BinOp.sub FloatKind.f32 (gg (Int.ofNat k).toNat 4) (gg (Int.ofNat k).toNat 1)) (fop BinOp.sub FloatKind.f32 (gg (Int.ofNat k).toNat 5) (gg (Int.ofNat k).toNat 2)) pp) pp then
            L (XK.normal) ([A.ro 3 m (Row.wires n x y z cl cur), A.int IntKind.i64 (Int.ofNat pp), A.sl 288 l, A.int IntKind.i64 (Int.ofNat l), A.int IntKind.i64 (IntKind.i64.wrap (Int.ofNat k + Int.ofNat 1)), A.flt FloatKind.f32 (apS m n x y z cl cur (gg k 0) (gg k 1) (gg k 2) (fop BinOp.sub FloatKind.f32 (gg k 3) (gg k 0)) (fop BinOp.sub FloatKind.f32 (gg k 4) (gg k 1)) (fop BinOp.sub FloatKind.f32 (gg k 5) (gg k 2)) (fop BinOp.mul FloatKind.f32 (fop BinOp.sub FloatKind.f32 (gg k 3) (gg k 0)) (inv pp)) (fop BinOp.mul FloatKind.f32 (fop BinOp.sub FloatKind.f32 (gg k 4) (gg k 1)) (inv pp)) (fop BinOp.mul FloatKind.f32 (fop BinOp.sub FloatKind.f32 (gg k 5) (gg k 2)) (inv pp)) pp (apR m n x y z cl cur gg pp s k) pp), A.flt FloatKind.f32 e6, A.bool false]) ([some (O.row 0 6 l (Row.flns FloatKind.f32 6 gg))])
          else
            L (XK.ret) ([A.ro 3 m (Row.wires n x y z cl cur), A.int IntKind.i64 (Int.ofNat pp), A.sl 288 l, A.int IntKind.i64 (Int.ofNat l), A.int IntKind.i64 (Int.ofNat k), A.flt FloatKind.f32 (apS m n x y z cl cur (gg k 0) (gg k 1) (gg k 2) (fop BinOp.sub FloatKind.f32 (gg k 3) (gg k 0)) (fop BinOp.sub FloatKind.f32 (gg k 4) (gg k 1)) (fop BinOp.sub FloatKind.f32 (gg k 5) (gg k 2)) (fop BinOp.mul FloatKind.f32 (fop BinOp.sub FloatKind.f32 (gg k 3) (gg k 0)) (inv pp)) (fop BinOp.mul FloatKind.f32 (fop BinOp.sub FloatKind.f32 (gg k 4) (gg k 1)) (inv pp)) (fop BinOp.mul FloatKind.f32 (fop BinOp.sub FloatKind.f32 (gg k 5) (gg k 2)) (inv pp)) pp (apR m n x y z cl cur gg pp s k) (Fw.firstIdx (okP m n x y z cl cur (gg (Int.ofNat k).toNat 0) (gg (Int.ofNat k).toNat 1) (gg (Int.ofNat k).toNat 2) (fop BinOp.sub FloatKind.f32 (gg (Int.ofNat k).toNat 3) (gg (Int.ofNat k).toNat 0)) (fop BinOp.sub FloatKind.f32 (gg (Int.ofNat k).toNat 4) (gg (Int.ofNat k).toNat 1)) (fop BinOp.sub FloatKind.f32 (gg (Int.ofNat k).toNat 5) (gg (Int.ofNat k).toNat 2)) pp) pp)), A.flt FloatKind.f32 (can FloatKind.f32 0), A.bool false]) ([some (O.row 0 6 l (Row.flns FloatKind.f32 6 gg))])
        else
          False
      else
        False
    else
      L (XK.exit 0) ([A.ro 3 m (Row.wires n x y z cl cur), A.int IntKind.i64 (Int.ofNat pp), A.sl 288 l, A.int IntKind.i64 (Int.ofNat l), A.int IntKind.i64 (Int.ofNat k), A.flt FloatKind.f32 (apR m n x y z cl cur gg pp s k), A.flt FloatKind.f32 e6, A.bool false]) ([some (O.row 0 6 l (Row.flns FloatKind.f32 6 gg))]) := by kernel_rfl
noncomputable def F60i : List A → List (Option O) → Option R3
  | [.ro 3 m (.wires n x y z cl cur), .int .i64 (.ofNat pp), .sl 288 l, .int .i64 l2, .int .i64 0, .flt .f32 s, .flt .f32 e6, .bool false], [some (.row 0 6 l3 (.flns .f32 6 gg))] => some (.ite (decide (l2 = Int.ofNat l) && Nat.beq l l3 && Nat.ble m 1048576 && allUpTo (smallW n) m && Nat.ble pp 32 && Nat.ble l 1000) (.ite (allUpTo (okI m n x y z cl cur gg pp) (l)) (.leaf .normal (I60i m n x y z cl cur gg l pp s e6 (l)) (J60i m n x y z cl cur gg l pp s e6 (l))) (.leaf (.ret) ((fun i => [.ro 3 m (.wires n x y z cl cur), .int .i64 (.ofNat pp), .sl 288 l, .int .i64 (Int.ofNat l), .int .i64 (Int.ofNat i), .flt .f32 (apS m n x y z cl cur (gg i 0) (gg i 1) (gg i 2) (fop .sub .f32 (gg i 3) (gg i 0)) (fop .sub .f32 (gg i 4) (gg i 1)) (fop .sub .f32 (gg i 5) (gg i 2)) (fop .mul .f32 (fop .sub .f32 (gg i 3) (gg i 0)) (inv pp)) (fop .mul .f32 (fop .sub .f32 (gg i 4) (gg i 1)) (inv pp)) (fop .mul .f32 (fop .sub .f32 (gg i 5) (gg i 2)) (inv pp)) pp (apR m n x y z cl cur gg pp s i) (firstIdx (okP m n x y z cl cur (gg i 0) (gg i 1) (gg i 2) (fop .sub .f32 (gg i 3) (gg i 0)) (fop .sub .f32 (gg i 4) (gg i 1)) (fop .sub .f32 (gg i 5) (gg i 2)) pp) pp)), .flt .f32 (can .f32 0), .bool false]) (firstIdx (okI m n x y z cl cur gg pp) (l))) (J60i m n x y z cl cur gg l pp s e6 (firstIdx (okI m n x y z cl cur gg pp) (l))))) .fail)
  | _, _ => none
theorem loop60i : CodeOK Try.prog (fun _ σ => sumAt Try.f32.ntmps 336 [0, 2, 28, 29, 30, 8, 6, 7] [288] F60i σ) (.block 0 (.loop (loopOf Try.f32 0))) := by
  refine block_ok (own := fun _ => true) (lp := (look lpi60i)) (un := 0) (fuel := 1000) cfg31v_ok lpi60i_ok fun az os R hF hok => ?_
  unfold F60i at hF
  split at hF
  · rename_i m n x y z cl cur pp l l2 s e6 l3 gg
    injection hF with hF
    subst hF
    have hg := hok.guard
    have hg' := hg
    simp only [Bool.and_eq_true, Nat.ble_eq, Nat.beq_eq, decide_eq_true_eq] at hg'
    obtain ⟨⟨⟨⟨⟨rfl, rfl⟩, hm⟩, hsm⟩, hpp⟩, hl⟩ := hg'
    refine for_fact (ids := [288]) (okI m n x y z cl cur gg pp) (l) (I60i m n x y z cl cur gg l pp s e6) (J60i m n x y z cl cur gg l pp s e6) _ (.ret) (fun i => [.ro 3 m (.wires n x y z cl cur), .int .i64 (.ofNat pp), .sl 288 l, .int .i64 (Int.ofNat l), .int .i64 (Int.ofNat i), .flt .f32 (apS m n x y z cl cur (gg i 0) (gg i 1) (gg i 2) (fop .sub .f32 (gg i 3) (gg i 0)) (fop .sub .f32 (gg i 4) (gg i 1)) (fop .sub .f32 (gg i 5) (gg i 2)) (fop .mul .f32 (fop .sub .f32 (gg i 3) (gg i 0)) (inv pp)) (fop .mul .f32 (fop .sub .f32 (gg i 4) (gg i 1)) (inv pp)) (fop .mul .f32 (fop .sub .f32 (gg i 5) (gg i 2)) (inv pp)) pp (apR m n x y z cl cur gg pp s i) (firstIdx (okP m n x y z cl cur (gg i 0) (gg i 1) (gg i 2) (fop .sub .f32 (gg i 3) (gg i 0)) (fop .sub .f32 (gg i 4) (gg i 1)) (fop .sub .f32 (gg i 5) (gg i 2)) pp) pp)), .flt .f32 (can .f32 0), .bool false]) (fun i => [.ro 3 m (.wires n x y z cl cur), .int .i64 (.ofNat pp), .sl 288 l, .int .i64 (Int.ofNat l), .int .i64 (Int.ofNat i), .flt .f32 (apS m n x y z cl cur (gg i 0) (gg i 1) (gg i 2) (fop .sub .f32 (gg i 3) (gg i 0)) (fop .sub .f32 (gg i 4) (gg i 1)) (fop .sub .f32 (gg i 5) (gg i 2)) (fop .mul .f32 (fop .sub .f32 (gg i 3) (gg i 0)) (inv pp)) (fop .mul .f32 (fop .sub .f32 (gg i 4) (gg i 1)) (inv pp)) (fop .mul .f32 (fop .sub .f32 (gg i 5) (gg i 2)) (inv pp)) pp (apR m n x y z cl cur gg pp s i) (firstIdx (okP m n x y z cl cur (gg i 0) (gg i 1) (gg i 2) (fop .sub .f32 (gg i 3) (gg i 0)) (fop .sub .f32 (gg i 4) (gg i 1)) (fop .sub .f32 (gg i 5) (gg i 2)) pp) pp)), .flt .f32 (can .f32 0), .bool false]) (I60i m n x y z cl cur gg l pp s e6 (l)) (J60i m n x y z cl cur gg l pp s e6 (l)) rfl (OSims.self _) (fun _ => rfl) (fun _ => rfl) (fun _ => ALe.self _) (fun _ => rfl) (ALe.self _) (OSims.self _) rfl (fun h => by cases h) (fun k hk L h1 h2 h3 => ?_) fun L hL => ?_
    · rw [round60i]

      by_cases hkm : k < l
      · refine condT (lt_dec hkm) ?_
        rw [wrap_succ (by omega)]
        refine condT (lt_dec hkm) ?_
        refine condT (by rw [ble_of hm, ble_of hpp, hsm, decide_eq_true rfl, decide_eq_true rfl, Nat.beq_refl]; rfl) ?_
        show cond (okI m n x y z cl cur gg pp k) _ _
        cases hs : okI m n x y z cl cur gg pp k
        · exact h2 hkm hs
        · exact h1 hkm hs _ (OSims.self (J60i m n x y z cl cur gg l pp s e6 (k + 1)))
      · refine condE (ge_dec (by omega)) ?_
        obtain rfl : k = l := by omega
        exact h3 rfl
    · exact ⟨fun h => (hL.1 hg).1 h, fun N hN hf hall => by
        have := (hL.1 hg).2 (allUpTo_false hN hf)
        rw [firstIdx_eq hN hf hall] at this
        exact this⟩
  · cases hF

end Go.Fw.E1

/-
  Along paths: what is no number stays none.
-/
namespace Go.Fw.E1
open Go.Proofs
theorem not_num {k : FloatKind} {x : Nat} (h : num k x = false) : (∃ s t, k.format.read x = .nan s t) ∨ ∃ s, k.format.read x = .infinity s := by
  cases hx : k.format.read x with
  | number s m i =>
    have := num_iff.2 ⟨_, _, _, hx⟩
    rw [this] at h; cases h
  | nan s t => exact .inl ⟨s, t, rfl⟩
  | infinity s => exact .inr ⟨s, rfl⟩
theorem num_nan (k : FloatKind) : num k (qnan k) = false := by cases k <;> decide +kernel
theorem num_inf (k : FloatKind) (g : Bool) : num k (k.format.word g k.format.infRung) = false := by cases k <;> cases g <;> decide +kernel
theorem add_eq (k : FloatKind) (x y : Nat) : floatBits .add k x y = ((k.format.read x).sum (k.format.read y)).map k.format.write := rfl
theorem mul_eq (k : FloatKind) (x y : Nat) : floatBits .mul k x y = ((k.format.read x).product (k.format.read y)).map k.format.write := rfl
theorem fop_none {op : BinOp} {k : FloatKind} {x y : Nat} {D : Option Ieee.Datum} (he : floatBits op k x y = D.map k.format.write) (hD : D = none ∨ ∃ g, D = some (.infinity g)) : num k (fop op k x y) = false := by
  unfold fop
  rw [he]
  rcases hD with h | ⟨g, h⟩
  · rw [h]; exact num_nan k
  · rw [h]; exact num_inf k g
theorem sum_infR (s : Bool) (d : Ieee.Datum) : d.sum (.infinity s) = none ∨ ∃ g, d.sum (.infinity s) = some (.infinity g) := by
  cases d with
  | nan a b => exact .inl rfl
  | infinity a => cases a <;> cases s <;> first | exact .inl rfl | exact .inr ⟨_, rfl⟩
  | number a n j => exact .inr ⟨_, rfl⟩
theorem sum_infL (s : Bool) (d : Ieee.Datum) : (Ieee.Datum.infinity s).sum d = none ∨ ∃ g, (Ieee.Datum.infinity s).sum d = some (.infinity g) := by
  cases d with
  | nan a b => exact .inl rfl
  | infinity a => cases a <;> cases s <;> first | exact .inl rfl | exact .inr ⟨_, rfl⟩
  | number a n j => exact .inr ⟨_, rfl⟩
theorem product_infR (s : Bool) (d : Ieee.Datum) : d.product (.infinity s) = none ∨ ∃ g, d.product (.infinity s) = some (.infinity g) := by
  cases d with
  | nan a b => exact .inl rfl
  | infinity a => exact .inr ⟨_, rfl⟩
  | number a n j =>
    simp only [Ieee.Datum.product]
    split
    · exact .inl rfl
    · exact .inr ⟨_, rfl⟩
theorem product_infL (s : Bool) (d : Ieee.Datum) : (Ieee.Datum.infinity s).product d = none ∨ ∃ g, (Ieee.Datum.infinity s).product d = some (.infinity g) := by
  cases d with
  | nan a b => exact .inl rfl
  | infinity a => exact .inr ⟨_, rfl⟩
  | number a n j =>
    simp only [Ieee.Datum.product]
    split
    · exact .inl rfl
    · exact .inr ⟨_, rfl⟩
theorem num_addR {k : FloatKind} {x y : Nat} (h : num k (fop .add k x y) = true) : num k y = true := by
  cases hy : num k y
  · rw [fop_none (add_eq k x y) ?_] at h
    · exact h
    · rcases not_num hy with ⟨s, t, e⟩ | ⟨s, e⟩
      · rw [e]; exact .inl (sum_nan_right _ _ _)
      · rw [e]; exact sum_infR _ _
  · rfl
theorem num_addL {k : FloatKind} {x y : Nat} (h : num k (fop .add k x y) = true) : num k x = true := by
  cases hy : num k x
  · rw [fop_none (add_eq k x y) ?_] at h
    · exact h
    · rcases not_num hy with ⟨s, t, e⟩ | ⟨s, e⟩
      · rw [e]; exact .inl (sum_nan_left _ _ _)
      · rw [e]; exact sum_infL _ _
  · rfl
theorem num_mulL {k : FloatKind} {x y : Nat} (h : num k (fop .mul k x y) = true) : num k x = true := by
  cases hy : num k x
  · rw [fop_none (mul_eq k x y) ?_] at h
    · exact h
    · rcases not_num hy with ⟨s, t, e⟩ | ⟨s, e⟩
      · rw [e]; exact .inl (product_nan_left _ _ _)
      · rw [e]; exact product_infL _ _
  · rfl
theorem sub_eq (k : FloatKind) (x y : Nat) : floatBits .sub k x y = ((k.format.read x).sum (k.format.read y).opposite).map k.format.write := rfl
theorem num_subL {k : FloatKind} {x y : Nat} (h : num k (fop .sub k x y) = true) : num k x = true := by
  cases hy : num k x
  · rw [fop_none (sub_eq k x y) ?_] at h
    · exact h
    · rcases not_num hy with ⟨s, t, e⟩ | ⟨s, e⟩
      · rw [e]; exact .inl (sum_nan_left _ _ _)
      · rw [e]; exact sum_infL _ _
  · rfl
theorem fin_addL {x y : Nat} (h : fin (fop .add .f32 x y) = true) : fin x = true := by rw [fin_num] at h ⊢; exact num_addL h
theorem fin_addR {x y : Nat} (h : fin (fop .add .f32 x y) = true) : fin y = true := by rw [fin_num] at h ⊢; exact num_addR h
theorem fin_mulL {x y : Nat} (h : fin (fop .mul .f32 x y) = true) : fin x = true := by rw [fin_num] at h ⊢; exact num_mulL h
theorem fin_subL {x y : Nat} (h : fin (fop .sub .f32 x y) = true) : fin x = true := by rw [fin_num] at h ⊢; exact num_subL h
end Go.Fw.E1

/-
  Along paths: where a field is none, the sum is none.
-/
namespace Go.Fw.E1
open Go.Proofs
theorem vfin_iff {a b c : Nat} : vfin a b c = true ↔ fin a = true ∧ fin b = true ∧ fin c = true := by
  unfold vfin
  cases fin a <;> cases fin b <;> cases fin c <;> simp
theorem fin_inn {a b c x y z : Nat} (h : fin (inn a b c x y z) = true) : vfin a b c = true := by
  unfold inn at h
  have h1 := fin_addL h
  exact vfin_iff.2 ⟨fin_mulL (fin_addL h1), fin_mulL (fin_addR h1), fin_mulL (fin_addR h)⟩
section
variable {m : Nat} {n : Nat → Nat} {x y z : Nat → Nat → Nat} {cl : Nat → Bool} {cur : Nat → Nat}
theorem faX_fin {p q r s : Nat} : ∀ k, fin (faX n x y z cl cur p q r s k) = true → fin s = true
  | 0, h => h
  | k + 1, h => faX_fin k (fin_addL h)
theorem faY_fin {p q r s : Nat} : ∀ k, fin (faY n x y z cl cur p q r s k) = true → fin s = true
  | 0, h => h
  | k + 1, h => faY_fin k (fin_addL h)
theorem faZ_fin {p q r s : Nat} : ∀ k, fin (faZ n x y z cl cur p q r s k) = true → fin s = true
  | 0, h => h
  | k + 1, h => faZ_fin k (fin_addL h)
theorem st0_yes {p q r c : Nat} (h : vfin p q r = true) : st0 p q r c = 0 := by unfold st0; rw [h]; rfl
theorem st0_fin {p q r c : Nat} (hc : vfin p q r = true → fin c = true) (h : fin (st0 p q r c) = true) : fin c = true := by
  unfold st0 at h
  cases hv : vfin p q r
  · rw [hv] at h; exact fin_subL h
  · exact hc hv
theorem innR_ok {p q r v0 v1 v2 : Nat} (h : fin (innR m n x y z cl cur p q r v0 v1 v2) = true) : (bif vfin p q r then fOkA m n x y z cl cur p q r else false) = true := by
  unfold innR at h
  have h1 := fin_inn h
  obtain ⟨a, b, c⟩ := vfin_iff.1 h1
  have hv : vfin p q r = true := vfin_iff.2 ⟨st0_fin (fun h => (vfin_iff.1 h).1) (faX_fin _ a), st0_fin (fun h => (vfin_iff.1 h).2.1) (faY_fin _ b), st0_fin (fun h => (vfin_iff.1 h).2.2) (faZ_fin _ c)⟩
  rw [st0_yes hv, st0_yes hv, st0_yes hv] at h1
  rw [hv]
  exact h1
theorem innR_eq {p q r v0 v1 v2 : Nat} (h : (bif vfin p q r then fOkA m n x y z cl cur p q r else false) = true) : innP m n x y z cl cur p q r v0 v1 v2 = innR m n x y z cl cur p q r v0 v1 v2 := by
  cases hv : vfin p q r
  · rw [hv] at h; cases h
  · unfold innP innR
    rw [st0_yes hv, st0_yes hv, st0_yes hv]
theorem awS_fin {a0 a1 a2 u0 u1 u2 v0 v1 v2 pp s : Nat} : ∀ K, fin (awS m n x y z cl cur a0 a1 a2 u0 u1 u2 v0 v1 v2 pp s K) = true → fin s = true ∧ ∀ k, k < K → okP m n x y z cl cur a0 a1 a2 u0 u1 u2 pp k = true
  | 0, h => ⟨h, fun k hk => absurd hk (by omega)⟩
  | K + 1, h => by
    have ih := awS_fin K (fin_addL h)
    have h2 := innR_ok (fin_addR h)
    refine ⟨ih.1, fun k hk => ?_⟩
    by_cases e : k = K
    · subst e; exact h2
    · exact ih.2 k (by omega)
theorem apS_eq {a0 a1 a2 u0 u1 u2 v0 v1 v2 pp s : Nat} : ∀ K, (∀ k, k < K → okP m n x y z cl cur a0 a1 a2 u0 u1 u2 pp k = true) → apS m n x y z cl cur a0 a1 a2 u0 u1 u2 v0 v1 v2 pp s K = awS m n x y z cl cur a0 a1 a2 u0 u1 u2 v0 v1 v2 pp s K
  | 0, _ => rfl
  | K + 1, h => by
    have ih := apS_eq (v0 := v0) (v1 := v1) (v2 := v2) (s := s) K (fun k hk => h k (by omega))
    have h2 := innR_eq (v0 := v0) (v1 := v1) (v2 := v2) (h K (by omega))
    show fop .add .f32 (apS m n x y z cl cur a0 a1 a2 u0 u1 u2 v0 v1 v2 pp s K) (innP m n x y z cl cur (atC a0 u0 pp K) (atC a1 u1 pp K) (atC a2 u2 pp K) v0 v1 v2) = fop .add .f32 (awS m n x y z cl cur a0 a1 a2 u0 u1 u2 v0 v1 v2 pp s K) (innR m n x y z cl cur (atC a0 u0 pp K) (atC a1 u1 pp K) (atC a2 u2 pp K) v0 v1 v2)
    rw [ih, h2]
theorem arR_fin {gg : Nat → Nat → Nat} {pp s : Nat} : ∀ N, fin (arR m n x y z cl cur gg pp s N) = true → allUpTo (okI m n x y z cl cur gg pp) N = true := by
  intro N h
  refine allUpTo_iff.2 ?_
  induction N with
  | zero => exact fun i hi => absurd hi (by omega)
  | succ N ih =>
    have h2 := awS_fin _ h
    intro i hi
    by_cases e : i = N
    · subst e; exact allUpTo_iff.2 h2.2
    · exact ih h2.1 i (by omega)
theorem apR_eq {gg : Nat → Nat → Nat} {pp s : Nat} : ∀ N, allUpTo (okI m n x y z cl cur gg pp) N = true → apR m n x y z cl cur gg pp s N = arR m n x y z cl cur gg pp s N := by
  intro N h0
  have h := allUpTo_iff.1 h0
  clear h0
  induction N with
  | zero => rfl
  | succ N ih =>
    have h1 := ih fun i hi => h i (by omega)
    have h2 := allUpTo_iff.1 (h N (by omega))
    show apS _ _ _ _ _ _ _ _ _ _ _ _ _ _ _ _ _ (apR m n x y z cl cur gg pp s N) _ = awS _ _ _ _ _ _ _ _ _ _ _ _ _ _ _ _ _ (arR m n x y z cl cur gg pp s N) _
    rw [h1]
    exact apS_eq _ h2
end
end Go.Fw.E1

/-
  Along paths: contracts of the reference and the program.
-/
namespace Go.Fw.E1
open Go.Proofs
def in32 (p : Int) : Bool := bif decide (p ≥ 1) then decide (p ≤ 32) else false
theorem in32_ok {pp : Nat} (h : in32 (Int.ofNat pp) = true) : pp ≤ 32 := by
  unfold in32 at h
  cases h1 : decide (Int.ofNat pp ≥ 1)
  · rw [h1] at h; cases h
  · rw [h1] at h
    have := of_decide_eq_true h
    simp at this
    omega
theorem in32_neg (pp : Nat) : in32 (Int.negSucc pp) = false := by
  unfold in32
  rw [decide_eq_false (show ¬ (Int.negSucc pp ≥ 1) by omega)]; rfl
noncomputable def arOk (m : Nat) (n : Nat → Nat) (x y z : Nat → Nat → Nat) (cur : Nat → Nat) (n2 cur2 : Nat) (x2 y2 z2 : Nat → Nat) (p : Int) : Bool := areW m n x y z cur && okW n2 cur2 x2 y2 z2 && in32 p
noncomputable def s59a : List A → Option (Bool × A)
  | [.ro 3 m (.wires n x y z cl cur), .agg [.ro 3 n2 (.vecs .f32 x2 y2 z2), .bool cl2, .flt .f32 cur2], .int .i64 (.ofNat pp)] => some (Nat.ble m 1048576 && allUpTo (shortW n) m && Nat.ble n2 1048576, .tup [.flt .f32 (bif arOk m n x y z cur n2 cur2 x2 y2 z2 (Int.ofNat pp) && fin (arR m n x y z cl cur (sg n2 x2 y2 z2) pp (can .f32 0) (cnt n2 cl2)) then arR m n x y z cl cur (sg n2 x2 y2 z2) pp (can .f32 0) (cnt n2 cl2) else can .f32 0), .bool (arOk m n x y z cur n2 cur2 x2 y2 z2 (Int.ofNat pp) && fin (arR m n x y z cl cur (sg n2 x2 y2 z2) pp (can .f32 0) (cnt n2 cl2)))])
  | _ => none
noncomputable def lp60a : List (Nat × (St → T)) := [(0, sumAt Try.f32.ntmps 336 [0, 2, 28, 29, 30, 8, 6, 7] [288] F60i)]
theorem lp60a_ok : LpOK Try.prog (look lp60a) (bodyOf Try.f32) := lp_loops (by kernel_rfl) (by kernel_rfl) fun p hp => by
  simp only [lp60a, List.mem_cons, List.not_mem_nil, or_false] at hp
  rcases hp with rfl
  · exact loop60i
theorem auto60a (m : Nat) (n : Nat → Nat) (x y z : Nat → Nat → Nat) (cl : Nat → Bool) (cur : Nat → Nat) (n2 cur2 : Nat) (x2 y2 z2 : Nat → Nat) (cl2 : Bool) (pp : Nat) : autoLp cfg31v (look lp60a) Try.f32 [.ro 3 m (.wires n x y z cl cur), .agg [.ro 3 n2 (.vecs .f32 x2 y2 z2), .bool cl2, .flt .f32 cur2], .int .i64 (.ofNat pp)] =
    some (m.ble 1048576 && allUpTo (shortW n) m && ((n2.ble 4611686018427387000 || !(!areW m n x y z cur) == false) && bif bif bif !areW m n x y z cur then true else !okW n2 cur2 x2 y2 z2 then true else !bif decide (Int.ofNat pp ≥ 1) then decide (Int.ofNat pp ≤ 32) else false then true else Nat.ble 1 n2 && n2.ble 1073741824 && (decide (Int.ofNat (cnt n2 cl2) = Int.ofNat (cnt n2 cl2)) && (cnt n2 cl2).beq (cnt n2 cl2) && m.ble 1048576 && allUpTo (smallW n) m && pp.ble 32 && (cnt n2 cl2).ble 1000 && bif allUpTo (okI m n x y z cl cur (sg n2 x2 y2 z2) pp) (cnt n2 cl2) then true else true)), A.tup [A.flt FloatKind.f32 (bif bif bif !areW m n x y z cur then true else !okW n2 cur2 x2 y2 z2 then true else !bif decide (Int.ofNat pp ≥ 1) then decide (Int.ofNat pp ≤ 32) else false then can FloatKind.f32 0 else bif allUpTo (okI m n x y z cl cur (sg n2 x2 y2 z2) pp) (cnt n2 cl2) then bif fin (apR m n x y z cl cur (sg n2 x2 y2 z2) pp (can FloatKind.f32 0) (cnt n2 cl2)) then apR m n x y z cl cur (sg n2 x2 y2 z2) pp (can FloatKind.f32 0) (cnt n2 cl2) else can FloatKind.f32 0 else can FloatKind.f32 0), A.bool (bif bif bif !areW m n x y z cur then true else !okW n2 cur2 x2 y2 z2 then true else !bif decide (Int.ofNat pp ≥ 1) then decide (Int.ofNat pp ≤ 32) else false then false else bif allUpTo (okI m n x y z cl cur (sg n2 x2 y2 z2) pp) (cnt n2 cl2) then fin (apR m n x y z cl cur (sg n2 x2 y2 z2) pp (can FloatKind.f32 0) (cnt n2 cl2)) else false)]) := by kernel_rfl
noncomputable def s60a : List A → Option (Bool × A)
  | [.ro 3 m (.wires n x y z cl cur), .agg [.ro 3 n2 (.vecs .f32 x2 y2 z2), .bool cl2, .flt .f32 cur2], .int .i64 (.ofNat pp)] => some (Nat.ble m 1048576 && allUpTo (shortW n) m && Nat.ble n2 1048576, .tup [.flt .f32 (bif arOk m n x y z cur n2 cur2 x2 y2 z2 (Int.ofNat pp) && fin (arR m n x y z cl cur (sg n2 x2 y2 z2) pp (can .f32 0) (cnt n2 cl2)) then arR m n x y z cl cur (sg n2 x2 y2 z2) pp (can .f32 0) (cnt n2 cl2) else can .f32 0), .bool (arOk m n x y z cur n2 cur2 x2 y2 z2 (Int.ofNat pp) && fin (arR m n x y z cl cur (sg n2 x2 y2 z2) pp (can .f32 0) (cnt n2 cl2)))])
  | _ => none
theorem s60a_at : EnvAt Try.prog 32 s60a := of_auto cfg31v_ok lp60a_ok Try.func32 (by kernel_rfl) (by kernel_rfl) fun ds cc rr h hc => by
  unfold s60a at h
  split at h
  · rename_i m n x y z cl cur n2 x2 y2 z2 cl2 cur2 pp
    simp only [Option.some.injEq, Prod.mk.injEq] at h
    obtain ⟨rfl, rfl⟩ := h
    refine auto_fit (auto60a m n x y z cl cur n2 cur2 x2 y2 z2 cl2 pp) ?_ ?_
    · unfold arOk in32
      cases areW m n x y z cur
      · rfl
      · cases okW n2 cur2 x2 y2 z2
        · rfl
        · cases (bif decide (Int.ofNat pp ≥ 1) then decide (Int.ofNat pp ≤ 32) else false)
          · rfl
          · cases hall : allUpTo (okI m n x y z cl cur (sg n2 x2 y2 z2) pp) (cnt n2 cl2)
            · cases hf : fin (arR m n x y z cl cur (sg n2 x2 y2 z2) pp (can .f32 0) (cnt n2 cl2))
              · rfl
              · rw [arR_fin _ hf] at hall; cases hall
            · rw [apR_eq _ hall]; rfl
    · simp only [Bool.and_eq_true, Nat.ble_eq] at hc
      obtain ⟨⟨hm, hsh⟩, hn2⟩ := hc
      rw [ble_of hm, hsh, ble_of (show n2 ≤ 4611686018427387000 by omega)]
      cases hA : areW m n x y z cur
      · rfl
      · cases hB : okW n2 cur2 x2 y2 z2
        · rfl
        · have k4 := okW_n hB
          cases hI : (bif decide (Int.ofNat pp ≥ 1) then decide (Int.ofNat pp ≤ 32) else false)
          · rfl
          · have k5 := in32_ok hI
            rw [(areW_ok hA).2, ble_of k5, ble_of (show 1 ≤ n2 by omega), ble_of (show n2 ≤ 1073741824 by omega), ble_of (show cnt n2 cl2 ≤ 1000 by have := cnt_le n2 cl2; omega), Nat.beq_refl, decide_eq_true rfl, Bool.cond_self]; rfl
  · cases h

noncomputable def s59b : List A → Option (Bool × A)
  | [.ro 3 m (.wires n x y z cl cur), .agg [.ro 3 n2 (.vecs .f32 x2 y2 z2), .bool cl2, .flt .f32 cur2], .int .i64 (.negSucc pp)] => some (Nat.ble m 1048576 && allUpTo (shortW n) m && Nat.ble n2 1048576, .tup [.flt .f32 (can .f32 0), .bool false])
  | _ => none
theorem auto60b (m : Nat) (n : Nat → Nat) (x y z : Nat → Nat → Nat) (cl : Nat → Bool) (cur : Nat → Nat) (n2 cur2 : Nat) (x2 y2 z2 : Nat → Nat) (cl2 : Bool) (pp : Nat) : autoS cfg31v (fun _ => none) true Try.f32 [.ro 3 m (.wires n x y z cl cur), .agg [.ro 3 n2 (.vecs .f32 x2 y2 z2), .bool cl2, .flt .f32 cur2], .int .i64 (.negSucc pp)] =
    some (m.ble 1048576 && allUpTo (shortW n) m && ((n2.ble 4611686018427387000 || !(!areW m n x y z cur) == false) && ((bif bif !areW m n x y z cur then true else !okW n2 cur2 x2 y2 z2 then true else !false) && true)), A.tup [A.flt FloatKind.f32 (can FloatKind.f32 0), A.bool false]) := by kernel_rfl
noncomputable def s60b : List A → Option (Bool × A)
  | [.ro 3 m (.wires n x y z cl cur), .agg [.ro 3 n2 (.vecs .f32 x2 y2 z2), .bool cl2, .flt .f32 cur2], .int .i64 (.negSucc pp)] => some (Nat.ble m 1048576 && allUpTo (shortW n) m && Nat.ble n2 1048576, .tup [.flt .f32 (can .f32 0), .bool false])
  | _ => none
theorem s60b_at : EnvAt Try.prog 32 s60b := of_autoS cfg31v_ok (lp_none _) Try.func32 (by kernel_rfl) (by kernel_rfl) fun ds cc rr h hc => by
  unfold s60b at h
  split at h
  · rename_i m n x y z cl cur n2 x2 y2 z2 cl2 cur2 pp
    simp only [Option.some.injEq, Prod.mk.injEq] at h
    obtain ⟨rfl, rfl⟩ := h
    refine auto_fit (auto60b m n x y z cl cur n2 cur2 x2 y2 z2 cl2 pp) ?_ ?_
    · simp only [Bool.cond_self]
    · simp only [Bool.and_eq_true, Nat.ble_eq] at hc
      obtain ⟨⟨hm, hsh⟩, hn2⟩ := hc
      rw [ble_of hm, hsh, ble_of (show n2 ≤ 4611686018427387000 by omega)]
      cases areW m n x y z cur <;> cases okW n2 cur2 x2 y2 z2 <;> rfl
  · cases h

noncomputable def s59 : List A → Option (Bool × A)
  | [u, v, .int .i64 (.ofNat pp)] => s59a [u, v, .int .i64 (.ofNat pp)]
  | ds => s59b ds
noncomputable def s60 : List A → Option (Bool × A)
  | [u, v, .int .i64 (.ofNat pp)] => s60a [u, v, .int .i64 (.ofNat pp)]
  | ds => s60b ds
theorem s60_at : EnvAt Try.prog 32 s60 := by
  refine ⟨s60a_at.1, fun ds c r h hc => ?_⟩
  unfold s60 at h
  split at h
  · exact s60a_at.2 _ _ _ h hc
  · exact s60b_at.2 _ _ _ h hc
noncomputable def env33v : List (Nat × (List A → Option (Bool × A))) := (32, s60) :: env31v
theorem env33v_ok : EnvOK Try.prog (look env33v) := (env_cons s60_at env31v_ok)
noncomputable def cfg33v : Cfg := mkCfg tab [] xts (look env33v)
theorem cfg33v_ok : CfgOK Try.prog cfg33v := cfg_ok tab_eq (no_fts _) xts_ok env33v_ok mixed
end Go.Fw.E1
