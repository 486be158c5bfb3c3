/-
  Lists of wires: measured, copied, compared.
-/
import Derived.Test.YtlehhjphmenfbaaLpA
import Derived.Test.YtlehhjphmenfbaaFwC
import Derived.Test.YtlehhjphmenfbaaFwD

namespace Go.Fw.E1
open Go.Proofs

def szW (n : Nat → Nat) (left : Int) : Nat → Int
  | 0 => left
  | k + 1 => sz1 (szW n left k) (n k)
noncomputable def I51 (m : Nat) (n : Nat → Nat) (x y z : Nat → Nat → Nat) (cl : Nat → Bool) (cur : Nat → Nat) (left : Int) (k : Nat) : List A := [.ro 3 m (.wires n x y z cl cur), .int .i64 (szW n left k), .int .i64 0, .int .i64 (Int.ofNat k)]
noncomputable def J51 (m : Nat) (n : Nat → Nat) (x y z : Nat → Nat → Nat) (cl : Nat → Bool) (cur : Nat → Nat) (left : Int) (k : Nat) : List O := []
noncomputable def F51 : List A → List (Option O) → Option R3
  | [.ro 3 m (.wires n x y z cl cur), .int .i64 left, .int .i64 0, .int .i64 0], [] => some (.ite (Nat.ble m 4611686018427387000) (.ite (allUpTo (fun k => !decide (szW n left (k + 1) < 0)) (m)) (.leaf .normal (I51 m n x y z cl cur left (m)) (J51 m n x y z cl cur left (m))) (.leaf (.ret) ((fun k => [.ro 3 m (.wires n x y z cl cur), .int .i64 (szW n left (k + 1)), .int .i64 (Int.negSucc 0), .int .i64 (Int.ofNat k)]) (firstIdx (fun k => !decide (szW n left (k + 1) < 0)) (m))) (J51 m n x y z cl cur left (firstIdx (fun k => !decide (szW n left (k + 1) < 0)) (m))))) .fail)
  | _, _ => none
def szWs (left : Int) (m : Nat) (n : Nat → Nat) : Int := bif decide (IntKind.i64.wrap (left - Int.ofNat m) < 0) then Int.negSucc 0 else bif allUpTo (fun k => !decide (szW n (IntKind.i64.wrap (left - Int.ofNat m)) (k + 1) < 0)) m then szW n (IntKind.i64.wrap (left - Int.ofNat m)) m else Int.negSucc 0
theorem szWs_le {left : Int} {m : Nat} {n : Nat → Nat} (h0 : 0 ≤ left) (h1 : left ≤ 1048576) (hm : m ≤ 9223372036854775807) (hn : ∀ i, n i ≤ 9223372036854775807) : szWs left m n = -1 ∨ (0 ≤ szWs left m n ∧ szWs left m n ≤ left ∧ (m : Int) ≤ left ∧ ∀ k, k < m → (n k : Int) ≤ left) := by
  have e : IntKind.i64.wrap (left - Int.ofNat m) = left - m := by
    simp [IntKind.wrap, IntKind.bits, IntKind.signed]
    omega
  unfold szWs
  rw [e]
  by_cases h : left - (m : Int) < 0
  · rw [decide_eq_true h]; exact .inl rfl
  rw [decide_eq_false h]
  cases ha : allUpTo (fun k => !decide (szW n (left - m) (k + 1) < 0)) m
  · exact .inl rfl
  · have hall := allUpTo_iff.1 ha
    have key : ∀ k, k ≤ m → 0 ≤ szW n (left - m) k ∧ szW n (left - m) k ≤ left - m ∧ ∀ j, j < k → (n j : Int) ≤ left - m := by
      intro k
      induction k with
      | zero => intro _; exact ⟨by show 0 ≤ left - (m : Int); omega, Int.le_refl _, fun j hj => absurd hj (by omega)⟩
      | succ k ih =>
        intro hk
        obtain ⟨i1, i2, i3⟩ := ih (by omega)
        have hk2 := hall k (by omega)
        simp only [Bool.not_eq_true', decide_eq_false_iff_not] at hk2
        have e2 : szW n (left - m) (k + 1) = sz1 (szW n (left - m) k) (n k) := rfl
        rw [e2] at hk2 ⊢
        rcases sz1_le i1 (by omega) (hn k) with ⟨e3, _⟩ | ⟨e3, h3⟩
        · rw [e3] at hk2; omega
        · rw [e3] at hk2 ⊢
          refine ⟨by omega, by omega, fun j hj => ?_⟩
          rcases Nat.lt_or_ge j k with hjk | hjk
          · exact i3 j hjk
          · obtain rfl : j = k := by omega
            omega
    obtain ⟨k1, k2, k3⟩ := key m (Nat.le_refl _)
    exact .inr ⟨k1, by show szW n (left - m) m ≤ left; omega, by omega, fun k hk => by have := k3 k hk; omega⟩
theorem gen_set {f g : Nat → A} {k p : Nat} : (match decide (p = k) with | true => f k | false => match decide (p < k) with | true => f p | false => g p) = match decide (p < k + 1) with | true => f p | false => g p := by
  by_cases h : p = k
  · subst h; simp
  · have : (p < k + 1) = (p < k) := by simp; omega
    simp [h, this]
noncomputable def s51 : List A → Option (Bool × A)
  | [.ro 3 m (.wires n x y z cl cur), .int .i64 left] => some (Nat.ble m 4611686018427387000, .int .i64 (szWs left m n))
  | _ => none
noncomputable def I53 (m : Nat) (n : Nat → Nat) (x y z : Nat → Nat → Nat) (cl : Nat → Bool) (cur : Nat → Nat) (g : Nat → A) (k : Nat) : List A := [.ro 3 m (.wires n x y z cl cur), .sl 48 m, .int .i64 (Int.ofNat k)]
noncomputable def J53 (m : Nat) (n : Nat → Nat) (x y z : Nat → Nat → Nat) (cl : Nat → Bool) (cur : Nat → Nat) (g : Nat → A) (k : Nat) : List O := [.row 44 3 m (.gen fun j => match decide (j < k) with | true => (Row.wires n x y z cl cur : Row A).at j | false => g j)]
noncomputable def F53 : List A → List (Option O) → Option R3
  | [.ro 3 m (.wires n x y z cl cur), .sl 48 m1, .int .i64 0], [some (.row 44 3 m3 (.gen g))] => some (.ite (Nat.beq m m1 && Nat.beq m m3 && Nat.ble m 1048576 && allUpTo (shortW n) m) (.leaf .normal (I53 m n x y z cl cur g (m)) [.row 44 3 m (.wires n x y z cl cur)]) .fail)
  | _, _ => none
noncomputable def s27 : List A → Option (Bool × A)
  | [.agg [.ro 3 n (.vecs .f32 x y z), .bool cl, .flt .f32 cur], .agg [.ro 3 n2 (.vecs .f32 x2 y2 z2), .bool cl2, .flt .f32 cur2]] => some (Nat.beq n2 n && Nat.ble n 1048576 && allUpTo (sameVAt x y z x2 y2 z2) n && (cl == cl2) && sameF (fcvt .f32 .f64 cur) (fcvt .f32 .f64 cur2), .bool true)
  | _ => none
def eqWAt (n : Nat → Nat) (x y z : Nat → Nat → Nat) (cl : Nat → Bool) (cur : Nat → Nat) (n2 : Nat → Nat) (x2 y2 z2 : Nat → Nat → Nat) (cl2 : Nat → Bool) (cur2 : Nat → Nat) (i : Nat) : Bool := Nat.beq (n2 i) (n i) && Nat.ble (n i) 1048576 && allUpTo (sameVAt (x i) (y i) (z i) (x2 i) (y2 i) (z2 i)) (n i) && (cl i == cl2 i) && sameF (fcvt .f32 .f64 (cur i)) (fcvt .f32 .f64 (cur2 i))
noncomputable def env29 : List (Nat × (List A → Option (Bool × A))) := env28
theorem env29_ok : EnvOK Try.prog (look env29) := env28_ok
noncomputable def cfg29 : Cfg := mkCfg tab [] xts (look env29)
theorem cfg29_ok : CfgOK Try.prog cfg29 := cfg_ok tab_eq (no_fts _) xts_ok env29_ok mixed
noncomputable def I40 (m : Nat) (n : Nat → Nat) (x y z : Nat → Nat → Nat) (cl : Nat → Bool) (cur : Nat → Nat) (m2 : Nat) (n2 : Nat → Nat) (x2 y2 z2 : Nat → Nat → Nat) (cl2 : Nat → Bool) (cur2 : Nat → Nat) (k : Nat) : List A := [.ro 3 m (.wires n x y z cl cur), .ro 3 m2 (.wires n2 x2 y2 z2 cl2 cur2), .bool false, .int .i64 (Int.ofNat k)]
noncomputable def J40 (m : Nat) (n : Nat → Nat) (x y z : Nat → Nat → Nat) (cl : Nat → Bool) (cur : Nat → Nat) (m2 : Nat) (n2 : Nat → Nat) (x2 y2 z2 : Nat → Nat → Nat) (cl2 : Nat → Bool) (cur2 : Nat → Nat) (k : Nat) : List O := []
noncomputable def F40 : List A → List (Option O) → Option R3
  | [.ro 3 m (.wires n x y z cl cur), .ro 3 m2 (.wires n2 x2 y2 z2 cl2 cur2), .bool false, .int .i64 0], [] => some (.ite (Nat.beq m2 m && Nat.ble m 1048576 && allUpTo (eqWAt n x y z cl cur n2 x2 y2 z2 cl2 cur2) m) (.leaf .normal (I40 m n x y z cl cur m2 n2 x2 y2 z2 cl2 cur2 (m)) (J40 m n x y z cl cur m2 n2 x2 y2 z2 cl2 cur2 (m))) .fail)
  | _, _ => none
noncomputable def s40 : List A → Option (Bool × A)
  | [.ro 3 m (.wires n x y z cl cur), .ro 3 m2 (.wires n2 x2 y2 z2 cl2 cur2)] => some (Nat.beq m2 m && Nat.ble m 1048576 && allUpTo (eqWAt n x y z cl cur n2 x2 y2 z2 cl2 cur2) m, .bool true)
  | _ => none
end Go.Fw.E1

/-
  The sine of turns: what it calls.
-/
namespace Go.Fw.E1
open Go.Proofs

def absN (x : Nat) : Nat := x % 9223372036854775808
theorem sw64 : FloatKind.f64.format.signWeight = 9223372036854775808 := Eq.trans (show FloatKind.f64.format.signWeight = 2 ^ 63 by rfl) (by simp)
theorem auto129 (x : Nat) : autoLp cfg29 (fun _ => none) Try.f112 [.flt .f64 x] =
    some (!isNaN FloatKind.f64 x && (decide (0 ≤ bclr IntKind.u64 (Int.ofNat x) 9223372036854775808) && decide (bclr IntKind.u64 (Int.ofNat x) 9223372036854775808 < 18446744073709551616) && true), A.flt FloatKind.f64 (can FloatKind.f64 (bclr IntKind.u64 (Int.ofNat x) (Int.ofNat 9223372036854775808)).toNat)) := by kernel_rfl
noncomputable def s129 : List A → Option (Bool × A)
  | [.flt .f64 x] => some (!isNaN .f64 x, .flt .f64 (absN x))
  | _ => none
theorem s129_at : EnvAt Try.prog 112 s129 := of_auto cfg29_ok (lp_none _) Try.func112 (by kernel_rfl) (by kernel_rfl) fun ds cc rr h hc => by
  unfold s129 at h
  split at h
  · rename_i x
    simp only [Option.some.injEq, Prod.mk.injEq] at h
    obtain ⟨rfl, rfl⟩ := h
    refine auto_fit (auto129 x) ?_ ?_
    · have h1 : isNaN .f64 (x % 9223372036854775808) = false := by rw [isNaN_eq] at hc ⊢; rw [sw64] at hc ⊢; rw [Nat.mod_mod]; simpa using hc
      show A.flt .f64 (can .f64 (bclr .u64 (Int.ofNat x) 9223372036854775808).toNat) = _
      rw [bclr_abs]
      show A.flt .f64 (can .f64 (x % 9223372036854775808)) = A.flt .f64 (x % 9223372036854775808)
      rw [can_of_not h1]
    · rw [bclr_abs, hc, dec0]
      have := Nat.mod_lt x (show 0 < 9223372036854775808 by decide)
      simp; omega
  · cases h

theorem auto141 : autoLp cfg29 (fun _ => none) Try.f122 [] = some (true, A.flt FloatKind.f64 (can FloatKind.f64 9221120237041090561)) := by kernel_rfl
noncomputable def s141 : List A → Option (Bool × A)
  | [] => some (true, .flt .f64 (qnan .f64))
  | _ => none
theorem s141_at : EnvAt Try.prog 122 s141 := of_auto cfg29_ok (lp_none _) Try.func122 (by kernel_rfl) (by kernel_rfl) fun ds cc rr h hc => by
  unfold s141 at h
  split at h
  · simp only [Option.some.injEq, Prod.mk.injEq] at h
    obtain ⟨rfl, rfl⟩ := h
    exact auto_fit auto141 (by rw [show can .f64 9221120237041090561 = qnan .f64 by decide +kernel]) rfl
  · cases h
noncomputable def env30 : List (Nat × (List A → Option (Bool × A))) := (112, s129) :: (122, s141) :: env29
theorem env30_ok : EnvOK Try.prog (look env30) := (env_cons s129_at (env_cons s141_at env29_ok))
noncomputable def cfg30 : Cfg := mkCfg tab [] xts (look env30)
theorem cfg30_ok : CfgOK Try.prog cfg30 := cfg_ok tab_eq (no_fts _) xts_ok env30_ok mixed
theorem auto128 : autoLp cfg30 (fun _ => none) Try.f111 [] = some (fcvtOk .f64 .f32 (qnan .f64), A.flt .f32 (fcvt .f64 .f32 (qnan .f64))) := by kernel_rfl
noncomputable def s128 : List A → Option (Bool × A)
  | [] => some (true, .flt .f32 (qnan .f32))
  | _ => none
theorem s128_at : EnvAt Try.prog 111 s128 := of_auto cfg30_ok (lp_none _) Try.func111 (by kernel_rfl) (by kernel_rfl) fun ds cc rr h hc => by
  unfold s128 at h
  split at h
  · simp only [Option.some.injEq, Prod.mk.injEq] at h
    obtain ⟨rfl, rfl⟩ := h
    exact auto_fit auto128 (by rw [show fcvt .f64 .f32 (qnan .f64) = qnan .f32 by decide +kernel]) (by decide +kernel)
  · cases h
noncomputable def env31 : List (Nat × (List A → Option (Bool × A))) := (111, s128) :: env30
theorem env31_ok : EnvOK Try.prog (look env31) := (env_cons s128_at env30_ok)
noncomputable def cfg31 : Cfg := mkCfg tab [] xts (look env31)
theorem cfg31_ok : CfgOK Try.prog cfg31 := cfg_ok tab_eq (no_fts _) xts_ok env31_ok mixed
end Go.Fw.E1

/-
  The sine of turns: its eight steps.
-/
namespace Go.Fw.E1
open Go.Proofs

def kI (k : Nat) : Int := 8 - Int.ofNat k
def kF (k : Nat) : Nat := fofInt .f64 (8 - Int.ofNat k)
theorem kI_step {k : Nat} (h : k < 8) : fofInt FloatKind.f64 (IntKind.i64.wrap (IntKind.i64.wrap (Int.ofNat 2 * kI k) * IntKind.i64.wrap (IntKind.i64.wrap (Int.ofNat 2 * kI k) + Int.ofNat 1))) = den k ∧ IntKind.i64.wrap (kI k - Int.ofNat 1) = kI (k + 1) := by
  have e : ∀ k, k < 8 → IntKind.i64.wrap (IntKind.i64.wrap (Int.ofNat 2 * kI k) * IntKind.i64.wrap (IntKind.i64.wrap (Int.ofNat 2 * kI k) + Int.ofNat 1)) = denI k ∧ IntKind.i64.wrap (kI k - Int.ofNat 1) = kI (k + 1) := by decide +kernel
  exact ⟨by rw [(e k h).1]; rfl, (e k h).2⟩
theorem kI_test {k : Nat} (h : k < 8) : decide (kI k ≥ 1) = true := by
  unfold kI; simp; omega
theorem kI_end {k : Nat} (h : k = 8) : decide (kI k ≥ 1) = false := by
  subst h; decide
theorem kF_step {k : Nat} (h : k < 8) : fop BinOp.mul FloatKind.f64 (fop BinOp.mul FloatKind.f64 (can FloatKind.f64 4611686018427387904) (kF k)) (fop BinOp.add FloatKind.f64 (fop BinOp.mul FloatKind.f64 (can FloatKind.f64 4611686018427387904) (kF k)) (can FloatKind.f64 4607182418800017408)) = den k ∧ fop BinOp.sub FloatKind.f64 (kF k) (can FloatKind.f64 4607182418800017408) = kF (k + 1) := by
  have e : ∀ k, k < 8 → fop BinOp.mul FloatKind.f64 (fop BinOp.mul FloatKind.f64 (can FloatKind.f64 4611686018427387904) (kF k)) (fop BinOp.add FloatKind.f64 (fop BinOp.mul FloatKind.f64 (can FloatKind.f64 4611686018427387904) (kF k)) (can FloatKind.f64 4607182418800017408)) = den k ∧ fop BinOp.sub FloatKind.f64 (kF k) (can FloatKind.f64 4607182418800017408) = kF (k + 1) := by decide +kernel
  exact e k h
theorem kF_test {k : Nat} (h : k < 8) : (forder FloatKind.f64 (kF k) (can FloatKind.f64 4607182418800017408) == some Ordering.gt || forder FloatKind.f64 (kF k) (can FloatKind.f64 4607182418800017408) == some Ordering.eq) = true := by
  have e : ∀ k, k < 8 → (forder FloatKind.f64 (kF k) (can FloatKind.f64 4607182418800017408) == some Ordering.gt || forder FloatKind.f64 (kF k) (can FloatKind.f64 4607182418800017408) == some Ordering.eq) = true := by decide +kernel
  exact e k h
theorem kF_end {k : Nat} (h : k = 8) : (forder FloatKind.f64 (kF k) (can FloatKind.f64 4607182418800017408) == some Ordering.gt || forder FloatKind.f64 (kF k) (can FloatKind.f64 4607182418800017408) == some Ordering.eq) = false := by
  subst h; decide +kernel
noncomputable def I132a (t : Bool) (z u : Nat) (k : Nat) : List A := [.bool t, .flt .f64 z, .flt .f64 u, .flt .f64 (sp u k), .int .i64 (kI k)]
noncomputable def J132a (t : Bool) (z u : Nat) (k : Nat) : List O := []
noncomputable def F132a : List A → List (Option O) → Option R3
  | [.bool t, .flt .f64 z, .flt .f64 u, .flt .f64 p, .int .i64 k8], [] => some (.ite (Nat.beq p (sp u 0) && decide (k8 = kI 0)) (.leaf .normal (I132a t z u (8)) (J132a t z u (8))) .fail)
  | _, _ => none
noncomputable def I132b (t : Bool) (z u : Nat) (k : Nat) : List A := [.bool t, .flt .f64 z, .flt .f64 u, .flt .f64 (sp u k), .int .i64 (kI k)]
noncomputable def J132b (t : Bool) (z u : Nat) (k : Nat) : List O := []
noncomputable def F132b : List A → List (Option O) → Option R3
  | [.bool t, .flt .f64 z, .flt .f64 u, .flt .f64 p, .int .i64 k8], [] => some (.ite (Nat.beq p (sp u 0) && decide (k8 = kI 0)) (.leaf .normal (I132b t z u (8)) (J132b t z u (8))) .fail)
  | _, _ => none
noncomputable def I132c (t : Bool) (z u : Nat) (k : Nat) : List A := [.bool t, .flt .f64 z, .flt .f64 u, .flt .f64 (sp u k), .int .i64 (kI k)]
noncomputable def J132c (t : Bool) (z u : Nat) (k : Nat) : List O := []
noncomputable def F132c : List A → List (Option O) → Option R3
  | [.bool t, .flt .f64 z, .flt .f64 u, .flt .f64 p, .int .i64 k8], [] => some (.ite (Nat.beq p (sp u 0) && decide (k8 = kI 0)) (.leaf .normal (I132c t z u (8)) (J132c t z u (8))) .fail)
  | _, _ => none
noncomputable def I132d (t : Bool) (z u : Nat) (k : Nat) : List A := [.bool t, .flt .f64 z, .flt .f64 u, .flt .f64 (sp u k), .int .i64 (kI k)]
noncomputable def J132d (t : Bool) (z u : Nat) (k : Nat) : List O := []
noncomputable def F132d : List A → List (Option O) → Option R3
  | [.bool t, .flt .f64 z, .flt .f64 u, .flt .f64 p, .int .i64 k8], [] => some (.ite (Nat.beq p (sp u 0) && decide (k8 = kI 0)) (.leaf .normal (I132d t z u (8)) (J132d t z u (8))) .fail)
  | _, _ => none
noncomputable def I80a (t : Bool) (z u : Nat) (k : Nat) : List A := [.bool t, .flt .f64 z, .flt .f64 u, .flt .f64 (sp u k), .flt .f64 (kF k)]
noncomputable def J80a (t : Bool) (z u : Nat) (k : Nat) : List O := []
theorem round80a (t : Bool) (z u : Nat) (k : Nat) (L : XK → List A → List (Option O) → Prop) :
    ((exec cfg31 (fun _ => true) (fun _ => none) 0 1000 (loopOf Try.f74 0) (litSt Try.f74.ntmps 528 [5, 6, 7, 8, 9] [] (I80a t z u k) (J80a t z u k))).rt [5, 6, 7, 8, 9] []).Ok L =
    bif forder FloatKind.f64 (kF k) (can FloatKind.f64 4607182418800017408) == some Ordering.gt || forder FloatKind.f64 (kF k) (can FloatKind.f64 4607182418800017408) == some Ordering.eq then
      L (XK.normal) ([A.bool t, A.flt FloatKind.f64 z, A.flt FloatKind.f64 u, A.flt FloatKind.f64 (fop BinOp.sub FloatKind.f64 (can FloatKind.f64 4607182418800017408) (fop BinOp.quo FloatKind.f64 (fop BinOp.mul FloatKind.f64 u (sp u k)) (fop BinOp.mul FloatKind.f64 (fop BinOp.mul FloatKind.f64 (can FloatKind.f64 4611686018427387904) (kF k)) (fop BinOp.add FloatKind.f64 (fop BinOp.mul FloatKind.f64 (can FloatKind.f64 4611686018427387904) (kF k)) (can FloatKind.f64 4607182418800017408))))), A.flt FloatKind.f64 (fop BinOp.sub FloatKind.f64 (kF k) (can FloatKind.f64 4607182418800017408))]) ([])
    else
      L (XK.exit 0) ([A.bool t, A.flt FloatKind.f64 z, A.flt FloatKind.f64 u, A.flt FloatKind.f64 (sp u k), A.flt FloatKind.f64 (kF k)]) ([]) := by kernel_rfl
noncomputable def F80a : List A → List (Option O) → Option R3
  | [.bool t, .flt .f64 z, .flt .f64 u, .flt .f64 p, .flt .f64 k8], [] => some (.ite (Nat.beq p (sp u 0) && Nat.beq k8 (kF 0)) (.leaf .normal (I80a t z u (8)) (J80a t z u (8))) .fail)
  | _, _ => none
theorem loop80a : CodeOK Try.prog (fun _ σ => sumAt Try.f74.ntmps 528 [5, 6, 7, 8, 9] [] F80a σ) (.block 0 (.loop (loopOf Try.f74 0))) := by
  refine block_ok (own := fun _ => true) (lp := (fun _ => none)) (un := 0) (fuel := 1000) cfg31_ok (lp_none _) fun az os R hF hok => ?_
  unfold F80a at hF
  split at hF
  · rename_i t z u p k8
    injection hF with hF
    subst hF
    have hg := hok.guard
    have hg' := hg
    simp only [Bool.and_eq_true, Nat.ble_eq, Nat.beq_eq, decide_eq_true_eq] at hg'
    obtain ⟨rfl, rfl⟩ := hg'
    refine for_fact (ids := []) (fun _ => true) (8) (I80a t z u) (J80a t z u) _ (.ret) (I80a t z u) (I80a t z u) (I80a t z u (8)) (J80a t z u (8)) rfl (OSims.self _) (fun _ => rfl) (fun _ => rfl) (fun _ => ALe.self _) (fun _ => rfl) (ALe.self _) (OSims.self _) rfl (fun h => by cases h) (fun k hk L h1 h2 h3 => ?_) fun L hL => ?_
    · rw [round80a]

      by_cases hkm : k < 8
      · refine condT (kF_test hkm) ?_
        rw [(kF_step hkm).1, (kF_step hkm).2]
        exact h1 hkm rfl _ trivial
      · refine condE (kF_end (by omega)) ?_
        obtain rfl : k = 8 := by omega
        exact h3 rfl
    · exact ⟨fun _ => hL.1 hg, fun N _ h => by cases h⟩
  · cases hF

noncomputable def I80b (t : Bool) (z u : Nat) (k : Nat) : List A := [.bool t, .flt .f64 z, .flt .f64 u, .flt .f64 (sp u k), .flt .f64 (kF k)]
noncomputable def J80b (t : Bool) (z u : Nat) (k : Nat) : List O := []
theorem round80b (t : Bool) (z u : Nat) (k : Nat) (L : XK → List A → List (Option O) → Prop) :
    ((exec cfg31 (fun _ => true) (fun _ => none) 0 1000 (loopOf Try.f74 0) (litSt Try.f74.ntmps 576 [5, 6, 7, 8, 9] [] (I80b t z u k) (J80b t z u k))).rt [5, 6, 7, 8, 9] []).Ok L =
    bif forder FloatKind.f64 (kF k) (can FloatKind.f64 4607182418800017408) == some Ordering.gt || forder FloatKind.f64 (kF k) (can FloatKind.f64 4607182418800017408) == some Ordering.eq then
      L (XK.normal) ([A.bool t, A.flt FloatKind.f64 z, A.flt FloatKind.f64 u, A.flt FloatKind.f64 (fop BinOp.sub FloatKind.f64 (can FloatKind.f64 4607182418800017408) (fop BinOp.quo FloatKind.f64 (fop BinOp.mul FloatKind.f64 u (sp u k)) (fop BinOp.mul FloatKind.f64 (fop BinOp.mul FloatKind.f64 (can FloatKind.f64 4611686018427387904) (kF k)) (fop BinOp.add FloatKind.f64 (fop BinOp.mul FloatKind.f64 (can FloatKind.f64 4611686018427387904) (kF k)) (can FloatKind.f64 4607182418800017408))))), A.flt FloatKind.f64 (fop BinOp.sub FloatKind.f64 (kF k) (can FloatKind.f64 4607182418800017408))]) ([])
    else
      L (XK.exit 0) ([A.bool t, A.flt FloatKind.f64 z, A.flt FloatKind.f64 u, A.flt FloatKind.f64 (sp u k), A.flt FloatKind.f64 (kF k)]) ([]) := by kernel_rfl
noncomputable def F80b : List A → List (Option O) → Option R3
  | [.bool t, .flt .f64 z, .flt .f64 u, .flt .f64 p, .flt .f64 k8], [] => some (.ite (Nat.beq p (sp u 0) && Nat.beq k8 (kF 0)) (.leaf .normal (I80b t z u (8)) (J80b t z u (8))) .fail)
  | _, _ => none
theorem loop80b : CodeOK Try.prog (fun _ σ => sumAt Try.f74.ntmps 576 [5, 6, 7, 8, 9] [] F80b σ) (.block 0 (.loop (loopOf Try.f74 0))) := by
  refine block_ok (own := fun _ => true) (lp := (fun _ => none)) (un := 0) (fuel := 1000) cfg31_ok (lp_none _) fun az os R hF hok => ?_
  unfold F80b at hF
  split at hF
  · rename_i t z u p k8
    injection hF with hF
    subst hF
    have hg := hok.guard
    have hg' := hg
    simp only [Bool.and_eq_true, Nat.ble_eq, Nat.beq_eq, decide_eq_true_eq] at hg'
    obtain ⟨rfl, rfl⟩ := hg'
    refine for_fact (ids := []) (fun _ => true) (8) (I80b t z u) (J80b t z u) _ (.ret) (I80b t z u) (I80b t z u) (I80b t z u (8)) (J80b t z u (8)) rfl (OSims.self _) (fun _ => rfl) (fun _ => rfl) (fun _ => ALe.self _) (fun _ => rfl) (ALe.self _) (OSims.self _) rfl (fun h => by cases h) (fun k hk L h1 h2 h3 => ?_) fun L hL => ?_
    · rw [round80b]

      by_cases hkm : k < 8
      · refine condT (kF_test hkm) ?_
        rw [(kF_step hkm).1, (kF_step hkm).2]
        exact h1 hkm rfl _ trivial
      · refine condE (kF_end (by omega)) ?_
        obtain rfl : k = 8 := by omega
        exact h3 rfl
    · exact ⟨fun _ => hL.1 hg, fun N _ h => by cases h⟩
  · cases hF

noncomputable def I80c (t : Bool) (z u : Nat) (k : Nat) : List A := [.bool t, .flt .f64 z, .flt .f64 u, .flt .f64 (sp u k), .flt .f64 (kF k)]
noncomputable def J80c (t : Bool) (z u : Nat) (k : Nat) : List O := []
theorem round80c (t : Bool) (z u : Nat) (k : Nat) (L : XK → List A → List (Option O) → Prop) :
    ((exec cfg31 (fun _ => true) (fun _ => none) 0 1000 (loopOf Try.f74 0) (litSt Try.f74.ntmps 624 [5, 6, 7, 8, 9] [] (I80c t z u k) (J80c t z u k))).rt [5, 6, 7, 8, 9] []).Ok L =
    bif forder FloatKind.f64 (kF k) (can FloatKind.f64 4607182418800017408) == some Ordering.gt || forder FloatKind.f64 (kF k) (can FloatKind.f64 4607182418800017408) == some Ordering.eq then
      L (XK.normal) ([A.bool t, A.flt FloatKind.f64 z, A.flt FloatKind.f64 u, A.flt FloatKind.f64 (fop BinOp.sub FloatKind.f64 (can FloatKind.f64 4607182418800017408) (fop BinOp.quo FloatKind.f64 (fop BinOp.mul FloatKind.f64 u (sp u k)) (fop BinOp.mul FloatKind.f64 (fop BinOp.mul FloatKind.f64 (can FloatKind.f64 4611686018427387904) (kF k)) (fop BinOp.add FloatKind.f64 (fop BinOp.mul FloatKind.f64 (can FloatKind.f64 4611686018427387904) (kF k)) (can FloatKind.f64 4607182418800017408))))), A.flt FloatKind.f64 (fop BinOp.sub FloatKind.f64 (kF k) (can FloatKind.f64 4607182418800017408))]) ([])
    else
      L (XK.exit 0) ([A.bool t, A.flt FloatKind.f64 z, A.flt FloatKind.f64 u, A.flt FloatKind.f64 (sp u k), A.flt FloatKind.f64 (kF k)]) ([]) := by kernel_rfl
noncomputable def F80c : List A → List (Option O) → Option R3
  | [.bool t, .flt .f64 z, .flt .f64 u, .flt .f64 p, .flt .f64 k8], [] => some (.ite (Nat.beq p (sp u 0) && Nat.beq k8 (kF 0)) (.leaf .normal (I80c t z u (8)) (J80c t z u (8))) .fail)
  | _, _ => none
theorem loop80c : CodeOK Try.prog (fun _ σ => sumAt Try.f74.ntmps 624 [5, 6, 7, 8, 9] [] F80c σ) (.block 0 (.loop (loopOf Try.f74 0))) := by
  refine block_ok (own := fun _ => true) (lp := (fun _ => none)) (un := 0) (fuel := 1000) cfg31_ok (lp_none _) fun az os R hF hok => ?_
  unfold F80c at hF
  split at hF
  · rename_i t z u p k8
    injection hF with hF
    subst hF
    have hg := hok.guard
    have hg' := hg
    simp only [Bool.and_eq_true, Nat.ble_eq, Nat.beq_eq, decide_eq_true_eq] at hg'
    obtain ⟨rfl, rfl⟩ := hg'
    refine for_fact (ids := []) (fun _ => true) (8) (I80c t z u) (J80c t z u) _ (.ret) (I80c t z u) (I80c t z u) (I80c t z u (8)) (J80c t z u (8)) rfl (OSims.self _) (fun _ => rfl) (fun _ => rfl) (fun _ => ALe.self _) (fun _ => rfl) (ALe.self _) (OSims.self _) rfl (fun h => by cases h) (fun k hk L h1 h2 h3 => ?_) fun L hL => ?_
    · rw [round80c]

      by_cases hkm : k < 8
      · refine condT (kF_test hkm) ?_
        rw [(kF_step hkm).1, (kF_step hkm).2]
        exact h1 hkm rfl _ trivial
      · refine condE (kF_end (by omega)) ?_
        obtain rfl : k = 8 := by omega
        exact h3 rfl
    · exact ⟨fun _ => hL.1 hg, fun N _ h => by cases h⟩
  · cases hF

noncomputable def I80d (t : Bool) (z u : Nat) (k : Nat) : List A := [.bool t, .flt .f64 z, .flt .f64 u, .flt .f64 (sp u k), .flt .f64 (kF k)]
noncomputable def J80d (t : Bool) (z u : Nat) (k : Nat) : List O := []
theorem round80d (t : Bool) (z u : Nat) (k : Nat) (L : XK → List A → List (Option O) → Prop) :
    ((exec cfg31 (fun _ => true) (fun _ => none) 0 1000 (loopOf Try.f74 0) (litSt Try.f74.ntmps 672 [5, 6, 7, 8, 9] [] (I80d t z u k) (J80d t z u k))).rt [5, 6, 7, 8, 9] []).Ok L =
    bif forder FloatKind.f64 (kF k) (can FloatKind.f64 4607182418800017408) == some Ordering.gt || forder FloatKind.f64 (kF k) (can FloatKind.f64 4607182418800017408) == some Ordering.eq then
      L (XK.normal) ([A.bool t, A.flt FloatKind.f64 z, A.flt FloatKind.f64 u, A.flt FloatKind.f64 (fop BinOp.sub FloatKind.f64 (can FloatKind.f64 4607182418800017408) (fop BinOp.quo FloatKind.f64 (fop BinOp.mul FloatKind.f64 u (sp u k)) (fop BinOp.mul FloatKind.f64 (fop BinOp.mul FloatKind.f64 (can FloatKind.f64 4611686018427387904) (kF k)) (fop BinOp.add FloatKind.f64 (fop BinOp.mul FloatKind.f64 (can FloatKind.f64 4611686018427387904) (kF k)) (can FloatKind.f64 4607182418800017408))))), A.flt FloatKind.f64 (fop BinOp.sub FloatKind.f64 (kF k) (can FloatKind.f64 4607182418800017408))]) ([])
    else
      L (XK.exit 0) ([A.bool t, A.flt FloatKind.f64 z, A.flt FloatKind.f64 u, A.flt FloatKind.f64 (sp u k), A.flt FloatKind.f64 (kF k)]) ([]) := by kernel_rfl
noncomputable def F80d : List A → List (Option O) → Option R3
  | [.bool t, .flt .f64 z, .flt .f64 u, .flt .f64 p, .flt .f64 k8], [] => some (.ite (Nat.beq p (sp u 0) && Nat.beq k8 (kF 0)) (.leaf .normal (I80d t z u (8)) (J80d t z u (8))) .fail)
  | _, _ => none
theorem loop80d : CodeOK Try.prog (fun _ σ => sumAt Try.f74.ntmps 672 [5, 6, 7, 8, 9] [] F80d σ) (.block 0 (.loop (loopOf Try.f74 0))) := by
  refine block_ok (own := fun _ => true) (lp := (fun _ => none)) (un := 0) (fuel := 1000) cfg31_ok (lp_none _) fun az os R hF hok => ?_
  unfold F80d at hF
  split at hF
  · rename_i t z u p k8
    injection hF with hF
    subst hF
    have hg := hok.guard
    have hg' := hg
    simp only [Bool.and_eq_true, Nat.ble_eq, Nat.beq_eq, decide_eq_true_eq] at hg'
    obtain ⟨rfl, rfl⟩ := hg'
    refine for_fact (ids := []) (fun _ => true) (8) (I80d t z u) (J80d t z u) _ (.ret) (I80d t z u) (I80d t z u) (I80d t z u (8)) (J80d t z u (8)) rfl (OSims.self _) (fun _ => rfl) (fun _ => rfl) (fun _ => ALe.self _) (fun _ => rfl) (ALe.self _) (OSims.self _) rfl (fun h => by cases h) (fun k hk L h1 h2 h3 => ?_) fun L hL => ?_
    · rw [round80d]

      by_cases hkm : k < 8
      · refine condT (kF_test hkm) ?_
        rw [(kF_step hkm).1, (kF_step hkm).2]
        exact h1 hkm rfl _ trivial
      · refine condE (kF_end (by omega)) ?_
        obtain rfl : k = 8 := by omega
        exact h3 rfl
    · exact ⟨fun _ => hL.1 hg, fun N _ h => by cases h⟩
  · cases hF

noncomputable def N80 (σ : St) : T := match Nat.beq σ.next 528 with
  | true => sumAt Try.f74.ntmps 528 [5, 6, 7, 8, 9] [] F80a σ
  | false => match Nat.beq σ.next 576 with
    | true => sumAt Try.f74.ntmps 576 [5, 6, 7, 8, 9] [] F80b σ
    | false => match Nat.beq σ.next 624 with
      | true => sumAt Try.f74.ntmps 624 [5, 6, 7, 8, 9] [] F80c σ
      | false => sumAt Try.f74.ntmps 672 [5, 6, 7, 8, 9] [] F80d σ
theorem loopN80 : CodeOK Try.prog (fun _ σ => N80 σ) (.block 0 (.loop (loopOf Try.f74 0))) := by
  intro σ L hok
  replace hok : (N80 σ).Ok Try.prog L := hok
  unfold N80 at hok
  split at hok
  · exact loop80a σ L hok
  · split at hok
    · exact loop80b σ L hok
    · split at hok
      · exact loop80c σ L hok
      · exact loop80d σ L hok

end Go.Fw.E1

/-
  The sine of turns: contracts.
-/
namespace Go.Fw.E1
open Go.Proofs

theorem can0' : can .f32 0 = 0 := by decide +kernel
theorem fin_num (x : Nat) : fin x = num .f32 x := by
  unfold fin
  rw [can0', num_sub]
  cases num .f32 x <;> rfl
theorem big_absN {x : Nat} (h : num .f64 x = true) : geF (absN x) c52 = bigF x := by
  obtain ⟨s, m, i, hy⟩ := num_iff.1 h
  have := (big_abs hy).1
  rw [sw64] at this
  exact this
noncomputable def s132 : List A → Option (Bool × A)
  | [.flt .f64 x] => some (true, .flt .f64 (sineW x))
  | _ => none
noncomputable def lp80 : List (Nat × (St → T)) := [(0, N80)]
theorem lp80_ok : LpOK Try.prog (look lp80) (bodyOf Try.f74) := lp_loops (by kernel_rfl) (by kernel_rfl) fun p hp => by
  simp only [lp80, List.mem_cons, List.not_mem_nil, or_false] at hp
  rcases hp with rfl
  · exact loopN80
theorem auto80 (x : Nat) : autoLp cfg31 (look lp80) Try.f74 [.flt .f32 x] =
    some (bif !fin x then true else !isNaN FloatKind.f64 (fcvt FloatKind.f32 FloatKind.f64 x) && bif forder FloatKind.f64 (absN (fcvt FloatKind.f32 FloatKind.f64 x)) (can FloatKind.f64 4841369599423283200) == some Ordering.gt || forder FloatKind.f64 (absN (fcvt FloatKind.f32 FloatKind.f64 x)) (can FloatKind.f64 4841369599423283200) == some Ordering.eq then true else ftoIntOk FloatKind.f64 (fcvt FloatKind.f32 FloatKind.f64 x) IntKind.i64 && bif forder FloatKind.f64 (fop BinOp.sub FloatKind.f64 (fcvt FloatKind.f32 FloatKind.f64 x) (fofInt FloatKind.f64 (ftoInt FloatKind.f64 (fcvt FloatKind.f32 FloatKind.f64 x) IntKind.i64))) (can FloatKind.f64 0) == some Ordering.lt then bif forder FloatKind.f64 (fop BinOp.add FloatKind.f64 (fop BinOp.sub FloatKind.f64 (fcvt FloatKind.f32 FloatKind.f64 x) (fofInt FloatKind.f64 (ftoInt FloatKind.f64 (fcvt FloatKind.f32 FloatKind.f64 x) IntKind.i64))) (can FloatKind.f64 4607182418800017408)) (can FloatKind.f64 4602678819172646912) == some Ordering.gt || forder FloatKind.f64 (fop BinOp.add FloatKind.f64 (fop BinOp.sub FloatKind.f64 (fcvt FloatKind.f32 FloatKind.f64 x) (fofInt FloatKind.f64 (ftoInt FloatKind.f64 (fcvt FloatKind.f32 FloatKind.f64 x) IntKind.i64))) (can FloatKind.f64 4607182418800017408)) (can FloatKind.f64 4602678819172646912) == some Ordering.eq then bif forder FloatKind.f64 (fop BinOp.sub FloatKind.f64 (fop BinOp.add FloatKind.f64 (fop BinOp.sub FloatKind.f64 (fcvt FloatKind.f32 FloatKind.f64 x) (fofInt FloatKind.f64 (ftoInt FloatKind.f64 (fcvt FloatKind.f32 FloatKind.f64 x) IntKind.i64))) (can FloatKind.f64 4607182418800017408)) (can FloatKind.f64 4602678819172646912)) (can FloatKind.f64 4598175219545276416) == some Ordering.gt then (can FloatKind.f64 4607182418800017408).beq (sp (fop BinOp.mul FloatKind.f64 (fop BinOp.mul FloatKind.f64 (fop BinOp.sub FloatKind.f64 (can FloatKind.f64 4602678819172646912) (fop BinOp.sub FloatKind.f64 (fop BinOp.add FloatKind.f64 (fop BinOp.sub FloatKind.f64 (fcvt FloatKind.f32 FloatKind.f64 x) (fofInt FloatKind.f64 (ftoInt FloatKind.f64 (fcvt FloatKind.f32 FloatKind.f64 x) IntKind.i64))) (can FloatKind.f64 4607182418800017408)) (can FloatKind.f64 4602678819172646912))) (can FloatKind.f64 4618760256179416344)) (fop BinOp.mul FloatKind.f64 (fop BinOp.sub FloatKind.f64 (can FloatKind.f64 4602678819172646912) (fop BinOp.sub FloatKind.f64 (fop BinOp.add FloatKind.f64 (fop BinOp.sub FloatKind.f64 (fcvt FloatKind.f32 FloatKind.f64 x) (fofInt FloatKind.f64 (ftoInt FloatKind.f64 (fcvt FloatKind.f32 FloatKind.f64 x) IntKind.i64))) (can FloatKind.f64 4607182418800017408)) (can FloatKind.f64 4602678819172646912))) (can FloatKind.f64 4618760256179416344))) 0) && (can FloatKind.f64 4620693217682128896).beq (kF 0) && bif forder FloatKind.f64 (fop BinOp.add FloatKind.f64 (fop BinOp.sub FloatKind.f64 (fcvt FloatKind.f32 FloatKind.f64 x) (fofInt FloatKind.f64 (ftoInt FloatKind.f64 (fcvt FloatKind.f32 FloatKind.f64 x) IntKind.i64))) (can FloatKind.f64 4607182418800017408)) (can FloatKind.f64 4602678819172646912) == some Ordering.gt || forder FloatKind.f64 (fop BinOp.add FloatKind.f64 (fop BinOp.sub FloatKind.f64 (fcvt FloatKind.f32 FloatKind.f64 x) (fofInt FloatKind.f64 (ftoInt FloatKind.f64 (fcvt FloatKind.f32 FloatKind.f64 x) IntKind.i64))) (can FloatKind.f64 4607182418800017408)) (can FloatKind.f64 4602678819172646912) == some Ordering.eq then fcvtOk FloatKind.f64 FloatKind.f32 (fneg FloatKind.f64 (fop BinOp.mul FloatKind.f64 (fop BinOp.mul FloatKind.f64 (fop BinOp.sub FloatKind.f64 (can FloatKind.f64 4602678819172646912) (fop BinOp.sub FloatKind.f64 (fop BinOp.add FloatKind.f64 (fop BinOp.sub FloatKind.f64 (fcvt FloatKind.f32 FloatKind.f64 x) (fofInt FloatKind.f64 (ftoInt FloatKind.f64 (fcvt FloatKind.f32 FloatKind.f64 x) IntKind.i64))) (can FloatKind.f64 4607182418800017408)) (can FloatKind.f64 4602678819172646912))) (can FloatKind.f64 4618760256179416344)) (sp (fop BinOp.mul FloatKind.f64 (fop BinOp.mul FloatKind.f64 (fop BinOp.sub FloatKind.f64 (can FloatKind.f64 4602678819172646912) (fop BinOp.sub FloatKind.f64 (fop BinOp.add FloatKind.f64 (fop BinOp.sub FloatKind.f64 (fcvt FloatKind.f32 FloatKind.f64 x) (fofInt FloatKind.f64 (ftoInt FloatKind.f64 (fcvt FloatKind.f32 FloatKind.f64 x) IntKind.i64))) (can FloatKind.f64 4607182418800017408)) (can FloatKind.f64 4602678819172646912))) (can FloatKind.f64 4618760256179416344)) (fop BinOp.mul FloatKind.f64 (fop BinOp.sub FloatKind.f64 (can FloatKind.f64 4602678819172646912) (fop BinOp.sub FloatKind.f64 (fop BinOp.add FloatKind.f64 (fop BinOp.sub FloatKind.f64 (fcvt FloatKind.f32 FloatKind.f64 x) (fofInt FloatKind.f64 (ftoInt FloatKind.f64 (fcvt FloatKind.f32 FloatKind.f64 x) IntKind.i64))) (can FloatKind.f64 4607182418800017408)) (can FloatKind.f64 4602678819172646912))) (can FloatKind.f64 4618760256179416344))) 8))) && true else fcvtOk FloatKind.f64 FloatKind.f32 (fop BinOp.mul FloatKind.f64 (fop BinOp.mul FloatKind.f64 (fop BinOp.sub FloatKind.f64 (can FloatKind.f64 4602678819172646912) (fop BinOp.sub FloatKind.f64 (fop BinOp.add FloatKind.f64 (fop BinOp.sub FloatKind.f64 (fcvt FloatKind.f32 FloatKind.f64 x) (fofInt FloatKind.f64 (ftoInt FloatKind.f64 (fcvt FloatKind.f32 FloatKind.f64 x) IntKind.i64))) (can FloatKind.f64 4607182418800017408)) (can FloatKind.f64 4602678819172646912))) (can FloatKind.f64 4618760256179416344)) (sp (fop BinOp.mul FloatKind.f64 (fop BinOp.mul FloatKind.f64 (fop BinOp.sub FloatKind.f64 (can FloatKind.f64 4602678819172646912) (fop BinOp.sub FloatKind.f64 (fop BinOp.add FloatKind.f64 (fop BinOp.sub FloatKind.f64 (fcvt FloatKind.f32 FloatKind.f64 x) (fofInt FloatKind.f64 (ftoInt FloatKind.f64 (fcvt FloatKind.f32 FloatKind.f64 x) IntKind.i64))) (can FloatKind.f64 4607182418800017408)) (can FloatKind.f64 4602678819172646912))) (can FloatKind.f64 4618760256179416344)) (fop BinOp.mul FloatKind.f64 (fop BinOp.sub FloatKind.f64 (can FloatKind.f64 4602678819172646912) (fop BinOp.sub FloatKind.f64 (fop BinOp.add FloatKind.f64 (fop BinOp.sub FloatKind.f64 (fcvt FloatKind.f32 FloatKind.f64 x) (fofInt FloatKind.f64 (ftoInt FloatKind.f64 (fcvt FloatKind.f32 FloatKind.f64 x) IntKind.i64))) (can FloatKind.f64 4607182418800017408)) (can FloatKind.f64 4602678819172646912))) (can FloatKind.f64 4618760256179416344))) 8)) && true else (can FloatKind.f64 4607182418800017408).beq (sp (fop BinOp.mul FloatKind.f64 (fop BinOp.mul FloatKind.f64 (fop BinOp.sub FloatKind.f64 (fop BinOp.add FloatKind.f64 (fop BinOp.sub FloatKind.f64 (fcvt FloatKind.f32 FloatKind.f64 x) (fofInt FloatKind.f64 (ftoInt FloatKind.f64 (fcvt FloatKind.f32 FloatKind.f64 x) IntKind.i64))) (can FloatKind.f64 4607182418800017408)) (can FloatKind.f64 4602678819172646912)) (can FloatKind.f64 4618760256179416344)) (fop BinOp.mul FloatKind.f64 (fop BinOp.sub FloatKind.f64 (fop BinOp.add FloatKind.f64 (fop BinOp.sub FloatKind.f64 (fcvt FloatKind.f32 FloatKind.f64 x) (fofInt FloatKind.f64 (ftoInt FloatKind.f64 (fcvt FloatKind.f32 FloatKind.f64 x) IntKind.i64))) (can FloatKind.f64 4607182418800017408)) (can FloatKind.f64 4602678819172646912)) (can FloatKind.f64 4618760256179416344))) 0) && (can FloatKind.f64 4620693217682128896).beq (kF 0) && bif forder FloatKind.f64 (fop BinOp.add FloatKind.f64 (fop BinOp.sub FloatKind.f64 (fcvt FloatKind.f32 FloatKind.f64 x) (fofInt FloatKind.f64 (ftoInt FloatKind.f64 (fcvt FloatKind.f32 FloatKind.f64 x) IntKind.i64))) (can FloatKind.f64 4607182418800017408)) (can FloatKind.f64 4602678819172646912) == some Ordering.gt || forder FloatKind.f64 (fop BinOp.add FloatKind.f64 (fop BinOp.sub FloatKind.f64 (fcvt FloatKind.f32 FloatKind.f64 x) (fofInt FloatKind.f64 (ftoInt FloatKind.f64 (fcvt FloatKind.f32 FloatKind.f64 x) IntKind.i64))) (can FloatKind.f64 4607182418800017408)) (can FloatKind.f64 4602678819172646912) == some Ordering.eq then fcvtOk FloatKind.f64 FloatKind.f32 (fneg FloatKind.f64 (fop BinOp.mul FloatKind.f64 (fop BinOp.mul FloatKind.f64 (fop BinOp.sub FloatKind.f64 (fop BinOp.add FloatKind.f64 (fop BinOp.sub FloatKind.f64 (fcvt FloatKind.f32 FloatKind.f64 x) (fofInt FloatKind.f64 (ftoInt FloatKind.f64 (fcvt FloatKind.f32 FloatKind.f64 x) IntKind.i64))) (can FloatKind.f64 4607182418800017408)) (can FloatKind.f64 4602678819172646912)) (can FloatKind.f64 4618760256179416344)) (sp (fop BinOp.mul FloatKind.f64 (fop BinOp.mul FloatKind.f64 (fop BinOp.sub FloatKind.f64 (fop BinOp.add FloatKind.f64 (fop BinOp.sub FloatKind.f64 (fcvt FloatKind.f32 FloatKind.f64 x) (fofInt FloatKind.f64 (ftoInt FloatKind.f64 (fcvt FloatKind.f32 FloatKind.f64 x) IntKind.i64))) (can FloatKind.f64 4607182418800017408)) (can FloatKind.f64 4602678819172646912)) (can FloatKind.f64 4618760256179416344)) (fop BinOp.mul FloatKind.f64 (fop BinOp.sub FloatKind.f64 (fop BinOp.add FloatKind.f64 (fop BinOp.sub FloatKind.f64 (fcvt FloatKind.f32 FloatKind.f64 x) (fofInt FloatKind.f64 (ftoInt FloatKind.f64 (fcvt FloatKind.f32 FloatKind.f64 x) IntKind.i64))) (can FloatKind.f64 4607182418800017408)) (can FloatKind.f64 4602678819172646912)) (can FloatKind.f64 4618760256179416344))) 8))) && true else fcvtOk FloatKind.f64 FloatKind.f32 (fop BinOp.mul FloatKind.f64 (fop BinOp.mul FloatKind.f64 (fop BinOp.sub FloatKind.f64 (fop BinOp.add FloatKind.f64 (fop BinOp.sub FloatKind.f64 (fcvt FloatKind.f32 FloatKind.f64 x) (fofInt FloatKind.f64 (ftoInt FloatKind.f64 (fcvt FloatKind.f32 FloatKind.f64 x) IntKind.i64))) (can FloatKind.f64 4607182418800017408)) (can FloatKind.f64 4602678819172646912)) (can FloatKind.f64 4618760256179416344)) (sp (fop BinOp.mul FloatKind.f64 (fop BinOp.mul FloatKind.f64 (fop BinOp.sub FloatKind.f64 (fop BinOp.add FloatKind.f64 (fop BinOp.sub FloatKind.f64 (fcvt FloatKind.f32 FloatKind.f64 x) (fofInt FloatKind.f64 (ftoInt FloatKind.f64 (fcvt FloatKind.f32 FloatKind.f64 x) IntKind.i64))) (can FloatKind.f64 4607182418800017408)) (can FloatKind.f64 4602678819172646912)) (can FloatKind.f64 4618760256179416344)) (fop BinOp.mul FloatKind.f64 (fop BinOp.sub FloatKind.f64 (fop BinOp.add FloatKind.f64 (fop BinOp.sub FloatKind.f64 (fcvt FloatKind.f32 FloatKind.f64 x) (fofInt FloatKind.f64 (ftoInt FloatKind.f64 (fcvt FloatKind.f32 FloatKind.f64 x) IntKind.i64))) (can FloatKind.f64 4607182418800017408)) (can FloatKind.f64 4602678819172646912)) (can FloatKind.f64 4618760256179416344))) 8)) && true else bif forder FloatKind.f64 (fop BinOp.add FloatKind.f64 (fop BinOp.sub FloatKind.f64 (fcvt FloatKind.f32 FloatKind.f64 x) (fofInt FloatKind.f64 (ftoInt FloatKind.f64 (fcvt FloatKind.f32 FloatKind.f64 x) IntKind.i64))) (can FloatKind.f64 4607182418800017408)) (can FloatKind.f64 4598175219545276416) == some Ordering.gt then (can FloatKind.f64 4607182418800017408).beq (sp (fop BinOp.mul FloatKind.f64 (fop BinOp.mul FloatKind.f64 (fop BinOp.sub FloatKind.f64 (can FloatKind.f64 4602678819172646912) (fop BinOp.add FloatKind.f64 (fop BinOp.sub FloatKind.f64 (fcvt FloatKind.f32 FloatKind.f64 x) (fofInt FloatKind.f64 (ftoInt FloatKind.f64 (fcvt FloatKind.f32 FloatKind.f64 x) IntKind.i64))) (can FloatKind.f64 4607182418800017408))) (can FloatKind.f64 4618760256179416344)) (fop BinOp.mul FloatKind.f64 (fop BinOp.sub FloatKind.f64 (can FloatKind.f64 4602678819172646912) (fop BinOp.add FloatKind.f64 (fop BinOp.sub FloatKind.f64 (fcvt FloatKind.f32 FloatKind.f64 x) (fofInt FloatKind.f64 (ftoInt FloatKind.f64 (fcvt FloatKind.f32 FloatKind.f64 x) IntKind.i64))) (can FloatKind.f64 4607182418800017408))) (can FloatKind.f64 4618760256179416344))) 0) && (can FloatKind.f64 4620693217682128896).beq (kF 0) && bif forder FloatKind.f64 (fop BinOp.add FloatKind.f64 (fop BinOp.sub FloatKind.f64 (fcvt FloatKind.f32 FloatKind.f64 x) (fofInt FloatKind.f64 (ftoInt FloatKind.f64 (fcvt FloatKind.f32 FloatKind.f64 x) IntKind.i64))) (can FloatKind.f64 4607182418800017408)) (can FloatKind.f64 4602678819172646912) == some Ordering.gt || forder FloatKind.f64 (fop BinOp.add FloatKind.f64 (fop BinOp.sub FloatKind.f64 (fcvt FloatKind.f32 FloatKind.f64 x) (fofInt FloatKind.f64 (ftoInt FloatKind.f64 (fcvt FloatKind.f32 FloatKind.f64 x) IntKind.i64))) (can FloatKind.f64 4607182418800017408)) (can FloatKind.f64 4602678819172646912) == some Ordering.eq then fcvtOk FloatKind.f64 FloatKind.f32 (fneg FloatKind.f64 (fop BinOp.mul FloatKind.f64 (fop BinOp.mul FloatKind.f64 (fop BinOp.sub FloatKind.f64 (can FloatKind.f64 4602678819172646912) (fop BinOp.add FloatKind.f64 (fop BinOp.sub FloatKind.f64 (fcvt FloatKind.f32 FloatKind.f64 x) (fofInt FloatKind.f64 (ftoInt FloatKind.f64 (fcvt FloatKind.f32 FloatKind.f64 x) IntKind.i64))) (can FloatKind.f64 4607182418800017408))) (can FloatKind.f64 4618760256179416344)) (sp (fop BinOp.mul FloatKind.f64 (fop BinOp.mul FloatKind.f64 (fop BinOp.sub FloatKind.f64 (can FloatKind.f64 4602678819172646912) (fop BinOp.add FloatKind.f64 (fop BinOp.sub FloatKind.f64 (fcvt FloatKind.f32 FloatKind.f64 x) (fofInt FloatKind.f64 (ftoInt FloatKind.f64 (fcvt FloatKind.f32 FloatKind.f64 x) IntKind.i64))) (can FloatKind.f64 4607182418800017408))) (can FloatKind.f64 4618760256179416344)) (fop BinOp.mul FloatKind.f64 (fop BinOp.sub FloatKind.f64 (can FloatKind.f64 4602678819172646912) (fop BinOp.add FloatKind.f64 (fop BinOp.sub FloatKind.f64 (fcvt FloatKind.f32 FloatKind.f64 x) (fofInt FloatKind.f64 (ftoInt FloatKind.f64 (fcvt FloatKind.f32 FloatKind.f64 x) IntKind.i64))) (can FloatKind.f64 4607182418800017408))) (can FloatKind.f64 4618760256179416344))) 8))) && true else fcvtOk FloatKind.f64 FloatKind.f32 (fop BinOp.mul FloatKind.f64 (fop BinOp.mul FloatKind.f64 (fop BinOp.sub FloatKind.f64 (can FloatKind.f64 4602678819172646912) (fop BinOp.add FloatKind.f64 (fop BinOp.sub FloatKind.f64 (fcvt FloatKind.f32 FloatKind.f64 x) (fofInt FloatKind.f64 (ftoInt FloatKind.f64 (fcvt FloatKind.f32 FloatKind.f64 x) IntKind.i64))) (can FloatKind.f64 4607182418800017408))) (can FloatKind.f64 4618760256179416344)) (sp (fop BinOp.mul FloatKind.f64 (fop BinOp.mul FloatKind.f64 (fop BinOp.sub FloatKind.f64 (can FloatKind.f64 4602678819172646912) (fop BinOp.add FloatKind.f64 (fop BinOp.sub FloatKind.f64 (fcvt FloatKind.f32 FloatKind.f64 x) (fofInt FloatKind.f64 (ftoInt FloatKind.f64 (fcvt FloatKind.f32 FloatKind.f64 x) IntKind.i64))) (can FloatKind.f64 4607182418800017408))) (can FloatKind.f64 4618760256179416344)) (fop BinOp.mul FloatKind.f64 (fop BinOp.sub FloatKind.f64 (can FloatKind.f64 4602678819172646912) (fop BinOp.add FloatKind.f64 (fop BinOp.sub FloatKind.f64 (fcvt FloatKind.f32 FloatKind.f64 x) (fofInt FloatKind.f64 (ftoInt FloatKind.f64 (fcvt FloatKind.f32 FloatKind.f64 x) IntKind.i64))) (can FloatKind.f64 4607182418800017408))) (can FloatKind.f64 4618760256179416344))) 8)) && true else (can FloatKind.f64 4607182418800017408).beq (sp (fop BinOp.mul FloatKind.f64 (fop BinOp.mul FloatKind.f64 (fop BinOp.add FloatKind.f64 (fop BinOp.sub FloatKind.f64 (fcvt FloatKind.f32 FloatKind.f64 x) (fofInt FloatKind.f64 (ftoInt FloatKind.f64 (fcvt FloatKind.f32 FloatKind.f64 x) IntKind.i64))) (can FloatKind.f64 4607182418800017408)) (can FloatKind.f64 4618760256179416344)) (fop BinOp.mul FloatKind.f64 (fop BinOp.add FloatKind.f64 (fop BinOp.sub FloatKind.f64 (fcvt FloatKind.f32 FloatKind.f64 x) (fofInt FloatKind.f64 (ftoInt FloatKind.f64 (fcvt FloatKind.f32 FloatKind.f64 x) IntKind.i64))) (can FloatKind.f64 4607182418800017408)) (can FloatKind.f64 4618760256179416344))) 0) && (can FloatKind.f64 4620693217682128896).beq (kF 0) && bif forder FloatKind.f64 (fop BinOp.add FloatKind.f64 (fop BinOp.sub FloatKind.f64 (fcvt FloatKind.f32 FloatKind.f64 x) (fofInt FloatKind.f64 (ftoInt FloatKind.f64 (fcvt FloatKind.f32 FloatKind.f64 x) IntKind.i64))) (can FloatKind.f64 4607182418800017408)) (can FloatKind.f64 4602678819172646912) == some Ordering.gt || forder FloatKind.f64 (fop BinOp.add FloatKind.f64 (fop BinOp.sub FloatKind.f64 (fcvt FloatKind.f32 FloatKind.f64 x) (fofInt FloatKind.f64 (ftoInt FloatKind.f64 (fcvt FloatKind.f32 FloatKind.f64 x) IntKind.i64))) (can FloatKind.f64 4607182418800017408)) (can FloatKind.f64 4602678819172646912) == some Ordering.eq then fcvtOk FloatKind.f64 FloatKind.f32 (fneg FloatKind.f64 (fop BinOp.mul FloatKind.f64 (fop BinOp.mul FloatKind.f64 (fop BinOp.add FloatKind.f64 (fop BinOp.sub FloatKind.f64 (fcvt FloatKind.f32 FloatKind.f64 x) (fofInt FloatKind.f64 (ftoInt FloatKind.f64 (fcvt FloatKind.f32 FloatKind.f64 x) IntKind.i64))) (can FloatKind.f64 4607182418800017408)) (can FloatKind.f64 4618760256179416344)) (sp (fop BinOp.mul FloatKind.f64 (fop BinOp.mul FloatKind.f64 (fop BinOp.add FloatKind.f64 (fop BinOp.sub FloatKind.f64 (fcvt FloatKind.f32 FloatKind.f64 x) (fofInt FloatKind.f64 (ftoInt FloatKind.f64 (fcvt FloatKind.f32 FloatKind.f64 x) IntKind.i64))) (can FloatKind.f64 4607182418800017408)) (can FloatKind.f64 4618760256179416344)) (fop BinOp.mul FloatKind.f64 (fop BinOp.add FloatKind.f64 (fop BinOp.sub FloatKind.f64 (fcvt FloatKind.f32 FloatKind.f64 x) (fofInt FloatKind.f64 (ftoInt FloatKind.f64 (fcvt FloatKind.f32 FloatKind.f64 x) IntKind.i64))) (can FloatKind.f64 4607182418800017408)) (can FloatKind.f64 4618760256179416344))) 8))) && true else fcvtOk FloatKind.f64 FloatKind.f32 (fop BinOp.mul FloatKind.f64 (fop BinOp.mul FloatKind.f64 (fop BinOp.add FloatKind.f64 (fop BinOp.sub FloatKind.f64 (fcvt FloatKind.f32 FloatKind.f64 x) (fofInt FloatKind.f64 (ftoInt FloatKind.f64 (fcvt FloatKind.f32 FloatKind.f64 x) IntKind.i64))) (can FloatKind.f64 4607182418800017408)) (can FloatKind.f64 4618760256179416344)) (sp (fop BinOp.mul FloatKind.f64 (fop BinOp.mul FloatKind.f64 (fop BinOp.add FloatKind.f64 (fop BinOp.sub FloatKind.f64 (fcvt FloatKind.f32 FloatKind.f64 x) (fofInt FloatKind.f64 (ftoInt FloatKind.f64 (fcvt FloatKind.f32 FloatKind.f64 x) IntKind.i64))) (can FloatKind.f64 4607182418800017408)) (can FloatKind.f64 4618760256179416344)) (fop BinOp.mul FloatKind.f64 (fop BinOp.add FloatKind.f64 (fop BinOp.sub FloatKind.f64 (fcvt FloatKind.f32 FloatKind.f64 x) (fofInt FloatKind.f64 (ftoInt FloatKind.f64 (fcvt FloatKind.f32 FloatKind.f64 x) IntKind.i64))) (can FloatKind.f64 4607182418800017408)) (can FloatKind.f64 4618760256179416344))) 8)) && true else bif forder FloatKind.f64 (fop BinOp.sub FloatKind.f64 (fcvt FloatKind.f32 FloatKind.f64 x) (fofInt FloatKind.f64 (ftoInt FloatKind.f64 (fcvt FloatKind.f32 FloatKind.f64 x) IntKind.i64))) (can FloatKind.f64 4602678819172646912) == some Ordering.gt || forder FloatKind.f64 (fop BinOp.sub FloatKind.f64 (fcvt FloatKind.f32 FloatKind.f64 x) (fofInt FloatKind.f64 (ftoInt FloatKind.f64 (fcvt FloatKind.f32 FloatKind.f64 x) IntKind.i64))) (can FloatKind.f64 4602678819172646912) == some Ordering.eq then bif forder FloatKind.f64 (fop BinOp.sub FloatKind.f64 (fop BinOp.sub FloatKind.f64 (fcvt FloatKind.f32 FloatKind.f64 x) (fofInt FloatKind.f64 (ftoInt FloatKind.f64 (fcvt FloatKind.f32 FloatKind.f64 x) IntKind.i64))) (can FloatKind.f64 4602678819172646912)) (can FloatKind.f64 4598175219545276416) == some Ordering.gt then (can FloatKind.f64 4607182418800017408).beq (sp (fop BinOp.mul FloatKind.f64 (fop BinOp.mul FloatKind.f64 (fop BinOp.sub FloatKind.f64 (can FloatKind.f64 4602678819172646912) (fop BinOp.sub FloatKind.f64 (fop BinOp.sub FloatKind.f64 (fcvt FloatKind.f32 FloatKind.f64 x) (fofInt FloatKind.f64 (ftoInt FloatKind.f64 (fcvt FloatKind.f32 FloatKind.f64 x) IntKind.i64))) (can FloatKind.f64 4602678819172646912))) (can FloatKind.f64 4618760256179416344)) (fop BinOp.mul FloatKind.f64 (fop BinOp.sub FloatKind.f64 (can FloatKind.f64 4602678819172646912) (fop BinOp.sub FloatKind.f64 (fop BinOp.sub FloatKind.f64 (fcvt FloatKind.f32 FloatKind.f64 x) (fofInt FloatKind.f64 (ftoInt FloatKind.f64 (fcvt FloatKind.f32 FloatKind.f64 x) IntKind.i64))) (can FloatKind.f64 4602678819172646912))) (can FloatKind.f64 4618760256179416344))) 0) && (can FloatKind.f64 4620693217682128896).beq (kF 0) && bif forder FloatKind.f64 (fop BinOp.sub FloatKind.f64 (fcvt FloatKind.f32 FloatKind.f64 x) (fofInt FloatKind.f64 (ftoInt FloatKind.f64 (fcvt FloatKind.f32 FloatKind.f64 x) IntKind.i64))) (can FloatKind.f64 4602678819172646912) == some Ordering.gt || forder FloatKind.f64 (fop BinOp.sub FloatKind.f64 (fcvt FloatKind.f32 FloatKind.f64 x) (fofInt FloatKind.f64 (ftoInt FloatKind.f64 (fcvt FloatKind.f32 FloatKind.f64 x) IntKind.i64))) (can FloatKind.f64 4602678819172646912) == some Ordering.eq then fcvtOk FloatKind.f64 FloatKind.f32 (fneg FloatKind.f64 (fop BinOp.mul FloatKind.f64 (fop BinOp.mul FloatKind.f64 (fop BinOp.sub FloatKind.f64 (can FloatKind.f64 4602678819172646912) (fop BinOp.sub FloatKind.f64 (fop BinOp.sub FloatKind.f64 (fcvt FloatKind.f32 FloatKind.f64 x) (fofInt FloatKind.f64 (ftoInt FloatKind.f64 (fcvt FloatKind.f32 FloatKind.f64 x) IntKind.i64))) (can FloatKind.f64 4602678819172646912))) (can FloatKind.f64 4618760256179416344)) (sp (fop BinOp.mul FloatKind.f64 (fop BinOp.mul FloatKind.f64 (fop BinOp.sub FloatKind.f64 (can FloatKind.f64 4602678819172646912) (fop BinOp.sub FloatKind.f64 (fop BinOp.sub FloatKind.f64 (fcvt FloatKind.f32 FloatKind.f64 x) (fofInt FloatKind.f64 (ftoInt FloatKind.f64 (fcvt FloatKind.f32 FloatKind.f64 x) IntKind.i64))) (can FloatKind.f64 4602678819172646912))) (can FloatKind.f64 4618760256179416344)) (fop BinOp.mul FloatKind.f64 (fop BinOp.sub FloatKind.f64 (can FloatKind.f64 4602678819172646912) (fop BinOp.sub FloatKind.f64 (fop BinOp.sub FloatKind.f64 (fcvt FloatKind.f32 FloatKind.f64 x) (fofInt FloatKind.f64 (ftoInt FloatKind.f64 (fcvt FloatKind.f32 FloatKind.f64 x) IntKind.i64))) (can FloatKind.f64 4602678819172646912))) (can FloatKind.f64 4618760256179416344))) 8))) && true else fcvtOk FloatKind.f64 FloatKind.f32 (fop BinOp.mul FloatKind.f64 (fop BinOp.mul FloatKind.f64 (fop BinOp.sub FloatKind.f64 (can FloatKind.f64 4602678819172646912) (fop BinOp.sub FloatKind.f64 (fop BinOp.sub FloatKind.f64 (fcvt FloatKind.f32 FloatKind.f64 x) (fofInt FloatKind.f64 (ftoInt FloatKind.f64 (fcvt FloatKind.f32 FloatKind.f64 x) IntKind.i64))) (can FloatKind.f64 4602678819172646912))) (can FloatKind.f64 4618760256179416344)) (sp (fop BinOp.mul FloatKind.f64 (fop BinOp.mul FloatKind.f64 (fop BinOp.sub FloatKind.f64 (can FloatKind.f64 4602678819172646912) (fop BinOp.sub FloatKind.f64 (fop BinOp.sub FloatKind.f64 (fcvt FloatKind.f32 FloatKind.f64 x) (fofInt FloatKind.f64 (ftoInt FloatKind.f64 (fcvt FloatKind.f32 FloatKind.f64 x) IntKind.i64))) (can FloatKind.f64 4602678819172646912))) (can FloatKind.f64 4618760256179416344)) (fop BinOp.mul FloatKind.f64 (fop BinOp.sub FloatKind.f64 (can FloatKind.f64 4602678819172646912) (fop BinOp.sub FloatKind.f64 (fop BinOp.sub FloatKind.f64 (fcvt FloatKind.f32 FloatKind.f64 x) (fofInt FloatKind.f64 (ftoInt FloatKind.f64 (fcvt FloatKind.f32 FloatKind.f64 x) IntKind.i64))) (can FloatKind.f64 4602678819172646912))) (can FloatKind.f64 4618760256179416344))) 8)) && true else (can FloatKind.f64 4607182418800017408).beq (sp (fop BinOp.mul FloatKind.f64 (fop BinOp.mul FloatKind.f64 (fop BinOp.sub FloatKind.f64 (fop BinOp.sub FloatKind.f64 (fcvt FloatKind.f32 FloatKind.f64 x) (fofInt FloatKind.f64 (ftoInt FloatKind.f64 (fcvt FloatKind.f32 FloatKind.f64 x) IntKind.i64))) (can FloatKind.f64 4602678819172646912)) (can FloatKind.f64 4618760256179416344)) (fop BinOp.mul FloatKind.f64 (fop BinOp.sub FloatKind.f64 (fop BinOp.sub FloatKind.f64 (fcvt FloatKind.f32 FloatKind.f64 x) (fofInt FloatKind.f64 (ftoInt FloatKind.f64 (fcvt FloatKind.f32 FloatKind.f64 x) IntKind.i64))) (can FloatKind.f64 4602678819172646912)) (can FloatKind.f64 4618760256179416344))) 0) && (can FloatKind.f64 4620693217682128896).beq (kF 0) && bif forder FloatKind.f64 (fop BinOp.sub FloatKind.f64 (fcvt FloatKind.f32 FloatKind.f64 x) (fofInt FloatKind.f64 (ftoInt FloatKind.f64 (fcvt FloatKind.f32 FloatKind.f64 x) IntKind.i64))) (can FloatKind.f64 4602678819172646912) == some Ordering.gt || forder FloatKind.f64 (fop BinOp.sub FloatKind.f64 (fcvt FloatKind.f32 FloatKind.f64 x) (fofInt FloatKind.f64 (ftoInt FloatKind.f64 (fcvt FloatKind.f32 FloatKind.f64 x) IntKind.i64))) (can FloatKind.f64 4602678819172646912) == some Ordering.eq then fcvtOk FloatKind.f64 FloatKind.f32 (fneg FloatKind.f64 (fop BinOp.mul FloatKind.f64 (fop BinOp.mul FloatKind.f64 (fop BinOp.sub FloatKind.f64 (fop BinOp.sub FloatKind.f64 (fcvt FloatKind.f32 FloatKind.f64 x) (fofInt FloatKind.f64 (ftoInt FloatKind.f64 (fcvt FloatKind.f32 FloatKind.f64 x) IntKind.i64))) (can FloatKind.f64 4602678819172646912)) (can FloatKind.f64 4618760256179416344)) (sp (fop BinOp.mul FloatKind.f64 (fop BinOp.mul FloatKind.f64 (fop BinOp.sub FloatKind.f64 (fop BinOp.sub FloatKind.f64 (fcvt FloatKind.f32 FloatKind.f64 x) (fofInt FloatKind.f64 (ftoInt FloatKind.f64 (fcvt FloatKind.f32 FloatKind.f64 x) IntKind.i64))) (can FloatKind.f64 4602678819172646912)) (can FloatKind.f64 4618760256179416344)) (fop BinOp.mul FloatKind.f64 (fop BinOp.sub FloatKind.f64 (fop BinOp.sub FloatKind.f64 (fcvt FloatKind.f32 FloatKind.f64 x) (fofInt FloatKind.f64 (ftoInt FloatKind.f64 (fcvt FloatKind.f32 FloatKind.f64 x) IntKind.i64))) (can FloatKind.f64 4602678819172646912)) (can FloatKind.f64 4618760256179416344))) 8))) && true else fcvtOk FloatKind.f64 FloatKind.f32 (fop BinOp.mul FloatKind.f64 (fop BinOp.mul FloatKind.f64 (fop BinOp.sub FloatKind.f64 (fop BinOp.sub FloatKind.f64 (fcvt FloatKind.f32 FloatKind.f64 x) (fofInt FloatKind.f64 (ftoInt FloatKind.f64 (fcvt FloatKind.f32 FloatKind.f64 x) IntKind.i64))) (can FloatKind.f64 4602678819172646912)) (can FloatKind.f64 4618760256179416344)) (sp (fop BinOp.mul FloatKind.f64 (fop BinOp.mul FloatKind.f64 (fop BinOp.sub FloatKind.f64 (fop BinOp.sub FloatKind.f64 (fcvt FloatKind.f32 FloatKind.f64 x) (fofInt FloatKind.f64 (ftoInt FloatKind.f64 (fcvt FloatKind.f32 FloatKind.f64 x) IntKind.i64))) (can FloatKind.f64 4602678819172646912)) (can FloatKind.f64 4618760256179416344)) (fop BinOp.mul FloatKind.f64 (fop BinOp.sub FloatKind.f64 (fop BinOp.sub FloatKind.f64 (fcvt FloatKind.f32 FloatKind.f64 x) (fofInt FloatKind.f64 (ftoInt FloatKind.f64 (fcvt FloatKind.f32 FloatKind.f64 x) IntKind.i64))) (can FloatKind.f64 4602678819172646912)) (can FloatKind.f64 4618760256179416344))) 8)) && true else bif forder FloatKind.f64 (fop BinOp.sub FloatKind.f64 (fcvt FloatKind.f32 FloatKind.f64 x) (fofInt FloatKind.f64 (ftoInt FloatKind.f64 (fcvt FloatKind.f32 FloatKind.f64 x) IntKind.i64))) (can FloatKind.f64 4598175219545276416) == some Ordering.gt then (can FloatKind.f64 4607182418800017408).beq (sp (fop BinOp.mul FloatKind.f64 (fop BinOp.mul FloatKind.f64 (fop BinOp.sub FloatKind.f64 (can FloatKind.f64 4602678819172646912) (fop BinOp.sub FloatKind.f64 (fcvt FloatKind.f32 FloatKind.f64 x) (fofInt FloatKind.f64 (ftoInt FloatKind.f64 (fcvt FloatKind.f32 FloatKind.f64 x) IntKind.i64)))) (can FloatKind.f64 4618760256179416344)) (fop BinOp.mul FloatKind.f64 (fop BinOp.sub FloatKind.f64 (can FloatKind.f64 4602678819172646912) (fop BinOp.sub FloatKind.f64 (fcvt FloatKind.f32 FloatKind.f64 x) (fofInt FloatKind.f64 (ftoInt FloatKind.f64 (fcvt FloatKind.f32 FloatKind.f64 x) IntKind.i64)))) (can FloatKind.f64 4618760256179416344))) 0) && (can FloatKind.f64 4620693217682128896).beq (kF 0) && bif forder FloatKind.f64 (fop BinOp.sub FloatKind.f64 (fcvt FloatKind.f32 FloatKind.f64 x) (fofInt FloatKind.f64 (ftoInt FloatKind.f64 (fcvt FloatKind.f32 FloatKind.f64 x) IntKind.i64))) (can FloatKind.f64 4602678819172646912) == some Ordering.gt || forder FloatKind.f64 (fop BinOp.sub FloatKind.f64 (fcvt FloatKind.f32 FloatKind.f64 x) (fofInt FloatKind.f64 (ftoInt FloatKind.f64 (fcvt FloatKind.f32 FloatKind.f64 x) IntKind.i64))) (can FloatKind.f64 4602678819172646912) == some Ordering.eq then fcvtOk FloatKind.f64 FloatKind.f32 (fneg FloatKind.f64 (fop BinOp.mul FloatKind.f64 (fop BinOp.mul FloatKind.f64 (fop BinOp.sub FloatKind.f64 (can FloatKind.f64 4602678819172646912) (fop BinOp.sub FloatKind.f64 (fcvt FloatKind.f32 FloatKind.f64 x) (fofInt FloatKind.f64 (ftoInt FloatKind.f64 (fcvt FloatKind.f32 FloatKind.f64 x) IntKind.i64)))) (can FloatKind.f64 4618760256179416344)) (sp (fop BinOp.mul FloatKind.f64 (fop BinOp.mul FloatKind.f64 (fop BinOp.sub FloatKind.f64 (can FloatKind.f64 4602678819172646912) (fop BinOp.sub FloatKind.f64 (fcvt FloatKind.f32 FloatKind.f64 x) (fofInt FloatKind.f64 (ftoInt FloatKind.f64 (fcvt FloatKind.f32 FloatKind.f64 x) IntKind.i64)))) (can FloatKind.f64 4618760256179416344)) (fop BinOp.mul FloatKind.f64 (fop BinOp.sub FloatKind.f64 (can FloatKind.f64 4602678819172646912) (fop BinOp.sub FloatKind.f64 (fcvt FloatKind.f32 FloatKind.f64 x) (fofInt FloatKind.f64 (ftoInt FloatKind.f64 (fcvt FloatKind.f32 FloatKind.f64 x) IntKind.i64)))) (can FloatKind.f64 4618760256179416344))) 8))) && true else fcvtOk FloatKind.f64 FloatKind.f32 (fop BinOp.mul FloatKind.f64 (fop BinOp.mul FloatKind.f64 (fop BinOp.sub FloatKind.f64 (can FloatKind.f64 4602678819172646912) (fop BinOp.sub FloatKind.f64 (fcvt FloatKind.f32 FloatKind.f64 x) (fofInt FloatKind.f64 (ftoInt FloatKind.f64 (fcvt FloatKind.f32 FloatKind.f64 x) IntKind.i64)))) (can FloatKind.f64 4618760256179416344)) (sp (fop BinOp.mul FloatKind.f64 (fop BinOp.mul FloatKind.f64 (fop BinOp.sub FloatKind.f64 (can FloatKind.f64 4602678819172646912) (fop BinOp.sub FloatKind.f64 (fcvt FloatKind.f32 FloatKind.f64 x) (fofInt FloatKind.f64 (ftoInt FloatKind.f64 (fcvt FloatKind.f32 FloatKind.f64 x) IntKind.i64)))) (can FloatKind.f64 4618760256179416344)) (fop BinOp.mul FloatKind.f64 (fop BinOp.sub FloatKind.f64 (can FloatKind.f64 4602678819172646912) (fop BinOp.sub FloatKind.f64 (fcvt FloatKind.f32 FloatKind.f64 x) (fofInt FloatKind.f64 (ftoInt FloatKind.f64 (fcvt FloatKind.f32 FloatKind.f64 x) IntKind.i64)))) (can FloatKind.f64 4618760256179416344))) 8)) && true else (can FloatKind.f64 4607182418800017408).beq (sp (fop BinOp.mul FloatKind.f64 (fop BinOp.mul FloatKind.f64 (fop BinOp.sub FloatKind.f64 (fcvt FloatKind.f32 FloatKind.f64 x) (fofInt FloatKind.f64 (ftoInt FloatKind.f64 (fcvt FloatKind.f32 FloatKind.f64 x) IntKind.i64))) (can FloatKind.f64 4618760256179416344)) (fop BinOp.mul FloatKind.f64 (fop BinOp.sub FloatKind.f64 (fcvt FloatKind.f32 FloatKind.f64 x) (fofInt FloatKind.f64 (ftoInt FloatKind.f64 (fcvt FloatKind.f32 FloatKind.f64 x) IntKind.i64))) (can FloatKind.f64 4618760256179416344))) 0) && (can FloatKind.f64 4620693217682128896).beq (kF 0) && bif forder FloatKind.f64 (fop BinOp.sub FloatKind.f64 (fcvt FloatKind.f32 FloatKind.f64 x) (fofInt FloatKind.f64 (ftoInt FloatKind.f64 (fcvt FloatKind.f32 FloatKind.f64 x) IntKind.i64))) (can FloatKind.f64 4602678819172646912) == some Ordering.gt || forder FloatKind.f64 (fop BinOp.sub FloatKind.f64 (fcvt FloatKind.f32 FloatKind.f64 x) (fofInt FloatKind.f64 (ftoInt FloatKind.f64 (fcvt FloatKind.f32 FloatKind.f64 x) IntKind.i64))) (can FloatKind.f64 4602678819172646912) == some Ordering.eq then fcvtOk FloatKind.f64 FloatKind.f32 (fneg FloatKind.f64 (fop BinOp.mul FloatKind.f64 (fop BinOp.mul FloatKind.f64 (fop BinOp.sub FloatKind.f64 (fcvt FloatKind.f32 FloatKind.f64 x) (fofInt FloatKind.f64 (ftoInt FloatKind.f64 (fcvt FloatKind.f32 FloatKind.f64 x) IntKind.i64))) (can FloatKind.f64 4618760256179416344)) (sp (fop BinOp.mul FloatKind.f64 (fop BinOp.mul FloatKind.f64 (fop BinOp.sub FloatKind.f64 (fcvt FloatKind.f32 FloatKind.f64 x) (fofInt FloatKind.f64 (ftoInt FloatKind.f64 (fcvt FloatKind.f32 FloatKind.f64 x) IntKind.i64))) (can FloatKind.f64 4618760256179416344)) (fop BinOp.mul FloatKind.f64 (fop BinOp.sub FloatKind.f64 (fcvt FloatKind.f32 FloatKind.f64 x) (fofInt FloatKind.f64 (ftoInt FloatKind.f64 (fcvt FloatKind.f32 FloatKind.f64 x) IntKind.i64))) (can FloatKind.f64 4618760256179416344))) 8))) && true else fcvtOk FloatKind.f64 FloatKind.f32 (fop BinOp.mul FloatKind.f64 (fop BinOp.mul FloatKind.f64 (fop BinOp.sub FloatKind.f64 (fcvt FloatKind.f32 FloatKind.f64 x) (fofInt FloatKind.f64 (ftoInt FloatKind.f64 (fcvt FloatKind.f32 FloatKind.f64 x) IntKind.i64))) (can FloatKind.f64 4618760256179416344)) (sp (fop BinOp.mul FloatKind.f64 (fop BinOp.mul FloatKind.f64 (fop BinOp.sub FloatKind.f64 (fcvt FloatKind.f32 FloatKind.f64 x) (fofInt FloatKind.f64 (ftoInt FloatKind.f64 (fcvt FloatKind.f32 FloatKind.f64 x) IntKind.i64))) (can FloatKind.f64 4618760256179416344)) (fop BinOp.mul FloatKind.f64 (fop BinOp.sub FloatKind.f64 (fcvt FloatKind.f32 FloatKind.f64 x) (fofInt FloatKind.f64 (ftoInt FloatKind.f64 (fcvt FloatKind.f32 FloatKind.f64 x) IntKind.i64))) (can FloatKind.f64 4618760256179416344))) 8)) && true, A.flt FloatKind.f32 (bif !fin x then qnan FloatKind.f32 else bif forder FloatKind.f64 (absN (fcvt FloatKind.f32 FloatKind.f64 x)) (can FloatKind.f64 4841369599423283200) == some Ordering.gt || forder FloatKind.f64 (absN (fcvt FloatKind.f32 FloatKind.f64 x)) (can FloatKind.f64 4841369599423283200) == some Ordering.eq then can FloatKind.f32 0 else bif forder FloatKind.f64 (fop BinOp.sub FloatKind.f64 (fcvt FloatKind.f32 FloatKind.f64 x) (fofInt FloatKind.f64 (ftoInt FloatKind.f64 (fcvt FloatKind.f32 FloatKind.f64 x) IntKind.i64))) (can FloatKind.f64 0) == some Ordering.lt then bif forder FloatKind.f64 (fop BinOp.add FloatKind.f64 (fop BinOp.sub FloatKind.f64 (fcvt FloatKind.f32 FloatKind.f64 x) (fofInt FloatKind.f64 (ftoInt FloatKind.f64 (fcvt FloatKind.f32 FloatKind.f64 x) IntKind.i64))) (can FloatKind.f64 4607182418800017408)) (can FloatKind.f64 4602678819172646912) == some Ordering.gt || forder FloatKind.f64 (fop BinOp.add FloatKind.f64 (fop BinOp.sub FloatKind.f64 (fcvt FloatKind.f32 FloatKind.f64 x) (fofInt FloatKind.f64 (ftoInt FloatKind.f64 (fcvt FloatKind.f32 FloatKind.f64 x) IntKind.i64))) (can FloatKind.f64 4607182418800017408)) (can FloatKind.f64 4602678819172646912) == some Ordering.eq then bif forder FloatKind.f64 (fop BinOp.sub FloatKind.f64 (fop BinOp.add FloatKind.f64 (fop BinOp.sub FloatKind.f64 (fcvt FloatKind.f32 FloatKind.f64 x) (fofInt FloatKind.f64 (ftoInt FloatKind.f64 (fcvt FloatKind.f32 FloatKind.f64 x) IntKind.i64))) (can FloatKind.f64 4607182418800017408)) (can FloatKind.f64 4602678819172646912)) (can FloatKind.f64 4598175219545276416) == some Ordering.gt then bif forder FloatKind.f64 (fop BinOp.add FloatKind.f64 (fop BinOp.sub FloatKind.f64 (fcvt FloatKind.f32 FloatKind.f64 x) (fofInt FloatKind.f64 (ftoInt FloatKind.f64 (fcvt FloatKind.f32 FloatKind.f64 x) IntKind.i64))) (can FloatKind.f64 4607182418800017408)) (can FloatKind.f64 4602678819172646912) == some Ordering.gt || forder FloatKind.f64 (fop BinOp.add FloatKind.f64 (fop BinOp.sub FloatKind.f64 (fcvt FloatKind.f32 FloatKind.f64 x) (fofInt FloatKind.f64 (ftoInt FloatKind.f64 (fcvt FloatKind.f32 FloatKind.f64 x) IntKind.i64))) (can FloatKind.f64 4607182418800017408)) (can FloatKind.f64 4602678819172646912) == some Ordering.eq then fcvt FloatKind.f64 FloatKind.f32 (fneg FloatKind.f64 (fop BinOp.mul FloatKind.f64 (fop BinOp.mul FloatKind.f64 (fop BinOp.sub FloatKind.f64 (can FloatKind.f64 4602678819172646912) (fop BinOp.sub FloatKind.f64 (fop BinOp.add FloatKind.f64 (fop BinOp.sub FloatKind.f64 (fcvt FloatKind.f32 FloatKind.f64 x) (fofInt FloatKind.f64 (ftoInt FloatKind.f64 (fcvt FloatKind.f32 FloatKind.f64 x) IntKind.i64))) (can FloatKind.f64 4607182418800017408)) (can FloatKind.f64 4602678819172646912))) (can FloatKind.f64 4618760256179416344)) (sp (fop BinOp.mul FloatKind.f64 (fop BinOp.mul FloatKind.f64 (fop BinOp.sub FloatKind.f64 (can FloatKind.f64 4602678819172646912) (fop BinOp.sub FloatKind.f64 (fop BinOp.add FloatKind.f64 (fop BinOp.sub FloatKind.f64 (fcvt FloatKind.f32 FloatKind.f64 x) (fofInt FloatKind.f64 (ftoInt FloatKind.f64 (fcvt FloatKind.f32 FloatKind.f64 x) IntKind.i64))) (can FloatKind.f64 4607182418800017408)) (can FloatKind.f64 4602678819172646912))) (can FloatKind.f64 4618760256179416344)) (fop BinOp.mul FloatKind.f64 (fop BinOp.sub FloatKind.f64 (can FloatKind.f64 4602678819172646912) (fop BinOp.sub FloatKind.f64 (fop BinOp.add FloatKind.f64 (fop BinOp.sub FloatKind.f64 (fcvt FloatKind.f32 FloatKind.f64 x) (fofInt FloatKind.f64 (ftoInt FloatKind.f64 (fcvt FloatKind.f32 FloatKind.f64 x) IntKind.i64))) (can FloatKind.f64 4607182418800017408)) (can FloatKind.f64 4602678819172646912))) (can FloatKind.f64 4618760256179416344))) 8))) else fcvt FloatKind.f64 FloatKind.f32 (fop BinOp.mul FloatKind.f64 (fop BinOp.mul FloatKind.f64 (fop BinOp.sub FloatKind.f64 (can FloatKind.f64 4602678819172646912) (fop BinOp.sub FloatKind.f64 (fop BinOp.add FloatKind.f64 (fop BinOp.sub FloatKind.f64 (fcvt FloatKind.f32 FloatKind.f64 x) (fofInt FloatKind.f64 (ftoInt FloatKind.f64 (fcvt FloatKind.f32 FloatKind.f64 x) IntKind.i64))) (can FloatKind.f64 4607182418800017408)) (can FloatKind.f64 4602678819172646912))) (can FloatKind.f64 4618760256179416344)) (sp (fop BinOp.mul FloatKind.f64 (fop BinOp.mul FloatKind.f64 (fop BinOp.sub FloatKind.f64 (can FloatKind.f64 4602678819172646912) (fop BinOp.sub FloatKind.f64 (fop BinOp.add FloatKind.f64 (fop BinOp.sub FloatKind.f64 (fcvt FloatKind.f32 FloatKind.f64 x) (fofInt FloatKind.f64 (ftoInt FloatKind.f64 (fcvt FloatKind.f32 FloatKind.f64 x) IntKind.i64))) (can FloatKind.f64 4607182418800017408)) (can FloatKind.f64 4602678819172646912))) (can FloatKind.f64 4618760256179416344)) (fop BinOp.mul FloatKind.f64 (fop BinOp.sub FloatKind.f64 (can FloatKind.f64 4602678819172646912) (fop BinOp.sub FloatKind.f64 (fop BinOp.add FloatKind.f64 (fop BinOp.sub FloatKind.f64 (fcvt FloatKind.f32 FloatKind.f64 x) (fofInt FloatKind.f64 (ftoInt FloatKind.f64 (fcvt FloatKind.f32 FloatKind.f64 x) IntKind.i64))) (can FloatKind.f64 4607182418800017408)) (can FloatKind.f64 4602678819172646912))) (can FloatKind.f64 4618760256179416344))) 8)) else bif forder FloatKind.f64 (fop BinOp.add FloatKind.f64 (fop BinOp.sub FloatKind.f64 (fcvt FloatKind.f32 FloatKind.f64 x) (fofInt FloatKind.f64 (ftoInt FloatKind.f64 (fcvt FloatKind.f32 FloatKind.f64 x) IntKind.i64))) (can FloatKind.f64 4607182418800017408)) (can FloatKind.f64 4602678819172646912) == some Ordering.gt || forder FloatKind.f64 (fop BinOp.add FloatKind.f64 (fop BinOp.sub FloatKind.f64 (fcvt FloatKind.f32 FloatKind.f64 x) (fofInt FloatKind.f64 (ftoInt FloatKind.f64 (fcvt FloatKind.f32 FloatKind.f64 x) IntKind.i64))) (can FloatKind.f64 4607182418800017408)) (can FloatKind.f64 4602678819172646912) == some Ordering.eq then fcvt FloatKind.f64 FloatKind.f32 (fneg FloatKind.f64 (fop BinOp.mul FloatKind.f64 (fop BinOp.mul FloatKind.f64 (fop BinOp.sub FloatKind.f64 (fop BinOp.add FloatKind.f64 (fop BinOp.sub FloatKind.f64 (fcvt FloatKind.f32 FloatKind.f64 x) (fofInt FloatKind.f64 (ftoInt FloatKind.f64 (fcvt FloatKind.f32 FloatKind.f64 x) IntKind.i64))) (can FloatKind.f64 4607182418800017408)) (can FloatKind.f64 4602678819172646912)) (can FloatKind.f64 4618760256179416344)) (sp (fop BinOp.mul FloatKind.f64 (fop BinOp.mul FloatKind.f64 (fop BinOp.sub FloatKind.f64 (fop BinOp.add FloatKind.f64 (fop BinOp.sub FloatKind.f64 (fcvt FloatKind.f32 FloatKind.f64 x) (fofInt FloatKind.f64 (ftoInt FloatKind.f64 (fcvt FloatKind.f32 FloatKind.f64 x) IntKind.i64))) (can FloatKind.f64 4607182418800017408)) (can FloatKind.f64 4602678819172646912)) (can FloatKind.f64 4618760256179416344)) (fop BinOp.mul FloatKind.f64 (fop BinOp.sub FloatKind.f64 (fop BinOp.add FloatKind.f64 (fop BinOp.sub FloatKind.f64 (fcvt FloatKind.f32 FloatKind.f64 x) (fofInt FloatKind.f64 (ftoInt FloatKind.f64 (fcvt FloatKind.f32 FloatKind.f64 x) IntKind.i64))) (can FloatKind.f64 4607182418800017408)) (can FloatKind.f64 4602678819172646912)) (can FloatKind.f64 4618760256179416344))) 8))) else fcvt FloatKind.f64 FloatKind.f32 (fop BinOp.mul FloatKind.f64 (fop BinOp.mul FloatKind.f64 (fop BinOp.sub FloatKind.f64 (fop BinOp.add FloatKind.f64 (fop BinOp.sub FloatKind.f64 (fcvt FloatKind.f32 FloatKind.f64 x) (fofInt FloatKind.f64 (ftoInt FloatKind.f64 (fcvt FloatKind.f32 FloatKind.f64 x) IntKind.i64))) (can FloatKind.f64 4607182418800017408)) (can FloatKind.f64 4602678819172646912)) (can FloatKind.f64 4618760256179416344)) (sp (fop BinOp.mul FloatKind.f64 (fop BinOp.mul FloatKind.f64 (fop BinOp.sub FloatKind.f64 (fop BinOp.add FloatKind.f64 (fop BinOp.sub FloatKind.f64 (fcvt FloatKind.f32 FloatKind.f64 x) (fofInt FloatKind.f64 (ftoInt FloatKind.f64 (fcvt FloatKind.f32 FloatKind.f64 x) IntKind.i64))) (can FloatKind.f64 4607182418800017408)) (can FloatKind.f64 4602678819172646912)) (can FloatKind.f64 4618760256179416344)) (fop BinOp.mul FloatKind.f64 (fop BinOp.sub FloatKind.f64 (fop BinOp.add FloatKind.f64 (fop BinOp.sub FloatKind.f64 (fcvt FloatKind.f32 FloatKind.f64 x) (fofInt FloatKind.f64 (ftoInt FloatKind.f64 (fcvt FloatKind.f32 FloatKind.f64 x) IntKind.i64))) (can FloatKind.f64 4607182418800017408)) (can FloatKind.f64 4602678819172646912)) (can FloatKind.f64 4618760256179416344))) 8)) else bif forder FloatKind.f64 (fop BinOp.add FloatKind.f64 (fop BinOp.sub FloatKind.f64 (fcvt FloatKind.f32 FloatKind.f64 x) (fofInt FloatKind.f64 (ftoInt FloatKind.f64 (fcvt FloatKind.f32 FloatKind.f64 x) IntKind.i64))) (can FloatKind.f64 4607182418800017408)) (can FloatKind.f64 4598175219545276416) == some Ordering.gt then bif forder FloatKind.f64 (fop BinOp.add FloatKind.f64 (fop BinOp.sub FloatKind.f64 (fcvt FloatKind.f32 FloatKind.f64 x) (fofInt FloatKind.f64 (ftoInt FloatKind.f64 (fcvt FloatKind.f32 FloatKind.f64 x) IntKind.i64))) (can FloatKind.f64 4607182418800017408)) (can FloatKind.f64 4602678819172646912) == some Ordering.gt || forder FloatKind.f64 (fop BinOp.add FloatKind.f64 (fop BinOp.sub FloatKind.f64 (fcvt FloatKind.f32 FloatKind.f64 x) (fofInt FloatKind.f64 (ftoInt FloatKind.f64 (fcvt FloatKind.f32 FloatKind.f64 x) IntKind.i64))) (can FloatKind.f64 4607182418800017408)) (can FloatKind.f64 4602678819172646912) == some Ordering.eq then fcvt FloatKind.f64 FloatKind.f32 (fneg FloatKind.f64 (fop BinOp.mul FloatKind.f64 (fop BinOp.mul FloatKind.f64 (fop BinOp.sub FloatKind.f64 (can FloatKind.f64 4602678819172646912) (fop BinOp.add FloatKind.f64 (fop BinOp.sub FloatKind.f64 (fcvt FloatKind.f32 FloatKind.f64 x) (fofInt FloatKind.f64 (ftoInt FloatKind.f64 (fcvt FloatKind.f32 FloatKind.f64 x) IntKind.i64))) (can FloatKind.f64 4607182418800017408))) (can FloatKind.f64 4618760256179416344)) (sp (fop BinOp.mul FloatKind.f64 (fop BinOp.mul FloatKind.f64 (fop BinOp.sub FloatKind.f64 (can FloatKind.f64 4602678819172646912) (fop BinOp.add FloatKind.f64 (fop BinOp.sub FloatKind.f64 (fcvt FloatKind.f32 FloatKind.f64 x) (fofInt FloatKind.f64 (ftoInt FloatKind.f64 (fcvt FloatKind.f32 FloatKind.f64 x) IntKind.i64))) (can FloatKind.f64 4607182418800017408))) (can FloatKind.f64 4618760256179416344)) (fop BinOp.mul FloatKind.f64 (fop BinOp.sub FloatKind.f64 (can FloatKind.f64 4602678819172646912) (fop BinOp.add FloatKind.f64 (fop BinOp.sub FloatKind.f64 (fcvt FloatKind.f32 FloatKind.f64 x) (fofInt FloatKind.f64 (ftoInt FloatKind.f64 (fcvt FloatKind.f32 FloatKind.f64 x) IntKind.i64))) (can FloatKind.f64 4607182418800017408))) (can FloatKind.f64 4618760256179416344))) 8))) else fcvt FloatKind.f64 FloatKind.f32 (fop BinOp.mul FloatKind.f64 (fop BinOp.mul FloatKind.f64 (fop BinOp.sub FloatKind.f64 (can FloatKind.f64 4602678819172646912) (fop BinOp.add FloatKind.f64 (fop BinOp.sub FloatKind.f64 (fcvt FloatKind.f32 FloatKind.f64 x) (fofInt FloatKind.f64 (ftoInt FloatKind.f64 (fcvt FloatKind.f32 FloatKind.f64 x) IntKind.i64))) (can FloatKind.f64 4607182418800017408))) (can FloatKind.f64 4618760256179416344)) (sp (fop BinOp.mul FloatKind.f64 (fop BinOp.mul FloatKind.f64 (fop BinOp.sub FloatKind.f64 (can FloatKind.f64 4602678819172646912) (fop BinOp.add FloatKind.f64 (fop BinOp.sub FloatKind.f64 (fcvt FloatKind.f32 FloatKind.f64 x) (fofInt FloatKind.f64 (ftoInt FloatKind.f64 (fcvt FloatKind.f32 FloatKind.f64 x) IntKind.i64))) (can FloatKind.f64 4607182418800017408))) (can FloatKind.f64 4618760256179416344)) (fop BinOp.mul FloatKind.f64 (fop BinOp.sub FloatKind.f64 (can FloatKind.f64 4602678819172646912) (fop BinOp.add FloatKind.f64 (fop BinOp.sub FloatKind.f64 (fcvt FloatKind.f32 FloatKind.f64 x) (fofInt FloatKind.f64 (ftoInt FloatKind.f64 (fcvt FloatKind.f32 FloatKind.f64 x) IntKind.i64))) (can FloatKind.f64 4607182418800017408))) (can FloatKind.f64 4618760256179416344))) 8)) else bif forder FloatKind.f64 (fop BinOp.add FloatKind.f64 (fop BinOp.sub FloatKind.f64 (fcvt FloatKind.f32 FloatKind.f64 x) (fofInt FloatKind.f64 (ftoInt FloatKind.f64 (fcvt FloatKind.f32 FloatKind.f64 x) IntKind.i64))) (can FloatKind.f64 4607182418800017408)) (can FloatKind.f64 4602678819172646912) == some Ordering.gt || forder FloatKind.f64 (fop BinOp.add FloatKind.f64 (fop BinOp.sub FloatKind.f64 (fcvt FloatKind.f32 FloatKind.f64 x) (fofInt FloatKind.f64 (ftoInt FloatKind.f64 (fcvt FloatKind.f32 FloatKind.f64 x) IntKind.i64))) (can FloatKind.f64 4607182418800017408)) (can FloatKind.f64 4602678819172646912) == some Ordering.eq then fcvt FloatKind.f64 FloatKind.f32 (fneg FloatKind.f64 (fop BinOp.mul FloatKind.f64 (fop BinOp.mul FloatKind.f64 (fop BinOp.add FloatKind.f64 (fop BinOp.sub FloatKind.f64 (fcvt FloatKind.f32 FloatKind.f64 x) (fofInt FloatKind.f64 (ftoInt FloatKind.f64 (fcvt FloatKind.f32 FloatKind.f64 x) IntKind.i64))) (can FloatKind.f64 4607182418800017408)) (can FloatKind.f64 4618760256179416344)) (sp (fop BinOp.mul FloatKind.f64 (fop BinOp.mul FloatKind.f64 (fop BinOp.add FloatKind.f64 (fop BinOp.sub FloatKind.f64 (fcvt FloatKind.f32 FloatKind.f64 x) (fofInt FloatKind.f64 (ftoInt FloatKind.f64 (fcvt FloatKind.f32 FloatKind.f64 x) IntKind.i64))) (can FloatKind.f64 4607182418800017408)) (can FloatKind.f64 4618760256179416344)) (fop BinOp.mul FloatKind.f64 (fop BinOp.add FloatKind.f64 (fop BinOp.sub FloatKind.f64 (fcvt FloatKind.f32 FloatKind.f64 x) (fofInt FloatKind.f64 (ftoInt FloatKind.f64 (fcvt FloatKind.f32 FloatKind.f64 x) IntKind.i64))) (can FloatKind.f64 4607182418800017408)) (can FloatKind.f64 4618760256179416344))) 8))) else fcvt FloatKind.f64 FloatKind.f32 (fop BinOp.mul FloatKind.f64 (fop BinOp.mul FloatKind.f64 (fop BinOp.add FloatKind.f64 (fop BinOp.sub FloatKind.f64 (fcvt FloatKind.f32 FloatKind.f64 x) (fofInt FloatKind.f64 (ftoInt FloatKind.f64 (fcvt FloatKind.f32 FloatKind.f64 x) IntKind.i64))) (can FloatKind.f64 4607182418800017408)) (can FloatKind.f64 4618760256179416344)) (sp (fop BinOp.mul FloatKind.f64 (fop BinOp.mul FloatKind.f64 (fop BinOp.add FloatKind.f64 (fop BinOp.sub FloatKind.f64 (fcvt FloatKind.f32 FloatKind.f64 x) (fofInt FloatKind.f64 (ftoInt FloatKind.f64 (fcvt FloatKind.f32 FloatKind.f64 x) IntKind.i64))) (can FloatKind.f64 4607182418800017408)) (can FloatKind.f64 4618760256179416344)) (fop BinOp.mul FloatKind.f64 (fop BinOp.add FloatKind.f64 (fop BinOp.sub FloatKind.f64 (fcvt FloatKind.f32 FloatKind.f64 x) (fofInt FloatKind.f64 (ftoInt FloatKind.f64 (fcvt FloatKind.f32 FloatKind.f64 x) IntKind.i64))) (can FloatKind.f64 4607182418800017408)) (can FloatKind.f64 4618760256179416344))) 8)) else bif forder FloatKind.f64 (fop BinOp.sub FloatKind.f64 (fcvt FloatKind.f32 FloatKind.f64 x) (fofInt FloatKind.f64 (ftoInt FloatKind.f64 (fcvt FloatKind.f32 FloatKind.f64 x) IntKind.i64))) (can FloatKind.f64 4602678819172646912) == some Ordering.gt || forder FloatKind.f64 (fop BinOp.sub FloatKind.f64 (fcvt FloatKind.f32 FloatKind.f64 x) (fofInt FloatKind.f64 (ftoInt FloatKind.f64 (fcvt FloatKind.f32 FloatKind.f64 x) IntKind.i64))) (can FloatKind.f64 4602678819172646912) == some Ordering.eq then bif forder FloatKind.f64 (fop BinOp.sub FloatKind.f64 (fop BinOp.sub FloatKind.f64 (fcvt FloatKind.f32 FloatKind.f64 x) (fofInt FloatKind.f64 (ftoInt FloatKind.f64 (fcvt FloatKind.f32 FloatKind.f64 x) IntKind.i64))) (can FloatKind.f64 4602678819172646912)) (can FloatKind.f64 4598175219545276416) == some Ordering.gt then bif forder FloatKind.f64 (fop BinOp.sub FloatKind.f64 (fcvt FloatKind.f32 FloatKind.f64 x) (fofInt FloatKind.f64 (ftoInt FloatKind.f64 (fcvt FloatKind.f32 FloatKind.f64 x) IntKind.i64))) (can FloatKind.f64 4602678819172646912) == some Ordering.gt || forder FloatKind.f64 (fop BinOp.sub FloatKind.f64 (fcvt FloatKind.f32 FloatKind.f64 x) (fofInt FloatKind.f64 (ftoInt FloatKind.f64 (fcvt FloatKind.f32 FloatKind.f64 x) IntKind.i64))) (can FloatKind.f64 4602678819172646912) == some Ordering.eq then fcvt FloatKind.f64 FloatKind.f32 (fneg FloatKind.f64 (fop BinOp.mul FloatKind.f64 (fop BinOp.mul FloatKind.f64 (fop BinOp.sub FloatKind.f64 (can FloatKind.f64 4602678819172646912) (fop BinOp.sub FloatKind.f64 (fop BinOp.sub FloatKind.f64 (fcvt FloatKind.f32 FloatKind.f64 x) (fofInt FloatKind.f64 (ftoInt FloatKind.f64 (fcvt FloatKind.f32 FloatKind.f64 x) IntKind.i64))) (can FloatKind.f64 4602678819172646912))) (can FloatKind.f64 4618760256179416344)) (sp (fop BinOp.mul FloatKind.f64 (fop BinOp.mul FloatKind.f64 (fop BinOp.sub FloatKind.f64 (can FloatKind.f64 4602678819172646912) (fop BinOp.sub FloatKind.f64 (fop BinOp.sub FloatKind.f64 (fcvt FloatKind.f32 FloatKind.f64 x) (fofInt FloatKind.f64 (ftoInt FloatKind.f64 (fcvt FloatKind.f32 FloatKind.f64 x) IntKind.i64))) (can FloatKind.f64 4602678819172646912))) (can FloatKind.f64 4618760256179416344)) (fop BinOp.mul FloatKind.f64 (fop BinOp.sub FloatKind.f64 (can FloatKind.f64 4602678819172646912) (fop BinOp.sub FloatKind.f64 (fop BinOp.sub FloatKind.f64 (fcvt FloatKind.f32 FloatKind.f64 x) (fofInt FloatKind.f64 (ftoInt FloatKind.f64 (fcvt FloatKind.f32 FloatKind.f64 x) IntKind.i64))) (can FloatKind.f64 4602678819172646912))) (can FloatKind.f64 4618760256179416344))) 8))) else fcvt FloatKind.f64 FloatKind.f32 (fop BinOp.mul FloatKind.f64 (fop BinOp.mul FloatKind.f64 (fop BinOp.sub FloatKind.f64 (can FloatKind.f64 4602678819172646912) (fop BinOp.sub FloatKind.f64 (fop BinOp.sub FloatKind.f64 (fcvt FloatKind.f32 FloatKind.f64 x) (fofInt FloatKind.f64 (ftoInt FloatKind.f64 (fcvt FloatKind.f32 FloatKind.f64 x) IntKind.i64))) (can FloatKind.f64 4602678819172646912))) (can FloatKind.f64 4618760256179416344)) (sp (fop BinOp.mul FloatKind.f64 (fop BinOp.mul FloatKind.f64 (fop BinOp.sub FloatKind.f64 (can FloatKind.f64 4602678819172646912) (fop BinOp.sub FloatKind.f64 (fop BinOp.sub FloatKind.f64 (fcvt FloatKind.f32 FloatKind.f64 x) (fofInt FloatKind.f64 (ftoInt FloatKind.f64 (fcvt FloatKind.f32 FloatKind.f64 x) IntKind.i64))) (can FloatKind.f64 4602678819172646912))) (can FloatKind.f64 4618760256179416344)) (fop BinOp.mul FloatKind.f64 (fop BinOp.sub FloatKind.f64 (can FloatKind.f64 4602678819172646912) (fop BinOp.sub FloatKind.f64 (fop BinOp.sub FloatKind.f64 (fcvt FloatKind.f32 FloatKind.f64 x) (fofInt FloatKind.f64 (ftoInt FloatKind.f64 (fcvt FloatKind.f32 FloatKind.f64 x) IntKind.i64))) (can FloatKind.f64 4602678819172646912))) (can FloatKind.f64 4618760256179416344))) 8)) else bif forder FloatKind.f64 (fop BinOp.sub FloatKind.f64 (fcvt FloatKind.f32 FloatKind.f64 x) (fofInt FloatKind.f64 (ftoInt FloatKind.f64 (fcvt FloatKind.f32 FloatKind.f64 x) IntKind.i64))) (can FloatKind.f64 4602678819172646912) == some Ordering.gt || forder FloatKind.f64 (fop BinOp.sub FloatKind.f64 (fcvt FloatKind.f32 FloatKind.f64 x) (fofInt FloatKind.f64 (ftoInt FloatKind.f64 (fcvt FloatKind.f32 FloatKind.f64 x) IntKind.i64))) (can FloatKind.f64 4602678819172646912) == some Ordering.eq then fcvt FloatKind.f64 FloatKind.f32 (fneg FloatKind.f64 (fop BinOp.mul FloatKind.f64 (fop BinOp.mul FloatKind.f64 (fop BinOp.sub FloatKind.f64 (fop BinOp.sub FloatKind.f64 (fcvt FloatKind.f32 FloatKind.f64 x) (fofInt FloatKind.f64 (ftoInt FloatKind.f64 (fcvt FloatKind.f32 FloatKind.f64 x) IntKind.i64))) (can FloatKind.f64 4602678819172646912)) (can FloatKind.f64 4618760256179416344)) (sp (fop BinOp.mul FloatKind.f64 (fop BinOp.mul FloatKind.f64 (fop BinOp.sub FloatKind.f64 (fop BinOp.sub FloatKind.f64 (fcvt FloatKind.f32 FloatKind.f64 x) (fofInt FloatKind.f64 (ftoInt FloatKind.f64 (fcvt FloatKind.f32 FloatKind.f64 x) IntKind.i64))) (can FloatKind.f64 4602678819172646912)) (can FloatKind.f64 4618760256179416344)) (fop BinOp.mul FloatKind.f64 (fop BinOp.sub FloatKind.f64 (fop BinOp.sub FloatKind.f64 (fcvt FloatKind.f32 FloatKind.f64 x) (fofInt FloatKind.f64 (ftoInt FloatKind.f64 (fcvt FloatKind.f32 FloatKind.f64 x) IntKind.i64))) (can FloatKind.f64 4602678819172646912)) (can FloatKind.f64 4618760256179416344))) 8))) else fcvt FloatKind.f64 FloatKind.f32 (fop BinOp.mul FloatKind.f64 (fop BinOp.mul FloatKind.f64 (fop BinOp.sub FloatKind.f64 (fop BinOp.sub FloatKind.f64 (fcvt FloatKind.f32 FloatKind.f64 x) (fofInt FloatKind.f64 (ftoInt FloatKind.f64 (fcvt FloatKind.f32 FloatKind.f64 x) IntKind.i64))) (can FloatKind.f64 4602678819172646912)) (can FloatKind.f64 4618760256179416344)) (sp (fop BinOp.mul FloatKind.f64 (fop BinOp.mul FloatKind.f64 (fop BinOp.sub FloatKind.f64 (fop BinOp.sub FloatKind.f64 (fcvt FloatKind.f32 FloatKind.f64 x) (fofInt FloatKind.f64 (ftoInt FloatKind.f64 (fcvt FloatKind.f32 FloatKind.f64 x) IntKind.i64))) (can FloatKind.f64 4602678819172646912)) (can FloatKind.f64 4618760256179416344)) (fop BinOp.mul FloatKind.f64 (fop BinOp.sub FloatKind.f64 (fop BinOp.sub FloatKind.f64 (fcvt FloatKind.f32 FloatKind.f64 x) (fofInt FloatKind.f64 (ftoInt FloatKind.f64 (fcvt FloatKind.f32 FloatKind.f64 x) IntKind.i64))) (can FloatKind.f64 4602678819172646912)) (can FloatKind.f64 4618760256179416344))) 8)) else bif forder FloatKind.f64 (fop BinOp.sub FloatKind.f64 (fcvt FloatKind.f32 FloatKind.f64 x) (fofInt FloatKind.f64 (ftoInt FloatKind.f64 (fcvt FloatKind.f32 FloatKind.f64 x) IntKind.i64))) (can FloatKind.f64 4598175219545276416) == some Ordering.gt then bif forder FloatKind.f64 (fop BinOp.sub FloatKind.f64 (fcvt FloatKind.f32 FloatKind.f64 x) (fofInt FloatKind.f64 (ftoInt FloatKind.f64 (fcvt FloatKind.f32 FloatKind.f64 x) IntKind.i64))) (can FloatKind.f64 4602678819172646912) == some Ordering.gt || forder FloatKind.f64 (fop BinOp.sub FloatKind.f64 (fcvt FloatKind.f32 FloatKind.f64 x) (fofInt FloatKind.f64 (ftoInt FloatKind.f64 (fcvt FloatKind.f32 FloatKind.f64 x) IntKind.i64))) (can FloatKind.f64 4602678819172646912) == some Ordering.eq then fcvt FloatKind.f64 FloatKind.f32 (fneg FloatKind.f64 (fop BinOp.mul FloatKind.f64 (fop BinOp.mul FloatKind.f64 (fop BinOp.sub FloatKind.f64 (can FloatKind.f64 4602678819172646912) (fop BinOp.sub FloatKind.f64 (fcvt FloatKind.f32 FloatKind.f64 x) (fofInt FloatKind.f64 (ftoInt FloatKind.f64 (fcvt FloatKind.f32 FloatKind.f64 x) IntKind.i64)))) (can FloatKind.f64 4618760256179416344)) (sp (fop BinOp.mul FloatKind.f64 (fop BinOp.mul FloatKind.f64 (fop BinOp.sub FloatKind.f64 (can FloatKind.f64 4602678819172646912) (fop BinOp.sub FloatKind.f64 (fcvt FloatKind.f32 FloatKind.f64 x) (fofInt FloatKind.f64 (ftoInt FloatKind.f64 (fcvt FloatKind.f32 FloatKind.f64 x) IntKind.i64)))) (can FloatKind.f64 4618760256179416344)) (fop BinOp.mul FloatKind.f64 (fop BinOp.sub FloatKind.f64 (can FloatKind.f64 4602678819172646912) (fop BinOp.sub FloatKind.f64 (fcvt FloatKind.f32 FloatKind.f64 x) (fofInt FloatKind.f64 (ftoInt FloatKind.f64 (fcvt FloatKind.f32 FloatKind.f64 x) IntKind.i64)))) (can FloatKind.f64 4618760256179416344))) 8))) else fcvt FloatKind.f64 FloatKind.f32 (fop BinOp.mul FloatKind.f64 (fop BinOp.mul FloatKind.f64 (fop BinOp.sub FloatKind.f64 (can FloatKind.f64 4602678819172646912) (fop BinOp.sub FloatKind.f64 (fcvt FloatKind.f32 FloatKind.f64 x) (fofInt FloatKind.f64 (ftoInt FloatKind.f64 (fcvt FloatKind.f32 FloatKind.f64 x) IntKind.i64)))) (can FloatKind.f64 4618760256179416344)) (sp (fop BinOp.mul FloatKind.f64 (fop BinOp.mul FloatKind.f64 (fop BinOp.sub FloatKind.f64 (can FloatKind.f64 4602678819172646912) (fop BinOp.sub FloatKind.f64 (fcvt FloatKind.f32 FloatKind.f64 x) (fofInt FloatKind.f64 (ftoInt FloatKind.f64 (fcvt FloatKind.f32 FloatKind.f64 x) IntKind.i64)))) (can FloatKind.f64 4618760256179416344)) (fop BinOp.mul FloatKind.f64 (fop BinOp.sub FloatKind.f64 (can FloatKind.f64 4602678819172646912) (fop BinOp.sub FloatKind.f64 (fcvt FloatKind.f32 FloatKind.f64 x) (fofInt FloatKind.f64 (ftoInt FloatKind.f64 (fcvt FloatKind.f32 FloatKind.f64 x) IntKind.i64)))) (can FloatKind.f64 4618760256179416344))) 8)) else bif forder FloatKind.f64 (fop BinOp.sub FloatKind.f64 (fcvt FloatKind.f32 FloatKind.f64 x) (fofInt FloatKind.f64 (ftoInt FloatKind.f64 (fcvt FloatKind.f32 FloatKind.f64 x) IntKind.i64))) (can FloatKind.f64 4602678819172646912) == some Ordering.gt || forder FloatKind.f64 (fop BinOp.sub FloatKind.f64 (fcvt FloatKind.f32 FloatKind.f64 x) (fofInt FloatKind.f64 (ftoInt FloatKind.f64 (fcvt FloatKind.f32 FloatKind.f64 x) IntKind.i64))) (can FloatKind.f64 4602678819172646912) == some Ordering.eq then fcvt FloatKind.f64 FloatKind.f32 (fneg FloatKind.f64 (fop BinOp.mul FloatKind.f64 (fop BinOp.mul FloatKind.f64 (fop BinOp.sub FloatKind.f64 (fcvt FloatKind.f32 FloatKind.f64 x) (fofInt FloatKind.f64 (ftoInt FloatKind.f64 (fcvt FloatKind.f32 FloatKind.f64 x) IntKind.i64))) (can FloatKind.f64 4618760256179416344)) (sp (fop BinOp.mul FloatKind.f64 (fop BinOp.mul FloatKind.f64 (fop BinOp.sub FloatKind.f64 (fcvt FloatKind.f32 FloatKind.f64 x) (fofInt FloatKind.f64 (ftoInt FloatKind.f64 (fcvt FloatKind.f32 FloatKind.f64 x) IntKind.i64))) (can FloatKind.f64 4618760256179416344)) (fop BinOp.mul FloatKind.f64 (fop BinOp.sub FloatKind.f64 (fcvt FloatKind.f32 FloatKind.f64 x) (fofInt FloatKind.f64 (ftoInt FloatKind.f64 (fcvt FloatKind.f32 FloatKind.f64 x) IntKind.i64))) (can FloatKind.f64 4618760256179416344))) 8))) else fcvt FloatKind.f64 FloatKind.f32 (fop BinOp.mul FloatKind.f64 (fop BinOp.mul FloatKind.f64 (fop BinOp.sub FloatKind.f64 (fcvt FloatKind.f32 FloatKind.f64 x) (fofInt FloatKind.f64 (ftoInt FloatKind.f64 (fcvt FloatKind.f32 FloatKind.f64 x) IntKind.i64))) (can FloatKind.f64 4618760256179416344)) (sp (fop BinOp.mul FloatKind.f64 (fop BinOp.mul FloatKind.f64 (fop BinOp.sub FloatKind.f64 (fcvt FloatKind.f32 FloatKind.f64 x) (fofInt FloatKind.f64 (ftoInt FloatKind.f64 (fcvt FloatKind.f32 FloatKind.f64 x) IntKind.i64))) (can FloatKind.f64 4618760256179416344)) (fop BinOp.mul FloatKind.f64 (fop BinOp.sub FloatKind.f64 (fcvt FloatKind.f32 FloatKind.f64 x) (fofInt FloatKind.f64 (ftoInt FloatKind.f64 (fcvt FloatKind.f32 FloatKind.f64 x) IntKind.i64))) (can FloatKind.f64 4618760256179416344))) 8)))) := by kernel_rfl
noncomputable def s80 : List A → Option (Bool × A)
  | [.flt .f32 x] => some (true, .flt .f32 (fcvt .f64 .f32 (sineW (fcvt .f32 .f64 x))))
  | _ => none
theorem s80_at : EnvAt Try.prog 74 s80 := of_auto cfg31_ok lp80_ok Try.func74 (by kernel_rfl) (by kernel_rfl) fun ds cc rr h hc => by
  unfold s80 at h
  split at h
  · rename_i x
    simp only [Option.some.injEq, Prod.mk.injEq] at h
    obtain ⟨rfl, rfl⟩ := h
    refine auto_fit (auto80 x) ?_ ?_
    · show A.flt .f32 (bif !fin x then qnan .f32 else bif geF (absN (fcvt .f32 .f64 x)) c52 then can .f32 0 else treeS (fun g i => bif geF g (can .f64 4602678819172646912) then fcvt .f64 .f32 (fneg .f64 (sineP (fop .mul .f64 i (can .f64 4618760256179416344)))) else fcvt .f64 .f32 (sineP (fop .mul .f64 i (can .f64 4618760256179416344)))) (fracF (fcvt .f32 .f64 x))) = _
      rw [treeS_eq, fin_num, ← num_cvt]
      unfold sineW
      generalize fcvt .f32 .f64 x = y
      cases hn : num .f64 y
      · show A.flt .f32 (qnan .f32) = A.flt .f32 (fcvt .f64 .f32 (qnan .f64))
        rw [show fcvt .f64 .f32 (qnan .f64) = qnan .f32 by decide +kernel]
      · rw [big_absN hn]
        cases bigF y
        · show A.flt .f32 (bif geF (sineF1 (fracF y)) (can .f64 4602678819172646912) then _ else _) = A.flt .f32 (fcvt .f64 .f32 (bif geF (sineF1 (fracF y)) (can .f64 4602678819172646912) then _ else _))
          cases geF (sineF1 (fracF y)) (can .f64 4602678819172646912) <;> rfl
        · show A.flt .f32 (can .f32 0) = A.flt .f32 (fcvt .f64 .f32 (can .f64 0))
          rw [show fcvt .f64 .f32 (can .f64 0) = can .f32 0 by decide +kernel]
    · show (bif !fin x then true else !isNaN .f64 (fcvt .f32 .f64 x) && bif geF (absN (fcvt .f32 .f64 x)) c52 then true else ftoIntOk .f64 (fcvt .f32 .f64 x) .i64 && treeS (fun g i => Nat.beq (can .f64 4607182418800017408) (sp (fop .mul .f64 (fop .mul .f64 i (can .f64 4618760256179416344)) (fop .mul .f64 i (can .f64 4618760256179416344))) 0) && Nat.beq (can .f64 4620693217682128896) (kF 0) && bif geF g (can .f64 4602678819172646912) then fcvtOk .f64 .f32 (fneg .f64 (sineP (fop .mul .f64 i (can .f64 4618760256179416344)))) && true else fcvtOk .f64 .f32 (sineP (fop .mul .f64 i (can .f64 4618760256179416344))) && true) (fracF (fcvt .f32 .f64 x))) = true
      rw [treeS_eq, fin_num, ← num_cvt]
      generalize fcvt .f32 .f64 x = y
      cases hn : num .f64 y
      · rfl
      · rw [big_absN hn, num_nan hn]
        cases hb : bigF y
        · have hz : Le .f64 6 (fop .mul .f64 (sineF3 (sineF2 (sineF1 (fracF y)))) (can .f64 4618760256179416344)) := le_mul (le_sineF (frac_ok hn hb).2) le_ctau (by decide) (by decide)
          have p1 := cvt_down (le_sineP hz) (by decide) (by decide)
          have p2 := cvt_down (le_neg (le_sineP hz)) (by decide) (by decide)
          have p3 : Nat.beq (can .f64 4620693217682128896) (kF 0) = true := by decide +kernel
          rw [(frac_ok hn hb).1, p1, p2, p3]
          show (Nat.beq (can .f64 4607182418800017408) (can .f64 4607182418800017408) && true && _) = true
          rw [Nat.beq_refl, Bool.cond_self]; rfl
        · rfl
  · cases h

noncomputable def env32 : List (Nat × (List A → Option (Bool × A))) := (74, s80) :: env31
theorem env32_ok : EnvOK Try.prog (look env32) := (env_cons s80_at env31_ok)
noncomputable def cfg32 : Cfg := mkCfg tab [] xts (look env32)
theorem cfg32_ok : CfgOK Try.prog cfg32 := cfg_ok tab_eq (no_fts _) xts_ok env32_ok mixed
noncomputable def s93 : List A → Option (Bool × A)
  | [.flt .f32 x] => some (true, .flt .f32 (fcvt .f64 .f32 (sineW (fcvt .f32 .f64 x))))
  | _ => none
noncomputable def env33 : List (Nat × (List A → Option (Bool × A))) := env32
theorem env33_ok : EnvOK Try.prog (look env33) := env32_ok
noncomputable def cfg33 : Cfg := mkCfg tab [] xts (look env33)
theorem cfg33_ok : CfgOK Try.prog cfg33 := cfg_ok tab_eq (no_fts _) xts_ok env33_ok mixed
end Go.Fw.E1

/-
  Points of a ring: the loops.
-/
namespace Go.Fw.E1
open Go.Proofs
noncomputable def sine32 (x : Nat) : Nat := fcvt .f64 .f32 (sineW (fcvt .f32 .f64 x))
def ringQ (n : Int) (i : Nat) : Nat := fop .quo .f32 (fofInt .f32 (Int.ofNat i)) (fofInt .f32 n)
noncomputable def ringX (n : Int) (r i : Nat) : Nat := fop .mul .f32 r (fcvt .f64 .f32 (sineW (fcvt .f32 .f64 (fop .add .f32 (ringQ n i) (can .f32 1048576000)))))
noncomputable def ringY (n : Int) (r i : Nat) : Nat := fop .mul .f32 r (fcvt .f64 .f32 (sineW (fcvt .f32 .f64 (ringQ n i))))
theorem lt_int {k : Nat} {n : Int} (h : k < n.toNat) : decide (Int.ofNat k < n) = true := by simp; omega
theorem ge_int {k : Nat} {n : Int} (h : ¬ k < n.toNat) : decide (Int.ofNat k < n) = false := by simp; omega
theorem app3 {k j p : Nat} {u : Nat → Nat} {x : List Nat} (hx : x.getD j 0 = u k) (hp : p < k + 1) : (match decide (p < k) with | true => u p | false => ([x].getD (p - k) []).getD j 0) = u p := by
  by_cases h : p < k
  · rw [decide_eq_true h]
  · rw [decide_eq_false h]
    obtain rfl : p = k := by omega
    rw [Nat.sub_self]; exact hx
noncomputable def s74 : List A → Option (Bool × A)
  | [.flt .f32 q, .flt .f32 r, .flt .f32 z] => some (true, .agg [.flt .f32 (fop .mul .f32 r (fcvt .f64 .f32 (sineW (fcvt .f32 .f64 (fop .add .f32 q (can .f32 1048576000)))))), .flt .f32 (fop .mul .f32 r (fcvt .f64 .f32 (sineW (fcvt .f32 .f64 q)))), .flt .f32 z])
  | _ => none
noncomputable def env34 : List (Nat × (List A → Option (Bool × A))) := env33
theorem env34_ok : EnvOK Try.prog (look env34) := env33_ok
noncomputable def cfg34 : Cfg := mkCfg tab [] xts (look env34)
theorem cfg34_ok : CfgOK Try.prog cfg34 := cfg_ok tab_eq (no_fts _) xts_ok env34_ok mixed
noncomputable def cfgD : Cfg := mkCfg (nilTab tab) [] xts (look env34)
theorem cfgD_ok : CfgOK Try.prog cfgD := cfgN_ok' tab_eq (no_fts _) xts_ok env34_ok mixed
noncomputable def I84 (n : Int) (r h c : Nat) (k : Nat) : List A := [.int .i64 n, .flt .f32 r, .flt .f32 h, .int .i64 (Int.ofNat k), .ptr 64 0, .ptr 0 0]
noncomputable def J84 (n : Int) (r h c : Nat) (k : Nat) : List O := [.var [.sl 16 k, .bool true, .flt .f32 c], .row 30 3 k (.vecs .f32 (ringX n r) (ringY n r) (fun _ => h)), .var [.emp, .bool false, .flt .f32 0]]
noncomputable def F84 : List A → List (Option O) → Option R3
  | [.int .i64 n, .flt .f32 r, .flt .f32 h, .int .i64 0, .ptr 64 0, .ptr 0 0], [some (.var [.sl 16 0, .bool true, .flt .f32 c]), some (.row 30 3 0 g), some (.var [.emp, .bool false, .flt .f32 0])] => some (.ite (decide (n ≤ 1000)) (.leaf .normal (I84 n r h c (n.toNat)) (J84 n r h c (n.toNat))) .fail)
  | _, _ => none
noncomputable def I31 (n : Int) (r h c : Nat) (k : Nat) : List A := [.int .i64 n, .int .i64 n, .flt .f32 r, .flt .f32 h, .int .i64 (Int.ofNat k), .ptr 272 0, .ptr 0 0, .bool false]
noncomputable def J31 (n : Int) (r h c : Nat) (k : Nat) : List O := [.var [.sl 336 k, .bool true, .flt .f32 c], .row 30 3 k (.vecs .f32 (ringX n r) (ringY n r) (fun _ => h)), .var [.nils, .bool false, .flt .f32 0]]
theorem round31 (n : Int) (r h c : Nat) (k : Nat) (L : XK → List A → List (Option O) → Prop) :
    ((exec cfgD (fun _ => true) (fun _ => none) 0 1000 (loopOf Try.f20 0) (litSt Try.f20.ntmps 352 [29, 0, 1, 2, 30, 10, 8, 9] [272, 336, 0] (I31 n r h c k) (J31 n r h c k))).rt [29, 0, 1, 2, 30, 10, 8, 9] [272, 336, 0]).Ok L =
    bif decide (Int.ofNat k < n) then
      bif decide (k + 1 ≤ 1073741824) then
        L (XK.normal) ([A.int IntKind.i64 n, A.int IntKind.i64 n, A.flt FloatKind.f32 r, A.flt FloatKind.f32 h, A.int IntKind.i64 (IntKind.i64.wrap (Int.ofNat k + Int.ofNat 1)), A.ptr 272 0, A.ptr 0 0, A.bool false]) ([some (O.var [A.sl 336 (k + 1), A.bool true, A.flt FloatKind.f32 c]),   some     (O.row 30 3 (k + 1)       (Row.vecs FloatKind.f32         (fun j =>           match decide (j < k) with           | true => ringX n r j           | false => ([[fop BinOp.mul FloatKind.f32 r (fcvt FloatKind.f64 FloatKind.f32 (sineW (fcvt FloatKind.f32 FloatKind.f64 (fop BinOp.add FloatKind.f32 (fop BinOp.quo FloatKind.f32 (fofInt FloatKind.f32 (Int.ofNat k)) (fofInt FloatKind.f32 n)) (can FloatKind.f32 1048576000))))), fop BinOp.mul FloatKind.f32 r (fcvt FloatKind.f64 FloatKind.f32 (sineW (fcvt FloatKind.f32 FloatKind.f64 (fop BinOp.quo FloatKind.f32 (fofInt FloatKind.f32 (Int.ofNat k)) (fofInt FloatKind.f32 n))))), h]].getD (j - k) []).getD 0 0)         (fun j =>           match decide (j < k) with           | true => ringY n r j           | false => ([[fop BinOp.mul FloatKind.f32 r (fcvt FloatKind.f64 FloatKind.f32 (sineW (fcvt FloatKind.f32 FloatKind.f64 (fop BinOp.add FloatKind.f32 (fop BinOp.quo FloatKind.f32 (fofInt FloatKind.f32 (Int.ofNat k)) (fofInt FloatKind.f32 n)) (can FloatKind.f32 1048576000))))), fop BinOp.mul FloatKind.f32 r (fcvt FloatKind.f64 FloatKind.f32 (sineW (fcvt FloatKind.f32 FloatKind.f64 (fop BinOp.quo FloatKind.f32 (fofInt FloatKind.f32 (Int.ofNat k)) (fofInt FloatKind.f32 n))))), h]].getD (j - k) []).getD 1 0)         fun j =>         match decide (j < k) with         | true => h         | false => ([[fop BinOp.mul FloatKind.f32 r (fcvt FloatKind.f64 FloatKind.f32 (sineW (fcvt FloatKind.f32 FloatKind.f64 (fop BinOp.add FloatKind.f32 (fop BinOp.quo FloatKind.f32 (fofInt FloatKind.f32 (Int.ofNat k)) (fofInt FloatKind.f32 n)) (can FloatKind.f32 1048576000))))), fop BinOp.mul FloatKind.f32 r (fcvt FloatKind.f64 FloatKind.f32 (sineW (fcvt FloatKind.f32 FloatKind.f64 (fop BinOp.quo FloatKind.f32 (fofInt FloatKind.f32 (Int.ofNat k)) (fofInt FloatKind.f32 n))))), h]].getD (j - k) []).getD 2 0)),   some (O.var [A.nils, A.bool false, A.flt FloatKind.f32 0])])
      else
        False
    else
      L (XK.exit 0) ([A.int IntKind.i64 n, A.int IntKind.i64 n, A.flt FloatKind.f32 r, A.flt FloatKind.f32 h, A.int IntKind.i64 (Int.ofNat k), A.ptr 272 0, A.ptr 0 0, A.bool false]) ([some (O.var [A.sl 336 k, A.bool true, A.flt FloatKind.f32 c]), some (O.row 30 3 k (Row.vecs FloatKind.f32 (fun i => ringX n r i) (fun i => ringY n r i) fun x => h)), some (O.var [A.nils, A.bool false, A.flt FloatKind.f32 0])]) := by kernel_rfl
noncomputable def F31 : List A → List (Option O) → Option R3
  | [.int .i64 n2, .int .i64 n, .flt .f32 r, .flt .f32 h, .int .i64 0, .ptr 272 0, .ptr 0 0, .bool false], [some (.var [.sl 336 0, .bool true, .flt .f32 c]), some (.row 30 3 0 g), some (.var [.nils, .bool false, .flt .f32 0])] => some (.ite (decide (n = n2) && decide (n ≤ 1000)) (.leaf .normal (I31 n r h c (n.toNat)) (J31 n r h c (n.toNat))) .fail)
  | _, _ => none
theorem loop31 : CodeOK Try.prog (fun _ σ => sumAt Try.f20.ntmps 352 [29, 0, 1, 2, 30, 10, 8, 9] [272, 336, 0] F31 σ) (.block 0 (.loop (loopOf Try.f20 0))) := by
  refine block_ok (own := fun _ => true) (lp := (fun _ => none)) (un := 0) (fuel := 1000) cfgD_ok (lp_none _) fun az os R hF hok => ?_
  unfold F31 at hF
  split at hF
  · rename_i n2 n r h c g
    injection hF with hF
    subst hF
    have hg := hok.guard
    have hg' := hg
    simp only [Bool.and_eq_true, Nat.ble_eq, Nat.beq_eq, decide_eq_true_eq] at hg'
    obtain ⟨rfl, hn⟩ := hg'
    refine for_fact (ids := [272, 336, 0]) (fun _ => true) (n.toNat) (I31 n r h c) (J31 n r h c) _ (.ret) (I31 n r h c) (I31 n r h c) (I31 n r h c (n.toNat)) (J31 n r h c (n.toNat)) rfl (by unfold J31; exact ⟨rfl, ⟨30, _, rfl, .inr rfl, fun p hp => absurd hp (by omega)⟩, rfl, trivial⟩) (fun _ => rfl) (fun _ => rfl) (fun _ => ALe.self _) (fun _ => rfl) (ALe.self _) (OSims.self _) rfl (fun h => by cases h) (fun k hk L h1 h2 h3 => ?_) fun L hL => ?_
    · rw [round31]

      by_cases hkm : k < n.toNat
      · refine condT (lt_int hkm) ?_
        rw [wrap_succ (by omega)]
        refine condT (decide_eq_true (by omega)) ?_
        exact h1 hkm rfl _ ⟨rfl, ⟨30, _, rfl, .inr rfl, fun p hp => vec_at (app3 (u := ringX n r) rfl hp) (app3 (u := ringY n r) rfl hp) (app3 (u := fun _ => h) rfl hp)⟩, rfl, trivial⟩
      · refine condE (ge_int hkm) ?_
        obtain rfl : k = n.toNat := by omega
        exact h3 rfl
    · exact ⟨fun _ => hL.1 hg, fun N _ h => by cases h⟩
  · cases hF

noncomputable def N31 : St → T := nilW 272 0 30 3 (sumAt Try.f20.ntmps 352 [29, 0, 1, 2, 30, 10, 8, 9] [272, 336, 0] F31)
theorem loopN31 : CodeOK Try.prog (fun _ σ => N31 σ) (.block 0 (.loop (loopOf Try.f20 0))) := nilW_ok loop31
end Go.Fw.E1

/-
  Points of a helix: the loops; rings as wires.
-/
namespace Go.Fw.E1
open Go.Proofs
def helixZ (s i : Nat) : Nat := fop .mul .f32 (fofInt .f32 (Int.ofNat i)) s
noncomputable def I25 (n m : Int) (r s c : Nat) (k : Nat) : List A := [.int .i64 n, .int .i64 m, .flt .f32 r, .flt .f32 s, .int .i64 (Int.ofNat k), .ptr 288 0, .ptr 0 0, .bool false]
noncomputable def J25 (n m : Int) (r s c : Nat) (k : Nat) : List O := [.var [.sl 240 k, .bool false, .flt .f32 c], .row 30 3 k (.vecs .f32 (ringX m r) (ringY m r) (helixZ s)), .var [.emp, .bool false, .flt .f32 0]]
noncomputable def F25 : List A → List (Option O) → Option R3
  | [.int .i64 n, .int .i64 m, .flt .f32 r, .flt .f32 s, .int .i64 0, .ptr 288 0, .ptr 0 0, .bool false], [some (.var [.sl 240 0, .bool false, .flt .f32 c]), some (.row 30 3 0 g), some (.var [.emp, .bool false, .flt .f32 0])] => some (.ite (decide (n ≤ 1000)) (.leaf .normal (I25 n m r s c (n.toNat)) (J25 n m r s c (n.toNat))) .fail)
  | _, _ => none
noncomputable def I26 (n m : Int) (r s c : Nat) (k : Nat) : List A := [.int .i64 n, .int .i64 n, .int .i64 m, .flt .f32 r, .flt .f32 s, .int .i64 (Int.ofNat k), .ptr 352 0, .ptr 0 0, .bool false]
noncomputable def J26 (n m : Int) (r s c : Nat) (k : Nat) : List O := [.var [.sl 416 k, .bool false, .flt .f32 c], .row 30 3 k (.vecs .f32 (ringX m r) (ringY m r) (helixZ s)), .var [.nils, .bool false, .flt .f32 0]]
theorem round26 (n m : Int) (r s c : Nat) (k : Nat) (L : XK → List A → List (Option O) → Prop) :
    ((exec cfgD (fun _ => true) (fun _ => none) 0 1000 (loopOf Try.f27 0) (litSt Try.f27.ntmps 432 [36, 0, 1, 2, 3, 37, 12, 10, 11] [352, 416, 0] (I26 n m r s c k) (J26 n m r s c k))).rt [36, 0, 1, 2, 3, 37, 12, 10, 11] [352, 416, 0]).Ok L =
    bif decide (Int.ofNat k < n) then
      bif decide (k + 1 ≤ 1073741824) then
        L (XK.normal) ([A.int IntKind.i64 n, A.int IntKind.i64 n, A.int IntKind.i64 m, A.flt FloatKind.f32 r, A.flt FloatKind.f32 s, A.int IntKind.i64 (IntKind.i64.wrap (Int.ofNat k + Int.ofNat 1)), A.ptr 352 0, A.ptr 0 0, A.bool false]) ([some (O.var [A.sl 416 (k + 1), A.bool false, A.flt FloatKind.f32 c]),   some     (O.row 30 3 (k + 1)       (Row.vecs FloatKind.f32         (fun j =>           match decide (j < k) with           | true => ringX m r j           | false => ([[fop BinOp.mul FloatKind.f32 r (fcvt FloatKind.f64 FloatKind.f32 (sineW (fcvt FloatKind.f32 FloatKind.f64 (fop BinOp.add FloatKind.f32 (fop BinOp.quo FloatKind.f32 (fofInt FloatKind.f32 (Int.ofNat k)) (fofInt FloatKind.f32 m)) (can FloatKind.f32 1048576000))))), fop BinOp.mul FloatKind.f32 r (fcvt FloatKind.f64 FloatKind.f32 (sineW (fcvt FloatKind.f32 FloatKind.f64 (fop BinOp.quo FloatKind.f32 (fofInt FloatKind.f32 (Int.ofNat k)) (fofInt FloatKind.f32 m))))), fop BinOp.mul FloatKind.f32 (fofInt FloatKind.f32 (Int.ofNat k)) s]].getD (j - k) []).getD 0 0)         (fun j =>           match decide (j < k) with           | true => ringY m r j           | false => ([[fop BinOp.mul FloatKind.f32 r (fcvt FloatKind.f64 FloatKind.f32 (sineW (fcvt FloatKind.f32 FloatKind.f64 (fop BinOp.add FloatKind.f32 (fop BinOp.quo FloatKind.f32 (fofInt FloatKind.f32 (Int.ofNat k)) (fofInt FloatKind.f32 m)) (can FloatKind.f32 1048576000))))), fop BinOp.mul FloatKind.f32 r (fcvt FloatKind.f64 FloatKind.f32 (sineW (fcvt FloatKind.f32 FloatKind.f64 (fop BinOp.quo FloatKind.f32 (fofInt FloatKind.f32 (Int.ofNat k)) (fofInt FloatKind.f32 m))))), fop BinOp.mul FloatKind.f32 (fofInt FloatKind.f32 (Int.ofNat k)) s]].getD (j - k) []).getD 1 0)         fun j =>         match decide (j < k) with         | true => helixZ s j         | false => ([[fop BinOp.mul FloatKind.f32 r (fcvt FloatKind.f64 FloatKind.f32 (sineW (fcvt FloatKind.f32 FloatKind.f64 (fop BinOp.add FloatKind.f32 (fop BinOp.quo FloatKind.f32 (fofInt FloatKind.f32 (Int.ofNat k)) (fofInt FloatKind.f32 m)) (can FloatKind.f32 1048576000))))), fop BinOp.mul FloatKind.f32 r (fcvt FloatKind.f64 FloatKind.f32 (sineW (fcvt FloatKind.f32 FloatKind.f64 (fop BinOp.quo FloatKind.f32 (fofInt FloatKind.f32 (Int.ofNat k)) (fofInt FloatKind.f32 m))))), fop BinOp.mul FloatKind.f32 (fofInt FloatKind.f32 (Int.ofNat k)) s]].getD (j - k) []).getD 2 0)),   some (O.var [A.nils, A.bool false, A.flt FloatKind.f32 0])])
      else
        False
    else
      L (XK.exit 0) ([A.int IntKind.i64 n, A.int IntKind.i64 n, A.int IntKind.i64 m, A.flt FloatKind.f32 r, A.flt FloatKind.f32 s, A.int IntKind.i64 (Int.ofNat k), A.ptr 352 0, A.ptr 0 0, A.bool false]) ([some (O.var [A.sl 416 k, A.bool false, A.flt FloatKind.f32 c]), some (O.row 30 3 k (Row.vecs FloatKind.f32 (fun i => ringX m r i) (fun i => ringY m r i) fun i => helixZ s i)), some (O.var [A.nils, A.bool false, A.flt FloatKind.f32 0])]) := by kernel_rfl
noncomputable def F26 : List A → List (Option O) → Option R3
  | [.int .i64 n2, .int .i64 n, .int .i64 m, .flt .f32 r, .flt .f32 s, .int .i64 0, .ptr 352 0, .ptr 0 0, .bool false], [some (.var [.sl 416 0, .bool false, .flt .f32 c]), some (.row 30 3 0 g), some (.var [.nils, .bool false, .flt .f32 0])] => some (.ite (decide (n = n2) && decide (n ≤ 1000)) (.leaf .normal (I26 n m r s c (n.toNat)) (J26 n m r s c (n.toNat))) .fail)
  | _, _ => none
theorem loop26 : CodeOK Try.prog (fun _ σ => sumAt Try.f27.ntmps 432 [36, 0, 1, 2, 3, 37, 12, 10, 11] [352, 416, 0] F26 σ) (.block 0 (.loop (loopOf Try.f27 0))) := by
  refine block_ok (own := fun _ => true) (lp := (fun _ => none)) (un := 0) (fuel := 1000) cfgD_ok (lp_none _) fun az os R hF hok => ?_
  unfold F26 at hF
  split at hF
  · rename_i n2 n m r s c g
    injection hF with hF
    subst hF
    have hg := hok.guard
    have hg' := hg
    simp only [Bool.and_eq_true, Nat.ble_eq, Nat.beq_eq, decide_eq_true_eq] at hg'
    obtain ⟨rfl, hn⟩ := hg'
    refine for_fact (ids := [352, 416, 0]) (fun _ => true) (n.toNat) (I26 n m r s c) (J26 n m r s c) _ (.ret) (I26 n m r s c) (I26 n m r s c) (I26 n m r s c (n.toNat)) (J26 n m r s c (n.toNat)) rfl (by unfold J26; exact ⟨rfl, ⟨30, _, rfl, .inr rfl, fun p hp => absurd hp (by omega)⟩, rfl, trivial⟩) (fun _ => rfl) (fun _ => rfl) (fun _ => ALe.self _) (fun _ => rfl) (ALe.self _) (OSims.self _) rfl (fun h => by cases h) (fun k hk L h1 h2 h3 => ?_) fun L hL => ?_
    · rw [round26]

      by_cases hkm : k < n.toNat
      · refine condT (lt_int hkm) ?_
        rw [wrap_succ (by omega)]
        refine condT (decide_eq_true (by omega)) ?_
        exact h1 hkm rfl _ ⟨rfl, ⟨30, _, rfl, .inr rfl, fun p hp => vec_at (app3 (u := ringX m r) rfl hp) (app3 (u := ringY m r) rfl hp) (app3 (u := helixZ s) rfl hp)⟩, rfl, trivial⟩
      · refine condE (ge_int hkm) ?_
        obtain rfl : k = n.toNat := by omega
        exact h3 rfl
    · exact ⟨fun _ => hL.1 hg, fun N _ h => by cases h⟩
  · cases hF

noncomputable def N26 : St → T := nilW 352 0 30 3 (sumAt Try.f27.ntmps 432 [36, 0, 1, 2, 3, 37, 12, 10, 11] [352, 416, 0] F26)
theorem loopN26 : CodeOK Try.prog (fun _ σ => N26 σ) (.block 0 (.loop (loopOf Try.f27 0))) := nilW_ok loop26
end Go.Fw.E1

/-
  Rings and helices as wires.
-/
namespace Go.Fw.E1
open Go.Proofs
noncomputable def s84 : List A → Option (Bool × A)
  | [.int .i64 n, .flt .f32 r, .flt .f32 h, .flt .f32 c] => some (decide (n ≤ 1000), .agg [.ro 3 n.toNat (.vecs .f32 (ringX n r) (ringY n r) (fun _ => h)), .bool true, .flt .f32 c])
  | _ => none
noncomputable def env35 : List (Nat × (List A → Option (Bool × A))) := env34
theorem env35_ok : EnvOK Try.prog (look env35) := env34_ok
noncomputable def cfg35 : Cfg := mkCfg tab [] xts (look env35)
theorem cfg35_ok : CfgOK Try.prog cfg35 := cfg_ok tab_eq (no_fts _) xts_ok env35_ok mixed
noncomputable def fts75 : List (Nat × Func) := [(75, Try.f75)]
theorem fts75_ok (f : Nat) (fn : Func) (h : (f, fn) ∈ fts75) : Try.prog.funcs[f]? = some fn ∧ (fn.name == "runtime.NumGoroutine") = false := by
  simp only [fts75, List.mem_cons, Prod.mk.injEq, List.not_mem_nil, or_false] at h
  obtain ⟨rfl, rfl⟩ := h
  exact ⟨Try.func75, by kernel_rfl⟩
noncomputable def cfgG : Cfg := mkCfg tab fts75 xts (look env35)
theorem cfgG_ok : CfgOK Try.prog cfgG := cfg_ok tab_eq fts75_ok xts_ok env35_ok mixed
noncomputable def cfgGD : Cfg := mkCfg (nilTab tab) fts75 xts (look env35)
theorem cfgGD_ok : CfgOK Try.prog cfgGD := cfgN_ok' tab_eq fts75_ok xts_ok env35_ok mixed
end Go.Fw.E1

/-
  Rings as wires: contracts.
-/
namespace Go.Fw.E1
open Go.Proofs
noncomputable def ringOk (n : Int) (r h c : Nat) : Bool := (bif decide (n ≥ 3) then decide (n ≤ 48) else false) && above r && okW n.toNat c (ringX n r) (ringY n r) (fun _ => h)
theorem ring_ok {n : Int} {r h c : Nat} (hr : ringOk n r h c = true) : (bif decide (n ≥ 3) then decide (n ≤ 48) else false) = true ∧ above r = true ∧ okW n.toNat c (ringX n r) (ringY n r) (fun _ => h) = true ∧ 3 ≤ n ∧ n ≤ 48 := by
  unfold ringOk at hr
  simp only [Bool.and_eq_true] at hr
  refine ⟨hr.1.1, hr.1.2, hr.2, ?_⟩
  have h1 := hr.1.1
  by_cases h3 : n ≥ 3
  · rw [decide_eq_true h3] at h1; exact ⟨h3, of_decide_eq_true h1⟩
  · rw [decide_eq_false h3] at h1; cases h1
theorem okW_fin {n cur : Nat} {x y : Nat → Nat} {h : Nat} (hw : okW n cur x y (fun _ => h) = true) : fin h = true := by
  unfold okW at hw
  simp only [Bool.and_eq_true, decide_eq_true_eq] at hw
  have := allUpTo_iff.1 hw.2 0 (by omega)
  unfold vfinAt vfin at this
  revert this
  cases fin (x 0) <;> cases fin (y 0) <;> cases fin h <;> simp
noncomputable def s30T : List A → Option (Bool × A)
  | [.int .i64 n, .flt .f32 r, .flt .f32 h, .flt .f32 c] => some (ringOk n r h c, .tup [.agg [.ro 3 n.toNat (.vecs .f32 (ringX n r) (ringY n r) (fun _ => h)), .bool true, .flt .f32 c], .bool true])
  | _ => none
noncomputable def s30F : List A → Option (Bool × A)
  | [.int .i64 n, .flt .f32 r, .flt .f32 h, .flt .f32 c] => some (!ringOk n r h c, .tup [.agg [.emp, .bool false, .flt .f32 0], .bool false])
  | _ => none
noncomputable def lp31T : List (Nat × (St → T)) := [(0, N31)]
theorem lp31T_ok : LpOK Try.prog (look lp31T) (bodyOf Try.f20) := lp_loops (by kernel_rfl) (by kernel_rfl) fun p hp => by
  simp only [lp31T, List.mem_cons, List.not_mem_nil, or_false] at hp
  rcases hp with rfl
  · exact loopN31
theorem auto31T (n : Int) (r h c : Nat) : autoS cfgGD (look lp31T) false Try.f20 [.int .i64 n, .flt .f32 r, .flt .f32 h, .flt .f32 c] =
    some ((!bif bif !inI n (Int.ofNat 3) (Int.ofNat 48) then true else !above r then true else !fin h) && (decide (n = n) && decide (n ≤ 1000) && (n.toNat.ble 4611686018427387000 && ((!!okW n.toNat c (ringX n r) (ringY n r) fun x => h) && true))), A.tup [A.agg [A.ro 3 n.toNat (Row.vecs FloatKind.f32 (fun i => ringX n r i) (fun i => ringY n r i) fun x => h), A.bool true, A.flt FloatKind.f32 c], A.bool true]) := by kernel_rfl
noncomputable def s31T : List A → Option (Bool × A)
  | [.int .i64 n, .flt .f32 r, .flt .f32 h, .flt .f32 c] => some (ringOk n r h c, .tup [.agg [.ro 3 n.toNat (.vecs .f32 (ringX n r) (ringY n r) (fun _ => h)), .bool true, .flt .f32 c], .bool true])
  | _ => none
theorem s31T_at : EnvAt Try.prog 20 s31T := of_autoS cfgGD_ok lp31T_ok Try.func20 (by kernel_rfl) (by kernel_rfl) fun ds cc rr h hc => by
  unfold s31T at h
  split at h
  · rename_i n r h c
    simp only [Option.some.injEq, Prod.mk.injEq] at h
    obtain ⟨rfl, rfl⟩ := h
    refine auto_fit (auto31T n r h c) ?_ ?_
    · rfl
    · obtain ⟨h1, h2, h3, h4, h5⟩ := ring_ok hc
      have h1' : inI n (Int.ofNat 3) (Int.ofNat 48) = true := h1
      rw [h1', h2, h3, okW_fin h3, decide_eq_true (show n ≤ 1000 by omega), decide_eq_true rfl, ble_of (show n.toNat ≤ 4611686018427387000 by omega)]; rfl
  · cases h

noncomputable def lp31N : List (Nat × (St → T)) := [(0, N31)]
theorem lp31N_ok : LpOK Try.prog (look lp31N) (bodyOf Try.f20) := lp_loops (by kernel_rfl) (by kernel_rfl) fun p hp => by
  simp only [lp31N, List.mem_cons, List.not_mem_nil, or_false] at hp
  rcases hp with rfl
  · exact loopN31
theorem auto31N (n : Int) (r h c : Nat) : autoS cfgGD (look lp31N) true Try.f20 [.int .i64 n, .flt .f32 r, .flt .f32 h, .flt .f32 c] =
    some (bif bif bif !inI n (Int.ofNat 3) (Int.ofNat 48) then true else !above r then true else !fin h then true else decide (n = n) && decide (n ≤ 1000) && (n.toNat.ble 4611686018427387000 && ((!okW n.toNat c (ringX n r) (ringY n r) fun x => h) && true)), A.tup [A.agg [A.nils, A.bool (bif bif bif !inI n (Int.ofNat 3) (Int.ofNat 48) then true else !above r then true else !fin h then false else false), A.flt FloatKind.f32 (bif bif bif !inI n (Int.ofNat 3) (Int.ofNat 48) then true else !above r then true else !fin h then 0 else 0)], A.bool (bif bif bif !inI n (Int.ofNat 3) (Int.ofNat 48) then true else !above r then true else !fin h then false else false)]) := by kernel_rfl
noncomputable def s31N : List A → Option (Bool × A)
  | [.int .i64 n, .flt .f32 r, .flt .f32 h, .flt .f32 c] => some (!ringOk n r h c, .tup [.agg [.nils, .bool false, .flt .f32 0], .bool false])
  | _ => none
theorem s31N_at : EnvAt Try.prog 20 s31N := of_autoS cfgGD_ok lp31N_ok Try.func20 (by kernel_rfl) (by kernel_rfl) fun ds cc rr h hc => by
  unfold s31N at h
  split at h
  · rename_i n r h c
    simp only [Option.some.injEq, Prod.mk.injEq] at h
    obtain ⟨rfl, rfl⟩ := h
    refine auto_fit (auto31N n r h c) ?_ ?_
    · simp only [Bool.cond_self]
    · unfold ringOk at hc
      cases hA : inI n (Int.ofNat 3) (Int.ofNat 48)
      · rfl
      · cases hB : above r
        · rfl
        · have hA' : (bif decide (n ≥ 3) then decide (n ≤ 48) else false) = true := hA
          rw [hA', hB] at hc
          have hC : okW n.toNat c (ringX n r) (ringY n r) (fun _ => h) = false := by simpa using hc
          have h5 : n ≤ 48 := by
            by_cases h3 : n ≥ 3
            · rw [decide_eq_true h3] at hA'; exact of_decide_eq_true hA'
            · rw [decide_eq_false h3] at hA'; cases hA'
          rw [hC, decide_eq_true (show n ≤ 1000 by omega), decide_eq_true rfl, ble_of (show n.toNat ≤ 4611686018427387000 by omega)]
          cases fin h <;> rfl
  · cases h

noncomputable def s31F : List A → Option (Bool × A)
  | [.int .i64 n, .flt .f32 r, .flt .f32 h, .flt .f32 c] => some (!ringOk n r h c, .tup [.agg [.emp, .bool false, .flt .f32 0], .bool false])
  | _ => none
theorem s31F_at : EnvAt Try.prog 20 s31F := by
  refine ⟨s31N_at.1, fun ds c r h hc => ?_⟩
  unfold s31F at h
  split at h
  · rename_i n r hh cc
    simp only [Option.some.injEq, Prod.mk.injEq] at h
    obtain ⟨rfl, rfl⟩ := h
    exact (s31N_at.2 [.int .i64 n, .flt .f32 r, .flt .f32 hh, .flt .f32 cc] _ _ rfl hc).emp_of
  · cases h
end Go.Fw.E1

/-
  Fields of rings as the kernel evaluates them.
-/
namespace Go.Fw.E1
open Go.Proofs

theorem rep0 : Rep .f32 0 .zero := rep_of .f32 0
theorem can0 : can .f32 0 = 0 := by decide +kernel
theorem repc0 : Rep .f32 (can .f32 0) .zero := by rw [can0]; exact rep0
theorem rep_fin {x : Nat} {a : V} (hx : Rep .f32 x a) (h : vgood a = true) : fin x = true := by
  have hv := rep_val hx h
  have h2 : Fin .f32 (fop .sub .f32 x x) 0 := by
    have := Fin.sub hv hv
    rw [Int.sub_self, rI_0] at this
    exact this (limK_pos _)
  unfold fin
  rw [Fin.order h2 (show Fin .f32 (can .f32 0) 0 from repc0)]
  rfl
noncomputable def vup (v : V) : Bool := V.rec false (fun b m _ => Bool.rec (Nat.ble 1 m) false b) false v
theorem rep_up {x : Nat} {a : V} (hx : Rep .f32 x a) (h : vup a = true) : (forder .f32 x (can .f32 0) == some .gt) = true := by
  cases a with
  | zero => cases h
  | bad => cases h
  | num b m s =>
    cases b
    · have hm : 1 ≤ m := Nat.le_of_ble_eq_true h
      have hv : Fin .f32 x ((m * 2 ^ s : Nat) : Int) := hx
      rw [Fin.order hv (show Fin .f32 (can .f32 0) 0 from repc0)]
      have : 0 < m * 2 ^ s := Nat.mul_pos (by omega) (Nat.two_pow_pos _)
      show (some (compareOfLessAndEq _ _) == some Ordering.gt) = true
      unfold compareOfLessAndEq
      rw [if_neg (by omega), if_neg (by omega)]
      rfl
    · cases h
noncomputable def vgd (ok : Bool) (v : V) : V := Bool.rec V.bad v ok
noncomputable def band (a b : Bool) : Bool := Bool.rec false b a
theorem band_eq (a b : Bool) : band a b = (a && b) := by cases a <;> rfl
noncomputable def vinn (a b c x y z : V) : V := vadd (vadd (vmul a x) (vmul b y)) (vmul c z)
noncomputable def vlong (a b c : V) : V := vsqrt (vinn a b c a b c)
noncomputable def vsgD (a b c x y z : V) : V := vmul (vmul (vlong a b c) (vlong x y z)) (vadd (vmul (vlong a b c) (vlong x y z)) (vinn a b c x y z))
noncomputable def vsgQ (a b c x y z : V) : V := vquo (vadd (vlong a b c) (vlong x y z)) (vsgD a b c x y z)
noncomputable def vsgO (a b c x y z : V) : Bool := band (vup (vsgD a b c x y z)) (vgood (vsgQ a b c x y z))
noncomputable def vsgX (a b c x y z : V) : V := vgd (vsgO a b c x y z) (vmul (vsub (vmul b z) (vmul c y)) (vsgQ a b c x y z))
noncomputable def vsgY (a b c x y z : V) : V := vgd (vsgO a b c x y z) (vmul (vsub (vmul c x) (vmul a z)) (vsgQ a b c x y z))
noncomputable def vsgZ (a b c x y z : V) : V := vgd (vsgO a b c x y z) (vmul (vsub (vmul a y) (vmul b x)) (vsgQ a b c x y z))
section
variable {a b c x y z : Nat} {A B C X Y Z : V} (ha : Rep .f32 a A) (hb : Rep .f32 b B) (hc : Rep .f32 c C) (hx : Rep .f32 x X) (hy : Rep .f32 y Y) (hz : Rep .f32 z Z)
include ha hb hc hx hy hz
theorem rep_inn : Rep .f32 (inn a b c x y z) (vinn A B C X Y Z) := rep_add (rep_add (rep_mul ha hx) (rep_mul hb hy)) (rep_mul hc hz)
omit hx hy hz in
theorem rep_long : Rep .f32 (long a b c) (vlong A B C) := rep_vsqrt (rep_inn ha hb hc ha hb hc)
theorem rep_sgD : Rep .f32 (sgD a b c x y z) (vsgD A B C X Y Z) := rep_mul (rep_mul (rep_long ha hb hc) (rep_long hx hy hz)) (rep_add (rep_mul (rep_long ha hb hc) (rep_long hx hy hz)) (rep_inn ha hb hc hx hy hz))
theorem rep_sgQ : Rep .f32 (sgQ a b c x y z) (vsgQ A B C X Y Z) := rep_quo (rep_add (rep_long ha hb hc) (rep_long hx hy hz)) (rep_sgD ha hb hc hx hy hz)
theorem sg_yes (h : vsgO A B C X Y Z = true) : sgNo a b c x y z = false := by
  unfold vsgO at h
  rw [band_eq, Bool.and_eq_true] at h
  unfold sgNo
  rw [rep_up (rep_sgD ha hb hc hx hy hz) h.1, rep_fin (rep_sgQ ha hb hc hx hy hz) h.2]
  rfl
theorem rep_sgX : Rep .f32 (sgX a b c x y z) (vsgX A B C X Y Z) := by
  unfold vsgX
  cases h : vsgO A B C X Y Z
  · trivial
  · unfold sgX
    rw [sg_yes ha hb hc hx hy hz h]
    exact rep_mul (rep_sub (rep_mul hb hz) (rep_mul hc hy)) (rep_sgQ ha hb hc hx hy hz)
theorem rep_sgY : Rep .f32 (sgY a b c x y z) (vsgY A B C X Y Z) := by
  unfold vsgY
  cases h : vsgO A B C X Y Z
  · trivial
  · unfold sgY
    rw [sg_yes ha hb hc hx hy hz h]
    exact rep_mul (rep_sub (rep_mul hc hx) (rep_mul ha hz)) (rep_sgQ ha hb hc hx hy hz)
theorem rep_sgZ : Rep .f32 (sgZ a b c x y z) (vsgZ A B C X Y Z) := by
  unfold vsgZ
  cases h : vsgO A B C X Y Z
  · trivial
  · unfold sgZ
    rw [sg_yes ha hb hc hx hy hz h]
    exact rep_mul (rep_sub (rep_mul ha hy) (rep_mul hb hx)) (rep_sgQ ha hb hc hx hy hz)
end
/-! ### Sums over segments: points by tables -/
noncomputable def vsegX (X Y Z : Nat → V) (n : Nat) (P Q R : V) (j : Nat) : V := vsgX (vsub P (X j)) (vsub Q (Y j)) (vsub R (Z j)) (vsub P (X (Nat.mod (Nat.succ j) n))) (vsub Q (Y (Nat.mod (Nat.succ j) n))) (vsub R (Z (Nat.mod (Nat.succ j) n)))
noncomputable def vsegY (X Y Z : Nat → V) (n : Nat) (P Q R : V) (j : Nat) : V := vsgY (vsub P (X j)) (vsub Q (Y j)) (vsub R (Z j)) (vsub P (X (Nat.mod (Nat.succ j) n))) (vsub Q (Y (Nat.mod (Nat.succ j) n))) (vsub R (Z (Nat.mod (Nat.succ j) n)))
noncomputable def vsegZ (X Y Z : Nat → V) (n : Nat) (P Q R : V) (j : Nat) : V := vsgZ (vsub P (X j)) (vsub Q (Y j)) (vsub R (Z j)) (vsub P (X (Nat.mod (Nat.succ j) n))) (vsub Q (Y (Nat.mod (Nat.succ j) n))) (vsub R (Z (Nat.mod (Nat.succ j) n)))
noncomputable def vsumF (f : Nat → V) (k : Nat) : V := Nat.rec V.zero (fun i s => vadd s (f i)) k
theorem rep_fX {x y z : Nat → Nat} {X Y Z : Nat → V} {n p q r : Nat} {P Q R : V} (hx : ∀ i, Rep .f32 (x i) (X i)) (hy : ∀ i, Rep .f32 (y i) (Y i)) (hz : ∀ i, Rep .f32 (z i) (Z i)) (hp : Rep .f32 p P) (hq : Rep .f32 q Q) (hr : Rep .f32 r R) :
    ∀ k, Rep .f32 (fX (sg n x y z) p q r 0 k) (vsumF (vsegX X Y Z n P Q R) k)
  | 0 => rep0
  | k + 1 => rep_add (rep_fX hx hy hz hp hq hr k) (rep_sgX (rep_sub hp (hx _)) (rep_sub hq (hy _)) (rep_sub hr (hz _)) (rep_sub hp (hx _)) (rep_sub hq (hy _)) (rep_sub hr (hz _)))
theorem rep_fY {x y z : Nat → Nat} {X Y Z : Nat → V} {n p q r : Nat} {P Q R : V} (hx : ∀ i, Rep .f32 (x i) (X i)) (hy : ∀ i, Rep .f32 (y i) (Y i)) (hz : ∀ i, Rep .f32 (z i) (Z i)) (hp : Rep .f32 p P) (hq : Rep .f32 q Q) (hr : Rep .f32 r R) :
    ∀ k, Rep .f32 (fY (sg n x y z) p q r 0 k) (vsumF (vsegY X Y Z n P Q R) k)
  | 0 => rep0
  | k + 1 => rep_add (rep_fY hx hy hz hp hq hr k) (rep_sgY (rep_sub hp (hx _)) (rep_sub hq (hy _)) (rep_sub hr (hz _)) (rep_sub hp (hx _)) (rep_sub hq (hy _)) (rep_sub hr (hz _)))
theorem rep_fZ {x y z : Nat → Nat} {X Y Z : Nat → V} {n p q r : Nat} {P Q R : V} (hx : ∀ i, Rep .f32 (x i) (X i)) (hy : ∀ i, Rep .f32 (y i) (Y i)) (hz : ∀ i, Rep .f32 (z i) (Z i)) (hp : Rep .f32 p P) (hq : Rep .f32 q Q) (hr : Rep .f32 r R) :
    ∀ k, Rep .f32 (fZ (sg n x y z) p q r 0 k) (vsumF (vsegZ X Y Z n P Q R) k)
  | 0 => rep0
  | k + 1 => rep_add (rep_fZ hx hy hz hp hq hr k) (rep_sgZ (rep_sub hp (hx _)) (rep_sub hq (hy _)) (rep_sub hr (hz _)) (rep_sub hp (hx _)) (rep_sub hq (hy _)) (rep_sub hr (hz _)))

/-! ### The ring of eight points and radius 1 -/
def r8x (i : Nat) : Nat := [1065353216, 1060439283, 2147483648, 3207922931, 3212836864, 3207922931, 0, 1060439283].getD i 0
def r8y (i : Nat) : Nat := [0, 1060439283, 1065353216, 1060439283, 2147483648, 3207922931, 3212836864, 3207922931].getD i 0
noncomputable def RX (i : Nat) : Nat := ringX 8 (can .f32 1065353216) i
noncomputable def RY (i : Nat) : Nat := ringY 8 (can .f32 1065353216) i
theorem ring8 : allUpTo (fun i => Nat.beq (RX i) (r8x i) && Nat.beq (RY i) (r8y i)) 8 = true := by decide +kernel
theorem ring8x {i : Nat} (hi : i < 8) : RX i = r8x i := by
  have := allUpTo_iff.1 ring8 i hi
  simp only [Bool.and_eq_true] at this
  exact Nat.eq_of_beq_eq_true this.1
theorem ring8y {i : Nat} (hi : i < 8) : RY i = r8y i := by
  have := allUpTo_iff.1 ring8 i hi
  simp only [Bool.and_eq_true] at this
  exact Nat.eq_of_beq_eq_true this.2
end Go.Fw.E1

/-
  The field of a ring of eight points at quarters: the kernel's table is bounded.
-/
namespace Go.Fw.E1
open Go.Proofs
noncomputable def vlx (i : Nat) : V := [V.num false 8388608 126, V.num false 11863283 125, V.zero, V.num true 11863283 125, V.num true 8388608 126, V.num true 11863283 125, V.zero, V.num false 11863283 125].getD i V.bad
noncomputable def vly (i : Nat) : V := [V.zero, V.num false 11863283 125, V.num false 8388608 126, V.num false 11863283 125, V.zero, V.num true 11863283 125, V.num true 8388608 126, V.num true 11863283 125].getD i V.bad
theorem rep_lit {w : Nat} {v : V} (h : vof .f32 w = v) : Rep .f32 w v := by rw [← h]; exact rep_of _ _
theorem rep_vlx (i : Nat) : Rep .f32 (RX i) (vlx i) := by
  by_cases hi : i < 8
  · rw [ring8x hi]
    match i, hi with
    | 0, _ => exact rep_lit (by kernel_rfl)
    | 1, _ => exact rep_lit (by kernel_rfl)
    | 2, _ => exact rep_lit (by kernel_rfl)
    | 3, _ => exact rep_lit (by kernel_rfl)
    | 4, _ => exact rep_lit (by kernel_rfl)
    | 5, _ => exact rep_lit (by kernel_rfl)
    | 6, _ => exact rep_lit (by kernel_rfl)
    | 7, _ => exact rep_lit (by kernel_rfl)
    | i + 8, hi => exact absurd hi (by omega)
  · have : vlx i = V.bad := by
      unfold vlx
      simp [List.getD, show ¬ i < 8 from hi]
    rw [this]; trivial
theorem rep_vly (i : Nat) : Rep .f32 (RY i) (vly i) := by
  by_cases hi : i < 8
  · rw [ring8y hi]
    match i, hi with
    | 0, _ => exact rep_lit (by kernel_rfl)
    | 1, _ => exact rep_lit (by kernel_rfl)
    | 2, _ => exact rep_lit (by kernel_rfl)
    | 3, _ => exact rep_lit (by kernel_rfl)
    | 4, _ => exact rep_lit (by kernel_rfl)
    | 5, _ => exact rep_lit (by kernel_rfl)
    | 6, _ => exact rep_lit (by kernel_rfl)
    | 7, _ => exact rep_lit (by kernel_rfl)
    | i + 8, hi => exact absurd hi (by omega)
  · have : vly i = V.bad := by
      unfold vly
      simp [List.getD, show ¬ i < 8 from hi]
    rw [this]; trivial
noncomputable def vtwo : V := V.num false 8388608 127
theorem rep_two : Rep .f32 (can .f32 1073741824) vtwo := rep_lit (by kernel_rfl)
noncomputable def vmX (P Q R : V) : V := vadd V.zero (vmul (vsumF (vsegX vlx vly (fun _ => V.zero) 8 P Q R) 8) vtwo)
noncomputable def vmY (P Q R : V) : V := vadd V.zero (vmul (vsumF (vsegY vlx vly (fun _ => V.zero) 8 P Q R) 8) vtwo)
noncomputable def vmZ (P Q R : V) : V := vadd V.zero (vmul (vsumF (vsegZ vlx vly (fun _ => V.zero) 8 P Q R) 8) vtwo)
/-- (i - 9) / 4, and 4 more. -/
noncomputable def vqt (i : Nat) : V := [V.num true 9437184 127, V.num true 8388608 127, V.num true 14680064 126, V.num true 12582912 126, V.num true 10485760 126, V.num true 8388608 126, V.num true 12582912 125, V.num true 8388608 125, V.num true 8388608 124, V.zero, V.num false 8388608 124, V.num false 8388608 125, V.num false 12582912 125, V.num false 8388608 126, V.num false 10485760 126, V.num false 12582912 126, V.num false 14680064 126, V.num false 8388608 127, V.num false 9437184 127].getD i V.bad
noncomputable def vqz (i : Nat) : V := [V.num false 14680064 126, V.num false 8388608 127, V.num false 9437184 127, V.num false 10485760 127, V.num false 11534336 127, V.num false 12582912 127, V.num false 13631488 127, V.num false 14680064 127, V.num false 15728640 127, V.num false 8388608 128, V.num false 8912896 128, V.num false 9437184 128, V.num false 9961472 128, V.num false 10485760 128, V.num false 11010048 128, V.num false 11534336 128, V.num false 12058624 128, V.num false 12582912 128, V.num false 13107200 128].getD i V.bad
/-- At most 2. -/
noncomputable def vle2 (v : V) : Bool := band (vgood v) (Nat.ble (vmag v) 1427247692705959881058285969449495136382746624)
noncomputable def vm2 (P Q R : V) : Bool := band (vle2 (vmX P Q R)) (band (vle2 (vmY P Q R)) (vle2 (vmZ P Q R)))
noncomputable def vmRow (i : Nat) : Bool := allUpTo (fun j => allUpTo (fun k => vm2 (vqt i) (vqt j) (vqz k)) 19) 19
end Go.Fw.E1
