/-
  Lists of wires: measured, copied, compared.
-/
import Derived.Test.YtlehhjphmenfbaaLpA
import Derived.Test.YtlehhjphmenfbaaFwC
import Derived.Test.YtlehhjphmenfbaaFwD

namespace Go.Fw.E1
open Go.Proofs

def szW (n : Nat → Nat) (left : Int) : Nat → Int
  | 0 => left
  | k + 1 => sz1 (szW n left k) (n k)
noncomputable def I51 (m : Nat) (n : Nat → Nat) (x y z : Nat → Nat → Nat) (cl : Nat → Bool) (cur : Nat → Nat) (left : Int) (k : Nat) : List A := [.ro 3 m (.wires n x y z cl cur), .int .i64 (szW n left k), .int .i64 0, .int .i64 (Int.ofNat k)]
noncomputable def J51 (m : Nat) (n : Nat → Nat) (x y z : Nat → Nat → Nat) (cl : Nat → Bool) (cur : Nat → Nat) (left : Int) (k : Nat) : List O := []
noncomputable def F51 : List A → List (Option O) → Option R3
  | [.ro 3 m (.wires n x y z cl cur), .int .i64 left, .int .i64 0, .int .i64 0], [] => some (.ite (Nat.ble m 4611686018427387000) (.ite (allUpTo (fun k => !decide (szW n left (k + 1) < 0)) (m)) (.leaf .normal (I51 m n x y z cl cur left (m)) (J51 m n x y z cl cur left (m))) (.leaf (.ret) ((fun k => [.ro 3 m (.wires n x y z cl cur), .int .i64 (szW n left (k + 1)), .int .i64 (Int.negSucc 0), .int .i64 (Int.ofNat k)]) (firstIdx (fun k => !decide (szW n left (k + 1) < 0)) (m))) (J51 m n x y z cl cur left (firstIdx (fun k => !decide (szW n left (k + 1) < 0)) (m))))) .fail)
  | _, _ => none
def szWs (left : Int) (m : Nat) (n : Nat → Nat) : Int := bif decide (IntKind.i64.wrap (left - Int.ofNat m) < 0) then Int.negSucc 0 else bif allUpTo (fun k => !decide (szW n (IntKind.i64.wrap (left - Int.ofNat m)) (k + 1) < 0)) m then szW n (IntKind.i64.wrap (left - Int.ofNat m)) m else Int.negSucc 0
theorem szWs_le {left : Int} {m : Nat} {n : Nat → Nat} (h0 : 0 ≤ left) (h1 : left ≤ 1048576) (hm : m ≤ 9223372036854775807) (hn : ∀ i, n i ≤ 9223372036854775807) : szWs left m n = -1 ∨ (0 ≤ szWs left m n ∧ szWs left m n ≤ left ∧ (m : Int) ≤ left ∧ ∀ k, k < m → (n k : Int) ≤ left) := by
  have e : IntKind.i64.wrap (left - Int.ofNat m) = left - m := by
    simp [IntKind.wrap, IntKind.bits, IntKind.signed]
    omega
  unfold szWs
  rw [e]
  by_cases h : left - (m : Int) < 0
  · rw [decide_eq_true h]; exact .inl rfl
  rw [decide_eq_false h]
  cases ha : allUpTo (fun k => !decide (szW n (left - m) (k + 1) < 0)) m
  · exact .inl rfl
  · have hall := allUpTo_iff.1 ha
    have key : ∀ k, k ≤ m → 0 ≤ szW n (left - m) k ∧ szW n (left - m) k ≤ left - m ∧ ∀ j, j < k → (n j : Int) ≤ left - m := by
      intro k
      induction k with
      | zero => intro _; exact ⟨by show 0 ≤ left - (m : Int); omega, Int.le_refl _, fun j hj => absurd hj (by omega)⟩
      | succ k ih =>
        intro hk
        obtain ⟨i1, i2, i3⟩ := ih (by omega)
        have hk2 := hall k (by omega)
        simp only [Bool.not_eq_true', decide_eq_false_iff_not] at hk2
        have e2 : szW n (left - m) (k + 1) = sz1 (szW n (left - m) k) (n k) := rfl
        rw [e2] at hk2 ⊢
        rcases sz1_le i1 (by omega) (hn k) with ⟨e3, _⟩ | ⟨e3, h3⟩
        · rw [e3] at hk2; omega
        · rw [e3] at hk2 ⊢
          refine ⟨by omega, by omega, fun j hj => ?_⟩
          rcases Nat.lt_or_ge j k with hjk | hjk
          · exact i3 j hjk
          · obtain rfl : j = k := by omega
            omega
    obtain ⟨k1, k2, k3⟩ := key m (Nat.le_refl _)
    exact .inr ⟨k1, by show szW n (left - m) m ≤ left; omega, by omega, fun k hk => by have := k3 k hk; omega⟩
theorem gen_set {f g : Nat → A} {k p : Nat} : (match decide (p = k) with | true => f k | false => match decide (p < k) with | true => f p | false => g p) = match decide (p < k + 1) with | true => f p | false => g p := by
  by_cases h : p = k
  · subst h; simp
  · have : (p < k + 1) = (p < k) := by simp; omega
    simp [h, this]
noncomputable def s51 : List A → Option (Bool × A)
  | [.ro 3 m (.wires n x y z cl cur), .int .i64 left] => some (Nat.ble m 4611686018427387000, .int .i64 (szWs left m n))
  | _ => none
noncomputable def I53 (m : Nat) (n : Nat → Nat) (x y z : Nat → Nat → Nat) (cl : Nat → Bool) (cur : Nat → Nat) (g : Nat → A) (k : Nat) : List A := [.ro 3 m (.wires n x y z cl cur), .sl 48 m, .int .i64 (Int.ofNat k)]
noncomputable def J53 (m : Nat) (n : Nat → Nat) (x y z : Nat → Nat → Nat) (cl : Nat → Bool) (cur : Nat → Nat) (g : Nat → A) (k : Nat) : List O := [.row 44 3 m (.gen fun j => match decide (j < k) with | true => (Row.wires n x y z cl cur : Row A).at j | false => g j)]
noncomputable def F53 : List A → List (Option O) → Option R3
  | [.ro 3 m (.wires n x y z cl cur), .sl 48 m1, .int .i64 0], [some (.row 44 3 m3 (.gen g))] => some (.ite (Nat.beq m m1 && Nat.beq m m3 && Nat.ble m 1048576 && allUpTo (shortW n) m) (.leaf .normal (I53 m n x y z cl cur g (m)) [.row 44 3 m (.wires n x y z cl cur)]) .fail)
  | _, _ => none
noncomputable def s27 : List A → Option (Bool × A)
  | [.agg [.ro 3 n (.vecs .f32 x y z), .bool cl, .flt .f32 cur], .agg [.ro 3 n2 (.vecs .f32 x2 y2 z2), .bool cl2, .flt .f32 cur2]] => some (Nat.beq n2 n && Nat.ble n 1048576 && allUpTo (sameVAt x y z x2 y2 z2) n && (cl == cl2) && sameF (fcvt .f32 .f64 cur) (fcvt .f32 .f64 cur2), .bool true)
  | _ => none
def eqWAt (n : Nat → Nat) (x y z : Nat → Nat → Nat) (cl : Nat → Bool) (cur : Nat → Nat) (n2 : Nat → Nat) (x2 y2 z2 : Nat → Nat → Nat) (cl2 : Nat → Bool) (cur2 : Nat → Nat) (i : Nat) : Bool := Nat.beq (n2 i) (n i) && Nat.ble (n i) 1048576 && allUpTo (sameVAt (x i) (y i) (z i) (x2 i) (y2 i) (z2 i)) (n i) && (cl i == cl2 i) && sameF (fcvt .f32 .f64 (cur i)) (fcvt .f32 .f64 (cur2 i))
noncomputable def env29 : List (Nat × (List A → Option (Bool × A))) := env28
theorem env29_ok : EnvOK Try.prog (look env29) := env28_ok
noncomputable def cfg29 : Cfg := mkCfg tab [] xts (look env29)
theorem cfg29_ok : CfgOK Try.prog cfg29 := cfg_ok tab_eq (no_fts _) xts_ok env29_ok mixed
noncomputable def I40 (m : Nat) (n : Nat → Nat) (x y z : Nat → Nat → Nat) (cl : Nat → Bool) (cur : Nat → Nat) (m2 : Nat) (n2 : Nat → Nat) (x2 y2 z2 : Nat → Nat → Nat) (cl2 : Nat → Bool) (cur2 : Nat → Nat) (k : Nat) : List A := [.ro 3 m (.wires n x y z cl cur), .ro 3 m2 (.wires n2 x2 y2 z2 cl2 cur2), .bool false, .int .i64 (Int.ofNat k)]
noncomputable def J40 (m : Nat) (n : Nat → Nat) (x y z : Nat → Nat → Nat) (cl : Nat → Bool) (cur : Nat → Nat) (m2 : Nat) (n2 : Nat → Nat) (x2 y2 z2 : Nat → Nat → Nat) (cl2 : Nat → Bool) (cur2 : Nat → Nat) (k : Nat) : List O := []
noncomputable def F40 : List A → List (Option O) → Option R3
  | [.ro 3 m (.wires n x y z cl cur), .ro 3 m2 (.wires n2 x2 y2 z2 cl2 cur2), .bool false, .int .i64 0], [] => some (.ite (Nat.beq m2 m && Nat.ble m 1048576 && allUpTo (eqWAt n x y z cl cur n2 x2 y2 z2 cl2 cur2) m) (.leaf .normal (I40 m n x y z cl cur m2 n2 x2 y2 z2 cl2 cur2 (m)) (J40 m n x y z cl cur m2 n2 x2 y2 z2 cl2 cur2 (m))) .fail)
  | _, _ => none
noncomputable def s40 : List A → Option (Bool × A)
  | [.ro 3 m (.wires n x y z cl cur), .ro 3 m2 (.wires n2 x2 y2 z2 cl2 cur2)] => some (Nat.beq m2 m && Nat.ble m 1048576 && allUpTo (eqWAt n x y z cl cur n2 x2 y2 z2 cl2 cur2) m, .bool true)
  | _ => none
end Go.Fw.E1

/-
  Fields of lists of wires: contracts.
-/
namespace Go.Fw.E1
open Go.Proofs
noncomputable def flOk (m : Nat) (n : Nat → Nat) (x y z : Nat → Nat → Nat) (cl : Nat → Bool) (cur : Nat → Nat) (p q r : Nat) : Bool := areW m n x y z cur && vfin p q r && fOkA m n x y z cl cur p q r
noncomputable def s52 : List A → Option (Bool × A)
  | [.ro 3 m (.wires n x y z cl cur), .agg [.flt .f32 p, .flt .f32 q, .flt .f32 r]] => some (Nat.ble m 1048576 && allUpTo (shortW n) m, .tup [.agg [.flt .f32 (bif flOk m n x y z cl cur p q r then faX n x y z cl cur p q r 0 m else 0), .flt .f32 (bif flOk m n x y z cl cur p q r then faY n x y z cl cur p q r 0 m else 0), .flt .f32 (bif flOk m n x y z cl cur p q r then faZ n x y z cl cur p q r 0 m else 0)], .bool (flOk m n x y z cl cur p q r)])
  | _ => none
theorem auto54 (m : Nat) (n : Nat → Nat) (x y z : Nat → Nat → Nat) (cl : Nat → Bool) (cur : Nat → Nat) (p q r : Nat) : autoLp cfg29 (fun _ => none) Try.f15 [.ro 3 m (.wires n x y z cl cur), .agg [.flt .f32 p, .flt .f32 q, .flt .f32 r]] =
    some (m.ble 1048576 && allUpTo (shortW n) m && bif !areW m n x y z cur then true else m.ble 1048576 && allUpTo (smallW n) m && bif !bif vfin p q r then fOkA m n x y z cl cur p q r else false then true else true, A.tup [A.agg [A.flt FloatKind.f32 (bif !areW m n x y z cur then 0 else bif !bif vfin p q r then fOkA m n x y z cl cur p q r else false then 0 else faX n x y z cl cur p q r 0 m), A.flt FloatKind.f32 (bif !areW m n x y z cur then 0 else bif !bif vfin p q r then fOkA m n x y z cl cur p q r else false then 0 else faY n x y z cl cur p q r 0 m), A.flt FloatKind.f32 (bif !areW m n x y z cur then 0 else bif !bif vfin p q r then fOkA m n x y z cl cur p q r else false then 0 else faZ n x y z cl cur p q r 0 m)], A.bool (bif !areW m n x y z cur then false else bif !bif vfin p q r then fOkA m n x y z cl cur p q r else false then false else true)]) := by kernel_rfl
noncomputable def s54 : List A → Option (Bool × A)
  | [.ro 3 m (.wires n x y z cl cur), .agg [.flt .f32 p, .flt .f32 q, .flt .f32 r]] => some (Nat.ble m 1048576 && allUpTo (shortW n) m, .tup [.agg [.flt .f32 (bif flOk m n x y z cl cur p q r then faX n x y z cl cur p q r 0 m else 0), .flt .f32 (bif flOk m n x y z cl cur p q r then faY n x y z cl cur p q r 0 m else 0), .flt .f32 (bif flOk m n x y z cl cur p q r then faZ n x y z cl cur p q r 0 m else 0)], .bool (flOk m n x y z cl cur p q r)])
  | _ => none
theorem s54_at : EnvAt Try.prog 15 s54 := of_auto cfg29_ok (lp_none _) Try.func15 (by kernel_rfl) (by kernel_rfl) fun ds cc rr h hc => by
  unfold s54 at h
  split at h
  · rename_i m n x y z cl cur p q r
    simp only [Option.some.injEq, Prod.mk.injEq] at h
    obtain ⟨rfl, rfl⟩ := h
    refine auto_fit (auto54 m n x y z cl cur p q r) ?_ ?_
    · unfold flOk fOkA
      cases areW m n x y z cur
      · rfl
      · cases vfin p q r
        · rfl
        · simp only [cond_true, Bool.true_and, Bool.not_true, cond_false] <;>
          cases vfin (faX n x y z cl cur p q r 0 m) (faY n x y z cl cur p q r 0 m) (faZ n x y z cl cur p q r 0 m) <;> rfl
    · rw [hc]
      simp only [Bool.and_eq_true] at hc
      cases hA : areW m n x y z cur
      · rfl
      · rw [hc.1, (areW_ok hA).2]
        cases vfin p q r
        · rfl
        · first | rfl | (cases fOkA m n x y z cl cur p q r <;> rfl)
  · cases h

end Go.Fw.E1

/-
  The sine of turns: what it calls.
-/
namespace Go.Fw.E1
open Go.Proofs

def absN (x : Nat) : Nat := x % 9223372036854775808
theorem sw64 : FloatKind.f64.format.signWeight = 9223372036854775808 := Eq.trans (show FloatKind.f64.format.signWeight = 2 ^ 63 by rfl) (by simp)
theorem auto129 (x : Nat) : autoLp cfg29 (fun _ => none) Try.f112 [.flt .f64 x] =
    some (!isNaN FloatKind.f64 x && (decide (0 ≤ bclr IntKind.u64 (Int.ofNat x) 9223372036854775808) && decide (bclr IntKind.u64 (Int.ofNat x) 9223372036854775808 < 18446744073709551616) && true), A.flt FloatKind.f64 (can FloatKind.f64 (bclr IntKind.u64 (Int.ofNat x) (Int.ofNat 9223372036854775808)).toNat)) := by kernel_rfl
noncomputable def s129 : List A → Option (Bool × A)
  | [.flt .f64 x] => some (!isNaN .f64 x, .flt .f64 (absN x))
  | _ => none
theorem s129_at : EnvAt Try.prog 112 s129 := of_auto cfg29_ok (lp_none _) Try.func112 (by kernel_rfl) (by kernel_rfl) fun ds cc rr h hc => by
  unfold s129 at h
  split at h
  · rename_i x
    simp only [Option.some.injEq, Prod.mk.injEq] at h
    obtain ⟨rfl, rfl⟩ := h
    refine auto_fit (auto129 x) ?_ ?_
    · have h1 : isNaN .f64 (x % 9223372036854775808) = false := by rw [isNaN_eq] at hc ⊢; rw [sw64] at hc ⊢; rw [Nat.mod_mod]; simpa using hc
      show A.flt .f64 (can .f64 (bclr .u64 (Int.ofNat x) 9223372036854775808).toNat) = _
      rw [bclr_abs]
      show A.flt .f64 (can .f64 (x % 9223372036854775808)) = A.flt .f64 (x % 9223372036854775808)
      rw [can_of_not h1]
    · rw [bclr_abs, hc, dec0]
      have := Nat.mod_lt x (show 0 < 9223372036854775808 by decide)
      simp; omega
  · cases h

theorem auto141 : autoLp cfg29 (fun _ => none) Try.f122 [] = some (true, A.flt FloatKind.f64 (can FloatKind.f64 9221120237041090561)) := by kernel_rfl
noncomputable def s141 : List A → Option (Bool × A)
  | [] => some (true, .flt .f64 (qnan .f64))
  | _ => none
theorem s141_at : EnvAt Try.prog 122 s141 := of_auto cfg29_ok (lp_none _) Try.func122 (by kernel_rfl) (by kernel_rfl) fun ds cc rr h hc => by
  unfold s141 at h
  split at h
  · simp only [Option.some.injEq, Prod.mk.injEq] at h
    obtain ⟨rfl, rfl⟩ := h
    exact auto_fit auto141 (by rw [show can .f64 9221120237041090561 = qnan .f64 by decide +kernel]) rfl
  · cases h
noncomputable def env30 : List (Nat × (List A → Option (Bool × A))) := (112, s129) :: (122, s141) :: env29
theorem env30_ok : EnvOK Try.prog (look env30) := (env_cons s129_at (env_cons s141_at env29_ok))
noncomputable def cfg30 : Cfg := mkCfg tab [] xts (look env30)
theorem cfg30_ok : CfgOK Try.prog cfg30 := cfg_ok tab_eq (no_fts _) xts_ok env30_ok mixed
theorem auto128 : autoLp cfg30 (fun _ => none) Try.f111 [] = some (fcvtOk .f64 .f32 (qnan .f64), A.flt .f32 (fcvt .f64 .f32 (qnan .f64))) := by kernel_rfl
noncomputable def s128 : List A → Option (Bool × A)
  | [] => some (true, .flt .f32 (qnan .f32))
  | _ => none
theorem s128_at : EnvAt Try.prog 111 s128 := of_auto cfg30_ok (lp_none _) Try.func111 (by kernel_rfl) (by kernel_rfl) fun ds cc rr h hc => by
  unfold s128 at h
  split at h
  · simp only [Option.some.injEq, Prod.mk.injEq] at h
    obtain ⟨rfl, rfl⟩ := h
    exact auto_fit auto128 (by rw [show fcvt .f64 .f32 (qnan .f64) = qnan .f32 by decide +kernel]) (by decide +kernel)
  · cases h
noncomputable def env31 : List (Nat × (List A → Option (Bool × A))) := (111, s128) :: env30
theorem env31_ok : EnvOK Try.prog (look env31) := (env_cons s128_at env30_ok)
noncomputable def cfg31 : Cfg := mkCfg tab [] xts (look env31)
theorem cfg31_ok : CfgOK Try.prog cfg31 := cfg_ok tab_eq (no_fts _) xts_ok env31_ok mixed
end Go.Fw.E1

/-
  The sine of turns: its eight steps.
-/
namespace Go.Fw.E1
open Go.Proofs

def kI (k : Nat) : Int := 8 - Int.ofNat k
def kF (k : Nat) : Nat := fofInt .f64 (8 - Int.ofNat k)
theorem kI_step {k : Nat} (h : k < 8) : fofInt FloatKind.f64 (IntKind.i64.wrap (IntKind.i64.wrap (Int.ofNat 2 * kI k) * IntKind.i64.wrap (IntKind.i64.wrap (Int.ofNat 2 * kI k) + Int.ofNat 1))) = den k ∧ IntKind.i64.wrap (kI k - Int.ofNat 1) = kI (k + 1) := by
  have e : ∀ k, k < 8 → IntKind.i64.wrap (IntKind.i64.wrap (Int.ofNat 2 * kI k) * IntKind.i64.wrap (IntKind.i64.wrap (Int.ofNat 2 * kI k) + Int.ofNat 1)) = denI k ∧ IntKind.i64.wrap (kI k - Int.ofNat 1) = kI (k + 1) := by decide +kernel
  exact ⟨by rw [(e k h).1]; rfl, (e k h).2⟩
theorem kI_test {k : Nat} (h : k < 8) : decide (kI k ≥ 1) = true := by
  unfold kI; simp; omega
theorem kI_end {k : Nat} (h : k = 8) : decide (kI k ≥ 1) = false := by
  subst h; decide
theorem kF_step {k : Nat} (h : k < 8) : fop BinOp.mul FloatKind.f64 (fop BinOp.mul FloatKind.f64 (can FloatKind.f64 4611686018427387904) (kF k)) (fop BinOp.add FloatKind.f64 (fop BinOp.mul FloatKind.f64 (can FloatKind.f64 4611686018427387904) (kF k)) (can FloatKind.f64 4607182418800017408)) = den k ∧ fop BinOp.sub FloatKind.f64 (kF k) (can FloatKind.f64 4607182418800017408) = kF (k + 1) := by
  have e : ∀ k, k < 8 → fop BinOp.mul FloatKind.f64 (fop BinOp.mul FloatKind.f64 (can FloatKind.f64 4611686018427387904) (kF k)) (fop BinOp.add FloatKind.f64 (fop BinOp.mul FloatKind.f64 (can FloatKind.f64 4611686018427387904) (kF k)) (can FloatKind.f64 4607182418800017408)) = den k ∧ fop BinOp.sub FloatKind.f64 (kF k) (can FloatKind.f64 4607182418800017408) = kF (k + 1) := by decide +kernel
  exact e k h
theorem kF_test {k : Nat} (h : k < 8) : (forder FloatKind.f64 (kF k) (can FloatKind.f64 4607182418800017408) == some Ordering.gt || forder FloatKind.f64 (kF k) (can FloatKind.f64 4607182418800017408) == some Ordering.eq) = true := by
  have e : ∀ k, k < 8 → (forder FloatKind.f64 (kF k) (can FloatKind.f64 4607182418800017408) == some Ordering.gt || forder FloatKind.f64 (kF k) (can FloatKind.f64 4607182418800017408) == some Ordering.eq) = true := by decide +kernel
  exact e k h
theorem kF_end {k : Nat} (h : k = 8) : (forder FloatKind.f64 (kF k) (can FloatKind.f64 4607182418800017408) == some Ordering.gt || forder FloatKind.f64 (kF k) (can FloatKind.f64 4607182418800017408) == some Ordering.eq) = false := by
  subst h; decide +kernel
noncomputable def I132a (t : Bool) (z u : Nat) (k : Nat) : List A := [.bool t, .flt .f64 z, .flt .f64 u, .flt .f64 (sp u k), .int .i64 (kI k)]
noncomputable def J132a (t : Bool) (z u : Nat) (k : Nat) : List O := []
noncomputable def F132a : List A → List (Option O) → Option R3
  | [.bool t, .flt .f64 z, .flt .f64 u, .flt .f64 p, .int .i64 k8], [] => some (.ite (Nat.beq p (sp u 0) && decide (k8 = kI 0)) (.leaf .normal (I132a t z u (8)) (J132a t z u (8))) .fail)
  | _, _ => none
noncomputable def I132b (t : Bool) (z u : Nat) (k : Nat) : List A := [.bool t, .flt .f64 z, .flt .f64 u, .flt .f64 (sp u k), .int .i64 (kI k)]
noncomputable def J132b (t : Bool) (z u : Nat) (k : Nat) : List O := []
noncomputable def F132b : List A → List (Option O) → Option R3
  | [.bool t, .flt .f64 z, .flt .f64 u, .flt .f64 p, .int .i64 k8], [] => some (.ite (Nat.beq p (sp u 0) && decide (k8 = kI 0)) (.leaf .normal (I132b t z u (8)) (J132b t z u (8))) .fail)
  | _, _ => none
noncomputable def I132c (t : Bool) (z u : Nat) (k : Nat) : List A := [.bool t, .flt .f64 z, .flt .f64 u, .flt .f64 (sp u k), .int .i64 (kI k)]
noncomputable def J132c (t : Bool) (z u : Nat) (k : Nat) : List O := []
noncomputable def F132c : List A → List (Option O) → Option R3
  | [.bool t, .flt .f64 z, .flt .f64 u, .flt .f64 p, .int .i64 k8], [] => some (.ite (Nat.beq p (sp u 0) && decide (k8 = kI 0)) (.leaf .normal (I132c t z u (8)) (J132c t z u (8))) .fail)
  | _, _ => none
noncomputable def I132d (t : Bool) (z u : Nat) (k : Nat) : List A := [.bool t, .flt .f64 z, .flt .f64 u, .flt .f64 (sp u k), .int .i64 (kI k)]
noncomputable def J132d (t : Bool) (z u : Nat) (k : Nat) : List O := []
noncomputable def F132d : List A → List (Option O) → Option R3
  | [.bool t, .flt .f64 z, .flt .f64 u, .flt .f64 p, .int .i64 k8], [] => some (.ite (Nat.beq p (sp u 0) && decide (k8 = kI 0)) (.leaf .normal (I132d t z u (8)) (J132d t z u (8))) .fail)
  | _, _ => none
noncomputable def I80a (t : Bool) (z u : Nat) (k : Nat) : List A := [.bool t, .flt .f64 z, .flt .f64 u, .flt .f64 (sp u k), .flt .f64 (kF k)]
noncomputable def J80a (t : Bool) (z u : Nat) (k : Nat) : List O := []
theorem round80a (t : Bool) (z u : Nat) (k : Nat) (L : XK → List A → List (Option O) → Prop) :
    ((exec cfg31 (fun _ => true) (fun _ => none) 0 1000 (loopOf Try.f74 0) (litSt Try.f74.ntmps 528 [5, 6, 7, 8, 9] [] (I80a t z u k) (J80a t z u k))).rt [5, 6, 7, 8, 9] []).Ok L =
    bif forder FloatKind.f64 (kF k) (can FloatKind.f64 4607182418800017408) == some Ordering.gt || forder FloatKind.f64 (kF k) (can FloatKind.f64 4607182418800017408) == some Ordering.eq then
      L (XK.normal) ([A.bool t, A.flt FloatKind.f64 z, A.flt FloatKind.f64 u, A.flt FloatKind.f64 (fop BinOp.sub FloatKind.f64 (can FloatKind.f64 4607182418800017408) (fop BinOp.quo FloatKind.f64 (fop BinOp.mul FloatKind.f64 u (sp u k)) (fop BinOp.mul FloatKind.f64 (fop BinOp.mul FloatKind.f64 (can FloatKind.f64 4611686018427387904) (kF k)) (fop BinOp.add FloatKind.f64 (fop BinOp.mul FloatKind.f64 (can FloatKind.f64 4611686018427387904) (kF k)) (can FloatKind.f64 4607182418800017408))))), A.flt FloatKind.f64 (fop BinOp.sub FloatKind.f64 (kF k) (can FloatKind.f64 4607182418800017408))]) ([])
    else
      L (XK.exit 0) ([A.bool t, A.flt FloatKind.f64 z, A.flt FloatKind.f64 u, A.flt FloatKind.f64 (sp u k), A.flt FloatKind.f64 (kF k)]) ([]) := by kernel_rfl
noncomputable def F80a : List A → List (Option O) → Option R3
  | [.bool t, .flt .f64 z, .flt .f64 u, .flt .f64 p, .flt .f64 k8], [] => some (.ite (Nat.beq p (sp u 0) && Nat.beq k8 (kF 0)) (.leaf .normal (I80a t z u (8)) (J80a t z u (8))) .fail)
  | _, _ => none
theorem loop80a : CodeOK Try.prog (fun _ σ => sumAt Try.f74.ntmps 528 [5, 6, 7, 8, 9] [] F80a σ) (.block 0 (.loop (loopOf Try.f74 0))) := by
  refine block_ok (own := fun _ => true) (lp := (fun _ => none)) (un := 0) (fuel := 1000) cfg31_ok (lp_none _) fun az os R hF hok => ?_
  unfold F80a at hF
  split at hF
  · rename_i t z u p k8
    injection hF with hF
    subst hF
    have hg := hok.guard
    have hg' := hg
    simp only [Bool.and_eq_true, Nat.ble_eq, Nat.beq_eq, decide_eq_true_eq] at hg'
    obtain ⟨rfl, rfl⟩ := hg'
    refine for_fact (ids := []) (fun _ => true) (8) (I80a t z u) (J80a t z u) _ (.ret) (I80a t z u) (I80a t z u) (I80a t z u (8)) (J80a t z u (8)) rfl (OSims.self _) (fun _ => rfl) (fun _ => rfl) (fun _ => ALe.self _) (fun _ => rfl) (ALe.self _) (OSims.self _) rfl (fun h => by cases h) (fun k hk L h1 h2 h3 => ?_) fun L hL => ?_
    · rw [round80a]

      by_cases hkm : k < 8
      · refine condT (kF_test hkm) ?_
        rw [(kF_step hkm).1, (kF_step hkm).2]
        exact h1 hkm rfl _ trivial
      · refine condE (kF_end (by omega)) ?_
        obtain rfl : k = 8 := by omega
        exact h3 rfl
    · exact ⟨fun _ => hL.1 hg, fun N _ h => by cases h⟩
  · cases hF

noncomputable def I80b (t : Bool) (z u : Nat) (k : Nat) : List A := [.bool t, .flt .f64 z, .flt .f64 u, .flt .f64 (sp u k), .flt .f64 (kF k)]
noncomputable def J80b (t : Bool) (z u : Nat) (k : Nat) : List O := []
theorem round80b (t : Bool) (z u : Nat) (k : Nat) (L : XK → List A → List (Option O) → Prop) :
    ((exec cfg31 (fun _ => true) (fun _ => none) 0 1000 (loopOf Try.f74 0) (litSt Try.f74.ntmps 576 [5, 6, 7, 8, 9] [] (I80b t z u k) (J80b t z u k))).rt [5, 6, 7, 8, 9] []).Ok L =
    bif forder FloatKind.f64 (kF k) (can FloatKind.f64 4607182418800017408) == some Ordering.gt || forder FloatKind.f64 (kF k) (can FloatKind.f64 4607182418800017408) == some Ordering.eq then
      L (XK.normal) ([A.bool t, A.flt FloatKind.f64 z, A.flt FloatKind.f64 u, A.flt FloatKind.f64 (fop BinOp.sub FloatKind.f64 (can FloatKind.f64 4607182418800017408) (fop BinOp.quo FloatKind.f64 (fop BinOp.mul FloatKind.f64 u (sp u k)) (fop BinOp.mul FloatKind.f64 (fop BinOp.mul FloatKind.f64 (can FloatKind.f64 4611686018427387904) (kF k)) (fop BinOp.add FloatKind.f64 (fop BinOp.mul FloatKind.f64 (can FloatKind.f64 4611686018427387904) (kF k)) (can FloatKind.f64 4607182418800017408))))), A.flt FloatKind.f64 (fop BinOp.sub FloatKind.f64 (kF k) (can FloatKind.f64 4607182418800017408))]) ([])
    else
      L (XK.exit 0) ([A.bool t, A.flt FloatKind.f64 z, A.flt FloatKind.f64 u, A.flt FloatKind.f64 (sp u k), A.flt FloatKind.f64 (kF k)]) ([]) := by kernel_rfl
noncomputable def F80b : List A → List (Option O) → Option R3
  | [.bool t, .flt .f64 z, .flt .f64 u, .flt .f64 p, .flt .f64 k8], [] => some (.ite (Nat.beq p (sp u 0) && Nat.beq k8 (kF 0)) (.leaf .normal (I80b t z u (8)) (J80b t z u (8))) .fail)
  | _, _ => none
theorem loop80b : CodeOK Try.prog (fun _ σ => sumAt Try.f74.ntmps 576 [5, 6, 7, 8, 9] [] F80b σ) (.block 0 (.loop (loopOf Try.f74 0))) := by
  refine block_ok (own := fun _ => true) (lp := (fun _ => none)) (un := 0) (fuel := 1000) cfg31_ok (lp_none _) fun az os R hF hok => ?_
  unfold F80b at hF
  split at hF
  · rename_i t z u p k8
    injection hF with hF
    subst hF
    have hg := hok.guard
    have hg' := hg
    simp only [Bool.and_eq_true, Nat.ble_eq, Nat.beq_eq, decide_eq_true_eq] at hg'
    obtain ⟨rfl, rfl⟩ := hg'
    refine for_fact (ids := []) (fun _ => true) (8) (I80b t z u) (J80b t z u) _ (.ret) (I80b t z u) (I80b t z u) (I80b t z u (8)) (J80b t z u (8)) rfl (OSims.self _) (fun _ => rfl) (fun _ => rfl) (fun _ => ALe.self _) (fun _ => rfl) (ALe.self _) (OSims.self _) rfl (fun h => by cases h) (fun k hk L h1 h2 h3 => ?_) fun L hL => ?_
    · rw [round80b]

      by_cases hkm : k < 8
      · refine condT (kF_test hkm) ?_
        rw [(kF_step hkm).1, (kF_step hkm).2]
        exact h1 hkm rfl _ trivial
      · refine condE (kF_end (by omega)) ?_
        obtain rfl : k = 8 := by omega
        exact h3 rfl
    · exact ⟨fun _ => hL.1 hg, fun N _ h => by cases h⟩
  · cases hF

noncomputable def I80c (t : Bool) (z u : Nat) (k : Nat) : List A := [.bool t, .flt .f64 z, .flt .f64 u, .flt .f64 (sp u k), .flt .f64 (kF k)]
noncomputable def J80c (t : Bool) (z u : Nat) (k : Nat) : List O := []
theorem round80c (t : Bool) (z u : Nat) (k : Nat) (L : XK → List A → List (Option O) → Prop) :
    ((exec cfg31 (fun _ => true) (fun _ => none) 0 1000 (loopOf Try.f74 0) (litSt Try.f74.ntmps 624 [5, 6, 7, 8, 9] [] (I80c t z u k) (J80c t z u k))).rt [5, 6, 7, 8, 9] []).Ok L =
    bif forder FloatKind.f64 (kF k) (can FloatKind.f64 4607182418800017408) == some Ordering.gt || forder FloatKind.f64 (kF k) (can FloatKind.f64 4607182418800017408) == some Ordering.eq then
      L (XK.normal) ([A.bool t, A.flt FloatKind.f64 z, A.flt FloatKind.f64 u, A.flt FloatKind.f64 (fop BinOp.sub FloatKind.f64 (can FloatKind.f64 4607182418800017408) (fop BinOp.quo FloatKind.f64 (fop BinOp.mul FloatKind.f64 u (sp u k)) (fop BinOp.mul FloatKind.f64 (fop BinOp.mul FloatKind.f64 (can FloatKind.f64 4611686018427387904) (kF k)) (fop BinOp.add FloatKind.f64 (fop BinOp.mul FloatKind.f64 (can FloatKind.f64 4611686018427387904) (kF k)) (can FloatKind.f64 4607182418800017408))))), A.flt FloatKind.f64 (fop BinOp.sub FloatKind.f64 (kF k) (can FloatKind.f64 4607182418800017408))]) ([])
    else
      L (XK.exit 0) ([A.bool t, A.flt FloatKind.f64 z, A.flt FloatKind.f64 u, A.flt FloatKind.f64 (sp u k), A.flt FloatKind.f64 (kF k)]) ([]) := by kernel_rfl
noncomputable def F80c : List A → List (Option O) → Option R3
  | [.bool t, .flt .f64 z, .flt .f64 u, .flt .f64 p, .flt .f64 k8], [] => some (.ite (Nat.beq p (sp u 0) && Nat.beq k8 (kF 0)) (.leaf .normal (I80c t z u (8)) (J80c t z u (8))) .fail)
  | _, _ => none
theorem loop80c : CodeOK Try.prog (fun _ σ => sumAt Try.f74.ntmps 624 [5, 6, 7, 8, 9] [] F80c σ) (.block 0 (.loop (loopOf Try.f74 0))) := by
  refine block_ok (own := fun _ => true) (lp := (fun _ => none)) (un := 0) (fuel := 1000) cfg31_ok (lp_none _) fun az os R hF hok => ?_
  unfold F80c at hF
  split at hF
  · rename_i t z u p k8
    injection hF with hF
    subst hF
    have hg := hok.guard
    have hg' := hg
    simp only [Bool.and_eq_true, Nat.ble_eq, Nat.beq_eq, decide_eq_true_eq] at hg'
    obtain ⟨rfl, rfl⟩ := hg'
    refine for_fact (ids := []) (fun _ => true) (8) (I80c t z u) (J80c t z u) _ (.ret) (I80c t z u) (I80c t z u) (I80c t z u (8)) (J80c t z u (8)) rfl (OSims.self _) (fun _ => rfl) (fun _ => rfl) (fun _ => ALe.self _) (fun _ => rfl) (ALe.self _) (OSims.self _) rfl (fun h => by cases h) (fun k hk L h1 h2 h3 => ?_) fun L hL => ?_
    · rw [round80c]

      by_cases hkm : k < 8
      · refine condT (kF_test hkm) ?_
        rw [(kF_step hkm).1, (kF_step hkm).2]
        exact h1 hkm rfl _ trivial
      · refine condE (kF_end (by omega)) ?_
        obtain rfl : k = 8 := by omega
        exact h3 rfl
    · exact ⟨fun _ => hL.1 hg, fun N _ h => by cases h⟩
  · cases hF

noncomputable def I80d (t : Bool) (z u : Nat) (k : Nat) : List A := [.bool t, .flt .f64 z, .flt .f64 u, .flt .f64 (sp u k), .flt .f64 (kF k)]
noncomputable def J80d (t : Bool) (z u : Nat) (k : Nat) : List O := []
theorem round80d (t : Bool) (z u : Nat) (k : Nat) (L : XK → List A → List (Option O) → Prop) :
    ((exec cfg31 (fun _ => true) (fun _ => none) 0 1000 (loopOf Try.f74 0) (litSt Try.f74.ntmps 672 [5, 6, 7, 8, 9] [] (I80d t z u k) (J80d t z u k))).rt [5, 6, 7, 8, 9] []).Ok L =
    bif forder FloatKind.f64 (kF k) (can FloatKind.f64 4607182418800017408) == some Ordering.gt || forder FloatKind.f64 (kF k) (can FloatKind.f64 4607182418800017408) == some Ordering.eq then
      L (XK.normal) ([A.bool t, A.flt FloatKind.f64 z, A.flt FloatKind.f64 u, A.flt FloatKind.f64 (fop BinOp.sub FloatKind.f64 (can FloatKind.f64 4607182418800017408) (fop BinOp.quo FloatKind.f64 (fop BinOp.mul FloatKind.f64 u (sp u k)) (fop BinOp.mul FloatKind.f64 (fop BinOp.mul FloatKind.f64 (can FloatKind.f64 4611686018427387904) (kF k)) (fop BinOp.add FloatKind.f64 (fop BinOp.mul FloatKind.f64 (can FloatKind.f64 4611686018427387904) (kF k)) (can FloatKind.f64 4607182418800017408))))), A.flt FloatKind.f64 (fop BinOp.sub FloatKind.f64 (kF k) (can FloatKind.f64 4607182418800017408))]) ([])
    else
      L (XK.exit 0) ([A.bool t, A.flt FloatKind.f64 z, A.flt FloatKind.f64 u, A.flt FloatKind.f64 (sp u k), A.flt FloatKind.f64 (kF k)]) ([]) := by kernel_rfl
noncomputable def F80d : List A → List (Option O) → Option R3
  | [.bool t, .flt .f64 z, .flt .f64 u, .flt .f64 p, .flt .f64 k8], [] => some (.ite (Nat.beq p (sp u 0) && Nat.beq k8 (kF 0)) (.leaf .normal (I80d t z u (8)) (J80d t z u (8))) .fail)
  | _, _ => none
theorem loop80d : CodeOK Try.prog (fun _ σ => sumAt Try.f74.ntmps 672 [5, 6, 7, 8, 9] [] F80d σ) (.block 0 (.loop (loopOf Try.f74 0))) := by
  refine block_ok (own := fun _ => true) (lp := (fun _ => none)) (un := 0) (fuel := 1000) cfg31_ok (lp_none _) fun az os R hF hok => ?_
  unfold F80d at hF
  split at hF
  · rename_i t z u p k8
    injection hF with hF
    subst hF
    have hg := hok.guard
    have hg' := hg
    simp only [Bool.and_eq_true, Nat.ble_eq, Nat.beq_eq, decide_eq_true_eq] at hg'
    obtain ⟨rfl, rfl⟩ := hg'
    refine for_fact (ids := []) (fun _ => true) (8) (I80d t z u) (J80d t z u) _ (.ret) (I80d t z u) (I80d t z u) (I80d t z u (8)) (J80d t z u (8)) rfl (OSims.self _) (fun _ => rfl) (fun _ => rfl) (fun _ => ALe.self _) (fun _ => rfl) (ALe.self _) (OSims.self _) rfl (fun h => by cases h) (fun k hk L h1 h2 h3 => ?_) fun L hL => ?_
    · rw [round80d]

      by_cases hkm : k < 8
      · refine condT (kF_test hkm) ?_
        rw [(kF_step hkm).1, (kF_step hkm).2]
        exact h1 hkm rfl _ trivial
      · refine condE (kF_end (by omega)) ?_
        obtain rfl : k = 8 := by omega
        exact h3 rfl
    · exact ⟨fun _ => hL.1 hg, fun N _ h => by cases h⟩
  · cases hF

noncomputable def N80 (σ : St) : T := match Nat.beq σ.next 528 with
  | true => sumAt Try.f74.ntmps 528 [5, 6, 7, 8, 9] [] F80a σ
  | false => match Nat.beq σ.next 576 with
    | true => sumAt Try.f74.ntmps 576 [5, 6, 7, 8, 9] [] F80b σ
    | false => match Nat.beq σ.next 624 with
      | true => sumAt Try.f74.ntmps 624 [5, 6, 7, 8, 9] [] F80c σ
      | false => sumAt Try.f74.ntmps 672 [5, 6, 7, 8, 9] [] F80d σ
theorem loopN80 : CodeOK Try.prog (fun _ σ => N80 σ) (.block 0 (.loop (loopOf Try.f74 0))) := by
  intro σ L hok
  replace hok : (N80 σ).Ok Try.prog L := hok
  unfold N80 at hok
  split at hok
  · exact loop80a σ L hok
  · split at hok
    · exact loop80b σ L hok
    · split at hok
      · exact loop80c σ L hok
      · exact loop80d σ L hok

end Go.Fw.E1

/-
  The sine of turns: contracts.
-/
namespace Go.Fw.E1
open Go.Proofs

theorem can0' : can .f32 0 = 0 := by decide +kernel
theorem fin_num (x : Nat) : fin x = num .f32 x := by
  unfold fin
  rw [can0', num_sub]
  cases num .f32 x <;> rfl
theorem big_absN {x : Nat} (h : num .f64 x = true) : geF (absN x) c52 = bigF x := by
  obtain ⟨s, m, i, hy⟩ := num_iff.1 h
  have := (big_abs hy).1
  rw [sw64] at this
  exact this
noncomputable def s132 : List A → Option (Bool × A)
  | [.flt .f64 x] => some (true, .flt .f64 (sineW x))
  | _ => none
noncomputable def lp80 : List (Nat × (St → T)) := [(0, N80)]
theorem lp80_ok : LpOK Try.prog (look lp80) (bodyOf Try.f74) := lp_loops (by kernel_rfl) (by kernel_rfl) fun p hp => by
  simp only [lp80, List.mem_cons, List.not_mem_nil, or_false] at hp
  rcases hp with rfl
  · exact loopN80
theorem auto80 (x : Nat) : autoLp cfg31 (look lp80) Try.f74 [.flt .f32 x] =
    some (bif !fin x then true else !isNaN FloatKind.f64 (fcvt FloatKind.f32 FloatKind.f64 x) && bif forder FloatKind.f64 (absN (fcvt FloatKind.f32 FloatKind.f64 x)) (can FloatKind.f64 4841369599423283200) == some Ordering.gt || forder FloatKind.f64 (absN (fcvt FloatKind.f32 FloatKind.f64 x)) (can FloatKind.f64 4841369599423283200) == some Ordering.eq then true else ftoIntOk FloatKind.f64 (fcvt FloatKind.f32 FloatKind.f64 x) IntKind.i64 && bif forder FloatKind.f64 (fop BinOp.sub FloatKind.f64 (fcvt FloatKind.f32 FloatKind.f64 x) (fofInt FloatKind.f64 (ftoInt FloatKind.f64 (fcvt FloatKind.f32 FloatKind.f64 x) IntKind.i64))) (can FloatKind.f64 0) == some Ordering.lt then bif forder FloatKind.f64 (fop BinOp.add FloatKind.f64 (fop BinOp.sub FloatKind.f64 (fcvt FloatKind.f32 FloatKind.f64 x) (fofInt FloatKind.f64 (ftoInt FloatKind.f64 (fcvt FloatKind.f32 FloatKind.f64 x) IntKind.i64))) (can FloatKind.f64 4607182418800017408)) (can FloatKind.f64 4602678819172646912) == some Ordering.gt || forder FloatKind.f64 (fop BinOp.add FloatKind.f64 (fop BinOp.sub FloatKind.f64 (fcvt FloatKind.f32 FloatKind.f64 x) (fofInt FloatKind.f64 (ftoInt FloatKind.f64 (fcvt FloatKind.f32 FloatKind.f64 x) IntKind.i64))) (can FloatKind.f64 4607182418800017408)) (can FloatKind.f64 4602678819172646912) == some Ordering.eq then bif forder FloatKind.f64 (fop BinOp.sub FloatKind.f64 (fop BinOp.add FloatKind.f64 (fop BinOp.sub FloatKind.f64 (fcvt FloatKind.f32 FloatKind.f64 x) (fofInt FloatKind.f64 (ftoInt FloatKind.f64 (fcvt FloatKind.f32 FloatKind.f64 x) IntKind.i64))) (can FloatKind.f64 4607182418800017408)) (can FloatKind.f64 4602678819172646912)) (can FloatKind.f64 4598175219545276416) == some Ordering.gt then (can FloatKind.f64 4607182418800017408).beq (sp (fop BinOp.mul FloatKind.f64 (fop BinOp.mul FloatKind.f64 (fop BinOp.sub FloatKind.f64 (can FloatKind.f64 4602678819172646912) (fop BinOp.sub FloatKind.f64 (fop BinOp.add FloatKind.f64 (fop BinOp.sub FloatKind.f64 (fcvt FloatKind.f32 FloatKind.f64 x) (fofInt FloatKind.f64 (ftoInt FloatKind.f64 (fcvt FloatKind.f32 FloatKind.f64 x) IntKind.i64))) (can FloatKind.f64 4607182418800017408)) (can FloatKind.f64 4602678819172646912))) (can FloatKind.f64 4618760256179416344)) (fop BinOp.mul FloatKind.f64 (fop BinOp.sub FloatKind.f64 (can FloatKind.f64 4602678819172646912) (fop BinOp.sub FloatKind.f64 (fop BinOp.add FloatKind.f64 (fop BinOp.sub FloatKind.f64 (fcvt FloatKind.f32 FloatKind.f64 x) (fofInt FloatKind.f64 (ftoInt FloatKind.f64 (fcvt FloatKind.f32 FloatKind.f64 x) IntKind.i64))) (can FloatKind.f64 4607182418800017408)) (can FloatKind.f64 4602678819172646912))) (can FloatKind.f64 4618760256179416344))) 0) && (can FloatKind.f64 4620693217682128896).beq (kF 0) && bif forder FloatKind.f64 (fop BinOp.add FloatKind.f64 (fop BinOp.sub FloatKind.f64 (fcvt FloatKind.f32 FloatKind.f64 x) (fofInt FloatKind.f64 (ftoInt FloatKind.f64 (fcvt FloatKind.f32 FloatKind.f64 x) IntKind.i64))) (can FloatKind.f64 4607182418800017408)) (can FloatKind.f64 4602678819172646912) == some Ordering.gt || forder FloatKind.f64 (fop BinOp.add FloatKind.f64 (fop BinOp.sub FloatKind.f64 (fcvt FloatKind.f32 FloatKind.f64 x) (fofInt FloatKind.f64 (ftoInt FloatKind.f64 (fcvt FloatKind.f32 FloatKind.f64 x) IntKind.i64))) (can FloatKind.f64 4607182418800017408)) (can FloatKind.f64 4602678819172646912) == some Ordering.eq then fcvtOk FloatKind.f64 FloatKind.f32 (fneg FloatKind.f64 (fop BinOp.mul FloatKind.f64 (fop BinOp.mul FloatKind.f64 (fop BinOp.sub FloatKind.f64 (can FloatKind.f64 4602678819172646912) (fop BinOp.sub FloatKind.f64 (fop BinOp.add FloatKind.f64 (fop BinOp.sub FloatKind.f64 (fcvt FloatKind.f32 FloatKind.f64 x) (fofInt FloatKind.f64 (ftoInt FloatKind.f64 (fcvt FloatKind.f32 FloatKind.f64 x) IntKind.i64))) (can FloatKind.f64 4607182418800017408)) (can FloatKind.f64 4602678819172646912))) (can FloatKind.f64 4618760256179416344)) (sp (fop BinOp.mul FloatKind.f64 (fop BinOp.mul FloatKind.f64 (fop BinOp.sub FloatKind.f64 (can FloatKind.f64 4602678819172646912) (fop BinOp.sub FloatKind.f64 (fop BinOp.add FloatKind.f64 (fop BinOp.sub FloatKind.f64 (fcvt FloatKind.f32 FloatKind.f64 x) (fofInt FloatKind.f64 (ftoInt FloatKind.f64 (fcvt FloatKind.f32 FloatKind.f64 x) IntKind.i64))) (can FloatKind.f64 4607182418800017408)) (can FloatKind.f64 4602678819172646912))) (can FloatKind.f64 4618760256179416344)) (fop BinOp.mul FloatKind.f64 (fop BinOp.sub FloatKind.f64 (can FloatKind.f64 4602678819172646912) (fop BinOp.sub FloatKind.f64 (fop BinOp.add FloatKind.f64 (fop BinOp.sub FloatKind.f64 (fcvt FloatKind.f32 FloatKind.f64 x) (fofInt FloatKind.f64 (ftoInt FloatKind.f64 (fcvt FloatKind.f32 FloatKind.f64 x) IntKind.i64))) (can FloatKind.f64 4607182418800017408)) (can FloatKind.f64 4602678819172646912))) (can FloatKind.f64 4618760256179416344))) 8))) && true else fcvtOk FloatKind.f64 FloatKind.f32 (fop BinOp.mul FloatKind.f64 (fop BinOp.mul FloatKind.f64 (fop BinOp.sub FloatKind.f64 (can FloatKind.f64 4602678819172646912) (fop BinOp.sub FloatKind.f64 (fop BinOp.add FloatKind.f64 (fop BinOp.sub FloatKind.f64 (fcvt FloatKind.f32 FloatKind.f64 x) (fofInt FloatKind.f64 (ftoInt FloatKind.f64 (fcvt FloatKind.f32 FloatKind.f64 x) IntKind.i64))) (can FloatKind.f64 4607182418800017408)) (can FloatKind.f64 4602678819172646912))) (can FloatKind.f64 4618760256179416344)) (sp (fop BinOp.mul FloatKind.f64 (fop BinOp.mul FloatKind.f64 (fop BinOp.sub FloatKind.f64 (can FloatKind.f64 4602678819172646912) (fop BinOp.sub FloatKind.f64 (fop BinOp.add FloatKind.f64 (fop BinOp.sub FloatKind.f64 (fcvt FloatKind.f32 FloatKind.f64 x) (fofInt FloatKind.f64 (ftoInt FloatKind.f64 (fcvt FloatKind.f32 FloatKind.f64 x) IntKind.i64))) (can FloatKind.f64 4607182418800017408)) (can FloatKind.f64 4602678819172646912))) (can FloatKind.f64 4618760256179416344)) (fop BinOp.mul FloatKind.f64 (fop BinOp.sub FloatKind.f64 (can FloatKind.f64 4602678819172646912) (fop BinOp.sub FloatKind.f64 (fop BinOp.add FloatKind.f64 (fop BinOp.sub FloatKind.f64 (fcvt FloatKind.f32 FloatKind.f64 x) (fofInt FloatKind.f64 (ftoInt FloatKind.f64 (fcvt FloatKind.f32 FloatKind.f64 x) IntKind.i64))) (can FloatKind.f64 4607182418800017408)) (can FloatKind.f64 4602678819172646912))) (can FloatKind.f64 4618760256179416344))) 8)) && true else (can FloatKind.f64 4607182418800017408).beq (sp (fop BinOp.mul FloatKind.f64 (fop BinOp.mul FloatKind.f64 (fop BinOp.sub FloatKind.f64 (fop BinOp.add FloatKind.f64 (fop BinOp.sub FloatKind.f64 (fcvt FloatKind.f32 FloatKind.f64 x) (fofInt FloatKind.f64 (ftoInt FloatKind.f64 (fcvt FloatKind.f32 FloatKind.f64 x) IntKind.i64))) (can FloatKind.f64 4607182418800017408)) (can FloatKind.f64 4602678819172646912)) (can FloatKind.f64 4618760256179416344)) (fop BinOp.mul FloatKind.f64 (fop BinOp.sub FloatKind.f64 (fop BinOp.add FloatKind.f64 (fop BinOp.sub FloatKind.f64 (fcvt FloatKind.f32 FloatKind.f64 x) (fofInt FloatKind.f64 (ftoInt FloatKind.f64 (fcvt FloatKind.f32 FloatKind.f64 x) IntKind.i64))) (can FloatKind.f64 4607182418800017408)) (can FloatKind.f64 4602678819172646912)) (can FloatKind.f64 4618760256179416344))) 0) && (can FloatKind.f64 4620693217682128896).beq (kF 0) && bif forder FloatKind.f64 (fop BinOp.add FloatKind.f64 (fop BinOp.sub FloatKind.f64 (fcvt FloatKind.f32 FloatKind.f64 x) (fofInt FloatKind.f64 (ftoInt FloatKind.f64 (fcvt FloatKind.f32 FloatKind.f64 x) IntKind.i64))) (can FloatKind.f64 4607182418800017408)) (can FloatKind.f64 4602678819172646912) == some Ordering.gt || forder FloatKind.f64 (fop BinOp.add FloatKind.f64 (fop BinOp.sub FloatKind.f64 (fcvt FloatKind.f32 FloatKind.f64 x) (fofInt FloatKind.f64 (ftoInt FloatKind.f64 (fcvt FloatKind.f32 FloatKind.f64 x) IntKind.i64))) (can FloatKind.f64 4607182418800017408)) (can FloatKind.f64 4602678819172646912) == some Ordering.eq then fcvtOk FloatKind.f64 FloatKind.f32 (fneg FloatKind.f64 (fop BinOp.mul FloatKind.f64 (fop BinOp.mul FloatKind.f64 (fop BinOp.sub FloatKind.f64 (fop BinOp.add FloatKind.f64 (fop BinOp.sub FloatKind.f64 (fcvt FloatKind.f32 FloatKind.f64 x) (fofInt FloatKind.f64 (ftoInt FloatKind.f64 (fcvt FloatKind.f32 FloatKind.f64 x) IntKind.i64))) (can FloatKind.f64 4607182418800017408)) (can FloatKind.f64 4602678819172646912)) (can FloatKind.f64 4618760256179416344)) (sp (fop BinOp.mul FloatKind.f64 (fop BinOp.mul FloatKind.f64 (fop BinOp.sub FloatKind.f64 (fop BinOp.add FloatKind.f64 (fop BinOp.sub FloatKind.f64 (fcvt FloatKind.f32 FloatKind.f64 x) (fofInt FloatKind.f64 (ftoInt FloatKind.f64 (fcvt FloatKind.f32 FloatKind.f64 x) IntKind.i64))) (can FloatKind.f64 4607182418800017408)) (can FloatKind.f64 4602678819172646912)) (can FloatKind.f64 4618760256179416344)) (fop BinOp.mul FloatKind.f64 (fop BinOp.sub FloatKind.f64 (fop BinOp.add FloatKind.f64 (fop BinOp.sub FloatKind.f64 (fcvt FloatKind.f32 FloatKind.f64 x) (fofInt FloatKind.f64 (ftoInt FloatKind.f64 (fcvt FloatKind.f32 FloatKind.f64 x) IntKind.i64))) (can FloatKind.f64 4607182418800017408)) (can FloatKind.f64 4602678819172646912)) (can FloatKind.f64 4618760256179416344))) 8))) && true else fcvtOk FloatKind.f64 FloatKind.f32 (fop BinOp.mul FloatKind.f64 (fop BinOp.mul FloatKind.f64 (fop BinOp.sub FloatKind.f64 (fop BinOp.add FloatKind.f64 (fop BinOp.sub FloatKind.f64 (fcvt FloatKind.f32 FloatKind.f64 x) (fofInt FloatKind.f64 (ftoInt FloatKind.f64 (fcvt FloatKind.f32 FloatKind.f64 x) IntKind.i64))) (can FloatKind.f64 4607182418800017408)) (can FloatKind.f64 4602678819172646912)) (can FloatKind.f64 4618760256179416344)) (sp (fop BinOp.mul FloatKind.f64 (fop BinOp.mul FloatKind.f64 (fop BinOp.sub FloatKind.f64 (fop BinOp.add FloatKind.f64 (fop BinOp.sub FloatKind.f64 (fcvt FloatKind.f32 FloatKind.f64 x) (fofInt FloatKind.f64 (ftoInt FloatKind.f64 (fcvt FloatKind.f32 FloatKind.f64 x) IntKind.i64))) (can FloatKind.f64 4607182418800017408)) (can FloatKind.f64 4602678819172646912)) (can FloatKind.f64 4618760256179416344)) (fop BinOp.mul FloatKind.f64 (fop BinOp.sub FloatKind.f64 (fop BinOp.add FloatKind.f64 (fop BinOp.sub FloatKind.f64 (fcvt FloatKind.f32 FloatKind.f64 x) (fofInt FloatKind.f64 (ftoInt FloatKind.f64 (fcvt FloatKind.f32 FloatKind.f64 x) IntKind.i64))) (can FloatKind.f64 4607182418800017408)) (can FloatKind.f64 4602678819172646912)) (can FloatKind.f64 4618760256179416344))) 8)) && true else bif forder FloatKind.f64 (fop BinOp.add FloatKind.f64 (fop BinOp.sub FloatKind.f64 (fcvt FloatKind.f32 FloatKind.f64 x) (fofInt FloatKind.f64 (ftoInt FloatKind.f64 (fcvt FloatKind.f32 FloatKind.f64 x) IntKind.i64))) (can FloatKind.f64 4607182418800017408)) (can FloatKind.f64 4598175219545276416) == some Ordering.gt then (can FloatKind.f64 4607182418800017408).beq (sp (fop BinOp.mul FloatKind.f64 (fop BinOp.mul FloatKind.f64 (fop BinOp.sub FloatKind.f64 (can FloatKind.f64 4602678819172646912) (fop BinOp.add FloatKind.f64 (fop BinOp.sub FloatKind.f64 (fcvt FloatKind.f32 FloatKind.f64 x) (fofInt FloatKind.f64 (ftoInt FloatKind.f64 (fcvt FloatKind.f32 FloatKind.f64 x) IntKind.i64))) (can FloatKind.f64 4607182418800017408))) (can FloatKind.f64 4618760256179416344)) (fop BinOp.mul FloatKind.f64 (fop BinOp.sub FloatKind.f64 (can FloatKind.f64 4602678819172646912) (fop BinOp.add FloatKind.f64 (fop BinOp.sub FloatKind.f64 (fcvt FloatKind.f32 FloatKind.f64 x) (fofInt FloatKind.f64 (ftoInt FloatKind.f64 (fcvt FloatKind.f32 FloatKind.f64 x) IntKind.i64))) (can FloatKind.f64 4607182418800017408))) (can FloatKind.f64 4618760256179416344))) 0) && (can FloatKind.f64 4620693217682128896).beq (kF 0) && bif forder FloatKind.f64 (fop BinOp.add FloatKind.f64 (fop BinOp.sub FloatKind.f64 (fcvt FloatKind.f32 FloatKind.f64 x) (fofInt FloatKind.f64 (ftoInt FloatKind.f64 (fcvt FloatKind.f32 FloatKind.f64 x) IntKind.i64))) (can FloatKind.f64 4607182418800017408)) (can FloatKind.f64 4602678819172646912) == some Ordering.gt || forder FloatKind.f64 (fop BinOp.add FloatKind.f64 (fop BinOp.sub FloatKind.f64 (fcvt FloatKind.f32 FloatKind.f64 x) (fofInt FloatKind.f64 (ftoInt FloatKind.f64 (fcvt FloatKind.f32 FloatKind.f64 x) IntKind.i64))) (can FloatKind.f64 4607182418800017408)) (can FloatKind.f64 4602678819172646912) == some Ordering.eq then fcvtOk FloatKind.f64 FloatKind.f32 (fneg FloatKind.f64 (fop BinOp.mul FloatKind.f64 (fop BinOp.mul FloatKind.f64 (fop BinOp.sub FloatKind.f64 (can FloatKind.f64 4602678819172646912) (fop BinOp.add FloatKind.f64 (fop BinOp.sub FloatKind.f64 (fcvt FloatKind.f32 FloatKind.f64 x) (fofInt FloatKind.f64 (ftoInt FloatKind.f64 (fcvt FloatKind.f32 FloatKind.f64 x) IntKind.i64))) (can FloatKind.f64 4607182418800017408))) (can FloatKind.f64 4618760256179416344)) (sp (fop BinOp.mul FloatKind.f64 (fop BinOp.mul FloatKind.f64 (fop BinOp.sub FloatKind.f64 (can FloatKind.f64 4602678819172646912) (fop BinOp.add FloatKind.f64 (fop BinOp.sub FloatKind.f64 (fcvt FloatKind.f32 FloatKind.f64 x) (fofInt FloatKind.f64 (ftoInt FloatKind.f64 (fcvt FloatKind.f32 FloatKind.f64 x) IntKind.i64))) (can FloatKind.f64 4607182418800017408))) (can FloatKind.f64 4618760256179416344)) (fop BinOp.mul FloatKind.f64 (fop BinOp.sub FloatKind.f64 (can FloatKind.f64 4602678819172646912) (fop BinOp.add FloatKind.f64 (fop BinOp.sub FloatKind.f64 (fcvt FloatKind.f32 FloatKind.f64 x) (fofInt FloatKind.f64 (ftoInt FloatKind.f64 (fcvt FloatKind.f32 FloatKind.f64 x) IntKind.i64))) (can FloatKind.f64 4607182418800017408))) (can FloatKind.f64 4618760256179416344))) 8))) && true else fcvtOk FloatKind.f64 FloatKind.f32 (fop BinOp.mul FloatKind.f64 (fop BinOp.mul FloatKind.f64 (fop BinOp.sub FloatKind.f64 (can FloatKind.f64 4602678819172646912) (fop BinOp.add FloatKind.f64 (fop BinOp.sub FloatKind.f64 (fcvt FloatKind.f32 FloatKind.f64 x) (fofInt FloatKind.f64 (ftoInt FloatKind.f64 (fcvt FloatKind.f32 FloatKind.f64 x) IntKind.i64))) (can FloatKind.f64 4607182418800017408))) (can FloatKind.f64 4618760256179416344)) (sp (fop BinOp.mul FloatKind.f64 (fop BinOp.mul FloatKind.f64 (fop BinOp.sub FloatKind.f64 (can FloatKind.f64 4602678819172646912) (fop BinOp.add FloatKind.f64 (fop BinOp.sub FloatKind.f64 (fcvt FloatKind.f32 FloatKind.f64 x) (fofInt FloatKind.f64 (ftoInt FloatKind.f64 (fcvt FloatKind.f32 FloatKind.f64 x) IntKind.i64))) (can FloatKind.f64 4607182418800017408))) (can FloatKind.f64 4618760256179416344)) (fop BinOp.mul FloatKind.f64 (fop BinOp.sub FloatKind.f64 (can FloatKind.f64 4602678819172646912) (fop BinOp.add FloatKind.f64 (fop BinOp.sub FloatKind.f64 (fcvt FloatKind.f32 FloatKind.f64 x) (fofInt FloatKind.f64 (ftoInt FloatKind.f64 (fcvt FloatKind.f32 FloatKind.f64 x) IntKind.i64))) (can FloatKind.f64 4607182418800017408))) (can FloatKind.f64 4618760256179416344))) 8)) && true else (can FloatKind.f64 4607182418800017408).beq (sp (fop BinOp.mul FloatKind.f64 (fop BinOp.mul FloatKind.f64 (fop BinOp.add FloatKind.f64 (fop BinOp.sub FloatKind.f64 (fcvt FloatKind.f32 FloatKind.f64 x) (fofInt FloatKind.f64 (ftoInt FloatKind.f64 (fcvt FloatKind.f32 FloatKind.f64 x) IntKind.i64))) (can FloatKind.f64 4607182418800017408)) (can FloatKind.f64 4618760256179416344)) (fop BinOp.mul FloatKind.f64 (fop BinOp.add FloatKind.f64 (fop BinOp.sub FloatKind.f64 (fcvt FloatKind.f32 FloatKind.f64 x) (fofInt FloatKind.f64 (ftoInt FloatKind.f64 (fcvt FloatKind.f32 FloatKind.f64 x) IntKind.i64))) (can FloatKind.f64 4607182418800017408)) (can FloatKind.f64 4618760256179416344))) 0) && (can FloatKind.f64 4620693217682128896).beq (kF 0) && bif forder FloatKind.f64 (fop BinOp.add FloatKind.f64 (fop BinOp.sub FloatKind.f64 (fcvt FloatKind.f32 FloatKind.f64 x) (fofInt FloatKind.f64 (ftoInt FloatKind.f64 (fcvt FloatKind.f32 FloatKind.f64 x) IntKind.i64))) (can FloatKind.f64 4607182418800017408)) (can FloatKind.f64 4602678819172646912) == some Ordering.gt || forder FloatKind.f64 (fop BinOp.add FloatKind.f64 (fop BinOp.sub FloatKind.f64 (fcvt FloatKind.f32 FloatKind.f64 x) (fofInt FloatKind.f64 (ftoInt FloatKind.f64 (fcvt FloatKind.f32 FloatKind.f64 x) IntKind.i64))) (can FloatKind.f64 4607182418800017408)) (can FloatKind.f64 4602678819172646912) == some Ordering.eq then fcvtOk FloatKind.f64 FloatKind.f32 (fneg FloatKind.f64 (fop BinOp.mul FloatKind.f64 (fop BinOp.mul FloatKind.f64 (fop BinOp.add FloatKind.f64 (fop BinOp.sub FloatKind.f64 (fcvt FloatKind.f32 FloatKind.f64 x) (fofInt FloatKind.f64 (ftoInt FloatKind.f64 (fcvt FloatKind.f32 FloatKind.f64 x) IntKind.i64))) (can FloatKind.f64 4607182418800017408)) (can FloatKind.f64 4618760256179416344)) (sp (fop BinOp.mul FloatKind.f64 (fop BinOp.mul FloatKind.f64 (fop BinOp.add FloatKind.f64 (fop BinOp.sub FloatKind.f64 (fcvt FloatKind.f32 FloatKind.f64 x) (fofInt FloatKind.f64 (ftoInt FloatKind.f64 (fcvt FloatKind.f32 FloatKind.f64 x) IntKind.i64))) (can FloatKind.f64 4607182418800017408)) (can FloatKind.f64 4618760256179416344)) (fop BinOp.mul FloatKind.f64 (fop BinOp.add FloatKind.f64 (fop BinOp.sub FloatKind.f64 (fcvt FloatKind.f32 FloatKind.f64 x) (fofInt FloatKind.f64 (ftoInt FloatKind.f64 (fcvt FloatKind.f32 FloatKind.f64 x) IntKind.i64))) (can FloatKind.f64 4607182418800017408)) (can FloatKind.f64 4618760256179416344))) 8))) && true else fcvtOk FloatKind.f64 FloatKind.f32 (fop BinOp.mul FloatKind.f64 (fop BinOp.mul FloatKind.f64 (fop BinOp.add FloatKind.f64 (fop BinOp.sub FloatKind.f64 (fcvt FloatKind.f32 FloatKind.f64 x) (fofInt FloatKind.f64 (ftoInt FloatKind.f64 (fcvt FloatKind.f32 FloatKind.f64 x) IntKind.i64))) (can FloatKind.f64 4607182418800017408)) (can FloatKind.f64 4618760256179416344)) (sp (fop BinOp.mul FloatKind.f64 (fop BinOp.mul FloatKind.f64 (fop BinOp.add FloatKind.f64 (fop BinOp.sub FloatKind.f64 (fcvt FloatKind.f32 FloatKind.f64 x) (fofInt FloatKind.f64 (ftoInt FloatKind.f64 (fcvt FloatKind.f32 FloatKind.f64 x) IntKind.i64))) (can FloatKind.f64 4607182418800017408)) (can FloatKind.f64 4618760256179416344)) (fop BinOp.mul FloatKind.f64 (fop BinOp.add FloatKind.f64 (fop BinOp.sub FloatKind.f64 (fcvt FloatKind.f32 FloatKind.f64 x) (fofInt FloatKind.f64 (ftoInt FloatKind.f64 (fcvt FloatKind.f32 FloatKind.f64 x) IntKind.i64))) (can FloatKind.f64 4607182418800017408)) (can FloatKind.f64 4618760256179416344))) 8)) && true else bif forder FloatKind.f64 (fop BinOp.sub FloatKind.f64 (fcvt FloatKind.f32 FloatKind.f64 x) (fofInt FloatKind.f64 (ftoInt FloatKind.f64 (fcvt FloatKind.f32 FloatKind.f64 x) IntKind.i64))) (can FloatKind.f64 4602678819172646912) == some Ordering.gt || forder FloatKind.f64 (fop BinOp.sub FloatKind.f64 (fcvt FloatKind.f32 FloatKind.f64 x) (fofInt FloatKind.f64 (ftoInt FloatKind.f64 (fcvt FloatKind.f32 FloatKind.f64 x) IntKind.i64))) (can FloatKind.f64 4602678819172646912) == some Ordering.eq then bif forder FloatKind.f64 (fop BinOp.sub FloatKind.f64 (fop BinOp.sub FloatKind.f64 (fcvt FloatKind.f32 FloatKind.f64 x) (fofInt FloatKind.f64 (ftoInt FloatKind.f64 (fcvt FloatKind.f32 FloatKind.f64 x) IntKind.i64))) (can FloatKind.f64 4602678819172646912)) (can FloatKind.f64 4598175219545276416) == some Ordering.gt then (can FloatKind.f64 4607182418800017408).beq (sp (fop BinOp.mul FloatKind.f64 (fop BinOp.mul FloatKind.f64 (fop BinOp.sub FloatKind.f64 (can FloatKind.f64 4602678819172646912) (fop BinOp.sub FloatKind.f64 (fop BinOp.sub FloatKind.f64 (fcvt FloatKind.f32 FloatKind.f64 x) (fofInt FloatKind.f64 (ftoInt FloatKind.f64 (fcvt FloatKind.f32 FloatKind.f64 x) IntKind.i64))) (can FloatKind.f64 4602678819172646912))) (can FloatKind.f64 4618760256179416344)) (fop BinOp.mul FloatKind.f64 (fop BinOp.sub FloatKind.f64 (can FloatKind.f64 4602678819172646912) (fop BinOp.sub FloatKind.f64 (fop BinOp.sub FloatKind.f64 (fcvt FloatKind.f32 FloatKind.f64 x) (fofInt FloatKind.f64 (ftoInt FloatKind.f64 (fcvt FloatKind.f32 FloatKind.f64 x) IntKind.i64))) (can FloatKind.f64 4602678819172646912))) (can FloatKind.f64 4618760256179416344))) 0) && (can FloatKind.f64 4620693217682128896).beq (kF 0) && bif forder FloatKind.f64 (fop BinOp.sub FloatKind.f64 (fcvt FloatKind.f32 FloatKind.f64 x) (fofInt FloatKind.f64 (ftoInt FloatKind.f64 (fcvt FloatKind.f32 FloatKind.f64 x) IntKind.i64))) (can FloatKind.f64 4602678819172646912) == some Ordering.gt || forder FloatKind.f64 (fop BinOp.sub FloatKind.f64 (fcvt FloatKind.f32 FloatKind.f64 x) (fofInt FloatKind.f64 (ftoInt FloatKind.f64 (fcvt FloatKind.f32 FloatKind.f64 x) IntKind.i64))) (can FloatKind.f64 4602678819172646912) == some Ordering.eq then fcvtOk FloatKind.f64 FloatKind.f32 (fneg FloatKind.f64 (fop BinOp.mul FloatKind.f64 (fop BinOp.mul FloatKind.f64 (fop BinOp.sub FloatKind.f64 (can FloatKind.f64 4602678819172646912) (fop BinOp.sub FloatKind.f64 (fop BinOp.sub FloatKind.f64 (fcvt FloatKind.f32 FloatKind.f64 x) (fofInt FloatKind.f64 (ftoInt FloatKind.f64 (fcvt FloatKind.f32 FloatKind.f64 x) IntKind.i64))) (can FloatKind.f64 4602678819172646912))) (can FloatKind.f64 4618760256179416344)) (sp (fop BinOp.mul FloatKind.f64 (fop BinOp.mul FloatKind.f64 (fop BinOp.sub FloatKind.f64 (can FloatKind.f64 4602678819172646912) (fop BinOp.sub FloatKind.f64 (fop BinOp.sub FloatKind.f64 (fcvt FloatKind.f32 FloatKind.f64 x) (fofInt FloatKind.f64 (ftoInt FloatKind.f64 (fcvt FloatKind.f32 FloatKind.f64 x) IntKind.i64))) (can FloatKind.f64 4602678819172646912))) (can FloatKind.f64 4618760256179416344)) (fop BinOp.mul FloatKind.f64 (fop BinOp.sub FloatKind.f64 (can FloatKind.f64 4602678819172646912) (fop BinOp.sub FloatKind.f64 (fop BinOp.sub FloatKind.f64 (fcvt FloatKind.f32 FloatKind.f64 x) (fofInt FloatKind.f64 (ftoInt FloatKind.f64 (fcvt FloatKind.f32 FloatKind.f64 x) IntKind.i64))) (can FloatKind.f64 4602678819172646912))) (can FloatKind.f64 4618760256179416344))) 8))) && true else fcvtOk FloatKind.f64 FloatKind.f32 (fop BinOp.mul FloatKind.f64 (fop BinOp.mul FloatKind.f64 (fop BinOp.sub FloatKind.f64 (can FloatKind.f64 4602678819172646912) (fop BinOp.sub FloatKind.f64 (fop BinOp.sub FloatKind.f64 (fcvt FloatKind.f32 FloatKind.f64 x) (fofInt FloatKind.f64 (ftoInt FloatKind.f64 (fcvt FloatKind.f32 FloatKind.f64 x) IntKind.i64))) (can FloatKind.f64 4602678819172646912))) (can FloatKind.f64 4618760256179416344)) (sp (fop BinOp.mul FloatKind.f64 (fop BinOp.mul FloatKind.f64 (fop BinOp.sub FloatKind.f64 (can FloatKind.f64 4602678819172646912) (fop BinOp.sub FloatKind.f64 (fop BinOp.sub FloatKind.f64 (fcvt FloatKind.f32 FloatKind.f64 x) (fofInt FloatKind.f64 (ftoInt FloatKind.f64 (fcvt FloatKind.f32 FloatKind.f64 x) IntKind.i64))) (can FloatKind.f64 4602678819172646912))) (can FloatKind.f64 4618760256179416344)) (fop BinOp.mul FloatKind.f64 (fop BinOp.sub FloatKind.f64 (can FloatKind.f64 4602678819172646912) (fop BinOp.sub FloatKind.f64 (fop BinOp.sub FloatKind.f64 (fcvt FloatKind.f32 FloatKind.f64 x) (fofInt FloatKind.f64 (ftoInt FloatKind.f64 (fcvt FloatKind.f32 FloatKind.f64 x) IntKind.i64))) (can FloatKind.f64 4602678819172646912))) (can FloatKind.f64 4618760256179416344))) 8)) && true else (can FloatKind.f64 4607182418800017408).beq (sp (fop BinOp.mul FloatKind.f64 (fop BinOp.mul FloatKind.f64 (fop BinOp.sub FloatKind.f64 (fop BinOp.sub FloatKind.f64 (fcvt FloatKind.f32 FloatKind.f64 x) (fofInt FloatKind.f64 (ftoInt FloatKind.f64 (fcvt FloatKind.f32 FloatKind.f64 x) IntKind.i64))) (can FloatKind.f64 4602678819172646912)) (can FloatKind.f64 4618760256179416344)) (fop BinOp.mul FloatKind.f64 (fop BinOp.sub FloatKind.f64 (fop BinOp.sub FloatKind.f64 (fcvt FloatKind.f32 FloatKind.f64 x) (fofInt FloatKind.f64 (ftoInt FloatKind.f64 (fcvt FloatKind.f32 FloatKind.f64 x) IntKind.i64))) (can FloatKind.f64 4602678819172646912)) (can FloatKind.f64 4618760256179416344))) 0) && (can FloatKind.f64 4620693217682128896).beq (kF 0) && bif forder FloatKind.f64 (fop BinOp.sub FloatKind.f64 (fcvt FloatKind.f32 FloatKind.f64 x) (fofInt FloatKind.f64 (ftoInt FloatKind.f64 (fcvt FloatKind.f32 FloatKind.f64 x) IntKind.i64))) (can FloatKind.f64 4602678819172646912) == some Ordering.gt || forder FloatKind.f64 (fop BinOp.sub FloatKind.f64 (fcvt FloatKind.f32 FloatKind.f64 x) (fofInt FloatKind.f64 (ftoInt FloatKind.f64 (fcvt FloatKind.f32 FloatKind.f64 x) IntKind.i64))) (can FloatKind.f64 4602678819172646912) == some Ordering.eq then fcvtOk FloatKind.f64 FloatKind.f32 (fneg FloatKind.f64 (fop BinOp.mul FloatKind.f64 (fop BinOp.mul FloatKind.f64 (fop BinOp.sub FloatKind.f64 (fop BinOp.sub FloatKind.f64 (fcvt FloatKind.f32 FloatKind.f64 x) (fofInt FloatKind.f64 (ftoInt FloatKind.f64 (fcvt FloatKind.f32 FloatKind.f64 x) IntKind.i64))) (can FloatKind.f64 4602678819172646912)) (can FloatKind.f64 4618760256179416344)) (sp (fop BinOp.mul FloatKind.f64 (fop BinOp.mul FloatKind.f64 (fop BinOp.sub FloatKind.f64 (fop BinOp.sub FloatKind.f64 (fcvt FloatKind.f32 FloatKind.f64 x) (fofInt FloatKind.f64 (ftoInt FloatKind.f64 (fcvt FloatKind.f32 FloatKind.f64 x) IntKind.i64))) (can FloatKind.f64 4602678819172646912)) (can FloatKind.f64 4618760256179416344)) (fop BinOp.mul FloatKind.f64 (fop BinOp.sub FloatKind.f64 (fop BinOp.sub FloatKind.f64 (fcvt FloatKind.f32 FloatKind.f64 x) (fofInt FloatKind.f64 (ftoInt FloatKind.f64 (fcvt FloatKind.f32 FloatKind.f64 x) IntKind.i64))) (can FloatKind.f64 4602678819172646912)) (can FloatKind.f64 4618760256179416344))) 8))) && true else fcvtOk FloatKind.f64 FloatKind.f32 (fop BinOp.mul FloatKind.f64 (fop BinOp.mul FloatKind.f64 (fop BinOp.sub FloatKind.f64 (fop BinOp.sub FloatKind.f64 (fcvt FloatKind.f32 FloatKind.f64 x) (fofInt FloatKind.f64 (ftoInt FloatKind.f64 (fcvt FloatKind.f32 FloatKind.f64 x) IntKind.i64))) (can FloatKind.f64 4602678819172646912)) (can FloatKind.f64 4618760256179416344)) (sp (fop BinOp.mul FloatKind.f64 (fop BinOp.mul FloatKind.f64 (fop BinOp.sub FloatKind.f64 (fop BinOp.sub FloatKind.f64 (fcvt FloatKind.f32 FloatKind.f64 x) (fofInt FloatKind.f64 (ftoInt FloatKind.f64 (fcvt FloatKind.f32 FloatKind.f64 x) IntKind.i64))) (can FloatKind.f64 4602678819172646912)) (can FloatKind.f64 4618760256179416344)) (fop BinOp.mul FloatKind.f64 (fop BinOp.sub FloatKind.f64 (fop BinOp.sub FloatKind.f64 (fcvt FloatKind.f32 FloatKind.f64 x) (fofInt FloatKind.f64 (ftoInt FloatKind.f64 (fcvt FloatKind.f32 FloatKind.f64 x) IntKind.i64))) (can FloatKind.f64 4602678819172646912)) (can FloatKind.f64 4618760256179416344))) 8)) && true else bif forder FloatKind.f64 (fop BinOp.sub FloatKind.f64 (fcvt FloatKind.f32 FloatKind.f64 x) (fofInt FloatKind.f64 (ftoInt FloatKind.f64 (fcvt FloatKind.f32 FloatKind.f64 x) IntKind.i64))) (can FloatKind.f64 4598175219545276416) == some Ordering.gt then (can FloatKind.f64 4607182418800017408).beq (sp (fop BinOp.mul FloatKind.f64 (fop BinOp.mul FloatKind.f64 (fop BinOp.sub FloatKind.f64 (can FloatKind.f64 4602678819172646912) (fop BinOp.sub FloatKind.f64 (fcvt FloatKind.f32 FloatKind.f64 x) (fofInt FloatKind.f64 (ftoInt FloatKind.f64 (fcvt FloatKind.f32 FloatKind.f64 x) IntKind.i64)))) (can FloatKind.f64 4618760256179416344)) (fop BinOp.mul FloatKind.f64 (fop BinOp.sub FloatKind.f64 (can FloatKind.f64 4602678819172646912) (fop BinOp.sub FloatKind.f64 (fcvt FloatKind.f32 FloatKind.f64 x) (fofInt FloatKind.f64 (ftoInt FloatKind.f64 (fcvt FloatKind.f32 FloatKind.f64 x) IntKind.i64)))) (can FloatKind.f64 4618760256179416344))) 0) && (can FloatKind.f64 4620693217682128896).beq (kF 0) && bif forder FloatKind.f64 (fop BinOp.sub FloatKind.f64 (fcvt FloatKind.f32 FloatKind.f64 x) (fofInt FloatKind.f64 (ftoInt FloatKind.f64 (fcvt FloatKind.f32 FloatKind.f64 x) IntKind.i64))) (can FloatKind.f64 4602678819172646912) == some Ordering.gt || forder FloatKind.f64 (fop BinOp.sub FloatKind.f64 (fcvt FloatKind.f32 FloatKind.f64 x) (fofInt FloatKind.f64 (ftoInt FloatKind.f64 (fcvt FloatKind.f32 FloatKind.f64 x) IntKind.i64))) (can FloatKind.f64 4602678819172646912) == some Ordering.eq then fcvtOk FloatKind.f64 FloatKind.f32 (fneg FloatKind.f64 (fop BinOp.mul FloatKind.f64 (fop BinOp.mul FloatKind.f64 (fop BinOp.sub FloatKind.f64 (can FloatKind.f64 4602678819172646912) (fop BinOp.sub FloatKind.f64 (fcvt FloatKind.f32 FloatKind.f64 x) (fofInt FloatKind.f64 (ftoInt FloatKind.f64 (fcvt FloatKind.f32 FloatKind.f64 x) IntKind.i64)))) (can FloatKind.f64 4618760256179416344)) (sp (fop BinOp.mul FloatKind.f64 (fop BinOp.mul FloatKind.f64 (fop BinOp.sub FloatKind.f64 (can FloatKind.f64 4602678819172646912) (fop BinOp.sub FloatKind.f64 (fcvt FloatKind.f32 FloatKind.f64 x) (fofInt FloatKind.f64 (ftoInt FloatKind.f64 (fcvt FloatKind.f32 FloatKind.f64 x) IntKind.i64)))) (can FloatKind.f64 4618760256179416344)) (fop BinOp.mul FloatKind.f64 (fop BinOp.sub FloatKind.f64 (can FloatKind.f64 4602678819172646912) (fop BinOp.sub FloatKind.f64 (fcvt FloatKind.f32 FloatKind.f64 x) (fofInt FloatKind.f64 (ftoInt FloatKind.f64 (fcvt FloatKind.f32 FloatKind.f64 x) IntKind.i64)))) (can FloatKind.f64 4618760256179416344))) 8))) && true else fcvtOk FloatKind.f64 FloatKind.f32 (fop BinOp.mul FloatKind.f64 (fop BinOp.mul FloatKind.f64 (fop BinOp.sub FloatKind.f64 (can FloatKind.f64 4602678819172646912) (fop BinOp.sub FloatKind.f64 (fcvt FloatKind.f32 FloatKind.f64 x) (fofInt FloatKind.f64 (ftoInt FloatKind.f64 (fcvt FloatKind.f32 FloatKind.f64 x) IntKind.i64)))) (can FloatKind.f64 4618760256179416344)) (sp (fop BinOp.mul FloatKind.f64 (fop BinOp.mul FloatKind.f64 (fop BinOp.sub FloatKind.f64 (can FloatKind.f64 4602678819172646912) (fop BinOp.sub FloatKind.f64 (fcvt FloatKind.f32 FloatKind.f64 x) (fofInt FloatKind.f64 (ftoInt FloatKind.f64 (fcvt FloatKind.f32 FloatKind.f64 x) IntKind.i64)))) (can FloatKind.f64 4618760256179416344)) (fop BinOp.mul FloatKind.f64 (fop BinOp.sub FloatKind.f64 (can FloatKind.f64 4602678819172646912) (fop BinOp.sub FloatKind.f64 (fcvt FloatKind.f32 FloatKind.f64 x) (fofInt FloatKind.f64 (ftoInt FloatKind.f64 (fcvt FloatKind.f32 FloatKind.f64 x) IntKind.i64)))) (can FloatKind.f64 4618760256179416344))) 8)) && true else (can FloatKind.f64 4607182418800017408).beq (sp (fop BinOp.mul FloatKind.f64 (fop BinOp.mul FloatKind.f64 (fop BinOp.sub FloatKind.f64 (fcvt FloatKind.f32 FloatKind.f64 x) (fofInt FloatKind.f64 (ftoInt FloatKind.f64 (fcvt FloatKind.f32 FloatKind.f64 x) IntKind.i64))) (can FloatKind.f64 4618760256179416344)) (fop BinOp.mul FloatKind.f64 (fop BinOp.sub FloatKind.f64 (fcvt FloatKind.f32 FloatKind.f64 x) (fofInt FloatKind.f64 (ftoInt FloatKind.f64 (fcvt FloatKind.f32 FloatKind.f64 x) IntKind.i64))) (can FloatKind.f64 4618760256179416344))) 0) && (can FloatKind.f64 4620693217682128896).beq (kF 0) && bif forder FloatKind.f64 (fop BinOp.sub FloatKind.f64 (fcvt FloatKind.f32 FloatKind.f64 x) (fofInt FloatKind.f64 (ftoInt FloatKind.f64 (fcvt FloatKind.f32 FloatKind.f64 x) IntKind.i64))) (can FloatKind.f64 4602678819172646912) == some Ordering.gt || forder FloatKind.f64 (fop BinOp.sub FloatKind.f64 (fcvt FloatKind.f32 FloatKind.f64 x) (fofInt FloatKind.f64 (ftoInt FloatKind.f64 (fcvt FloatKind.f32 FloatKind.f64 x) IntKind.i64))) (can FloatKind.f64 4602678819172646912) == some Ordering.eq then fcvtOk FloatKind.f64 FloatKind.f32 (fneg FloatKind.f64 (fop BinOp.mul FloatKind.f64 (fop BinOp.mul FloatKind.f64 (fop BinOp.sub FloatKind.f64 (fcvt FloatKind.f32 FloatKind.f64 x) (fofInt FloatKind.f64 (ftoInt FloatKind.f64 (fcvt FloatKind.f32 FloatKind.f64 x) IntKind.i64))) (can FloatKind.f64 4618760256179416344)) (sp (fop BinOp.mul FloatKind.f64 (fop BinOp.mul FloatKind.f64 (fop BinOp.sub FloatKind.f64 (fcvt FloatKind.f32 FloatKind.f64 x) (fofInt FloatKind.f64 (ftoInt FloatKind.f64 (fcvt FloatKind.f32 FloatKind.f64 x) IntKind.i64))) (can FloatKind.f64 4618760256179416344)) (fop BinOp.mul FloatKind.f64 (fop BinOp.sub FloatKind.f64 (fcvt FloatKind.f32 FloatKind.f64 x) (fofInt FloatKind.f64 (ftoInt FloatKind.f64 (fcvt FloatKind.f32 FloatKind.f64 x) IntKind.i64))) (can FloatKind.f64 4618760256179416344))) 8))) && true else fcvtOk FloatKind.f64 FloatKind.f32 (fop BinOp.mul FloatKind.f64 (fop BinOp.mul FloatKind.f64 (fop BinOp.sub FloatKind.f64 (fcvt FloatKind.f32 FloatKind.f64 x) (fofInt FloatKind.f64 (ftoInt FloatKind.f64 (fcvt FloatKind.f32 FloatKind.f64 x) IntKind.i64))) (can FloatKind.f64 4618760256179416344)) (sp (fop BinOp.mul FloatKind.f64 (fop BinOp.mul FloatKind.f64 (fop BinOp.sub FloatKind.f64 (fcvt FloatKind.f32 FloatKind.f64 x) (fofInt FloatKind.f64 (ftoInt FloatKind.f64 (fcvt FloatKind.f32 FloatKind.f64 x) IntKind.i64))) (can FloatKind.f64 4618760256179416344)) (fop BinOp.mul FloatKind.f64 (fop BinOp.sub FloatKind.f64 (fcvt FloatKind.f32 FloatKind.f64 x) (fofInt FloatKind.f64 (ftoInt FloatKind.f64 (fcvt FloatKind.f32 FloatKind.f64 x) IntKind.i64))) (can FloatKind.f64 4618760256179416344))) 8)) && true, A.flt FloatKind.f32 (bif !fin x then qnan FloatKind.f32 else bif forder FloatKind.f64 (absN (fcvt FloatKind.f32 FloatKind.f64 x)) (can FloatKind.f64 4841369599423283200) == some Ordering.gt || forder FloatKind.f64 (absN (fcvt FloatKind.f32 FloatKind.f64 x)) (can FloatKind.f64 4841369599423283200) == some Ordering.eq then can FloatKind.f32 0 else bif forder FloatKind.f64 (fop BinOp.sub FloatKind.f64 (fcvt FloatKind.f32 FloatKind.f64 x) (fofInt FloatKind.f64 (ftoInt FloatKind.f64 (fcvt FloatKind.f32 FloatKind.f64 x) IntKind.i64))) (can FloatKind.f64 0) == some Ordering.lt then bif forder FloatKind.f64 (fop BinOp.add FloatKind.f64 (fop BinOp.sub FloatKind.f64 (fcvt FloatKind.f32 FloatKind.f64 x) (fofInt FloatKind.f64 (ftoInt FloatKind.f64 (fcvt FloatKind.f32 FloatKind.f64 x) IntKind.i64))) (can FloatKind.f64 4607182418800017408)) (can FloatKind.f64 4602678819172646912) == some Ordering.gt || forder FloatKind.f64 (fop BinOp.add FloatKind.f64 (fop BinOp.sub FloatKind.f64 (fcvt FloatKind.f32 FloatKind.f64 x) (fofInt FloatKind.f64 (ftoInt FloatKind.f64 (fcvt FloatKind.f32 FloatKind.f64 x) IntKind.i64))) (can FloatKind.f64 4607182418800017408)) (can FloatKind.f64 4602678819172646912) == some Ordering.eq then bif forder FloatKind.f64 (fop BinOp.sub FloatKind.f64 (fop BinOp.add FloatKind.f64 (fop BinOp.sub FloatKind.f64 (fcvt FloatKind.f32 FloatKind.f64 x) (fofInt FloatKind.f64 (ftoInt FloatKind.f64 (fcvt FloatKind.f32 FloatKind.f64 x) IntKind.i64))) (can FloatKind.f64 4607182418800017408)) (can FloatKind.f64 4602678819172646912)) (can FloatKind.f64 4598175219545276416) == some Ordering.gt then bif forder FloatKind.f64 (fop BinOp.add FloatKind.f64 (fop BinOp.sub FloatKind.f64 (fcvt FloatKind.f32 FloatKind.f64 x) (fofInt FloatKind.f64 (ftoInt FloatKind.f64 (fcvt FloatKind.f32 FloatKind.f64 x) IntKind.i64))) (can FloatKind.f64 4607182418800017408)) (can FloatKind.f64 4602678819172646912) == some Ordering.gt || forder FloatKind.f64 (fop BinOp.add FloatKind.f64 (fop BinOp.sub FloatKind.f64 (fcvt FloatKind.f32 FloatKind.f64 x) (fofInt FloatKind.f64 (ftoInt FloatKind.f64 (fcvt FloatKind.f32 FloatKind.f64 x) IntKind.i64))) (can FloatKind.f64 4607182418800017408)) (can FloatKind.f64 4602678819172646912) == some Ordering.eq then fcvt FloatKind.f64 FloatKind.f32 (fneg FloatKind.f64 (fop BinOp.mul FloatKind.f64 (fop BinOp.mul FloatKind.f64 (fop BinOp.sub FloatKind.f64 (can FloatKind.f64 4602678819172646912) (fop BinOp.sub FloatKind.f64 (fop BinOp.add FloatKind.f64 (fop BinOp.sub FloatKind.f64 (fcvt FloatKind.f32 FloatKind.f64 x) (fofInt FloatKind.f64 (ftoInt FloatKind.f64 (fcvt FloatKind.f32 FloatKind.f64 x) IntKind.i64))) (can FloatKind.f64 4607182418800017408)) (can FloatKind.f64 4602678819172646912))) (can FloatKind.f64 4618760256179416344)) (sp (fop BinOp.mul FloatKind.f64 (fop BinOp.mul FloatKind.f64 (fop BinOp.sub FloatKind.f64 (can FloatKind.f64 4602678819172646912) (fop BinOp.sub FloatKind.f64 (fop BinOp.add FloatKind.f64 (fop BinOp.sub FloatKind.f64 (fcvt FloatKind.f32 FloatKind.f64 x) (fofInt FloatKind.f64 (ftoInt FloatKind.f64 (fcvt FloatKind.f32 FloatKind.f64 x) IntKind.i64))) (can FloatKind.f64 4607182418800017408)) (can FloatKind.f64 4602678819172646912))) (can FloatKind.f64 4618760256179416344)) (fop BinOp.mul FloatKind.f64 (fop BinOp.sub FloatKind.f64 (can FloatKind.f64 4602678819172646912) (fop BinOp.sub FloatKind.f64 (fop BinOp.add FloatKind.f64 (fop BinOp.sub FloatKind.f64 (fcvt FloatKind.f32 FloatKind.f64 x) (fofInt FloatKind.f64 (ftoInt FloatKind.f64 (fcvt FloatKind.f32 FloatKind.f64 x) IntKind.i64))) (can FloatKind.f64 4607182418800017408)) (can FloatKind.f64 4602678819172646912))) (can FloatKind.f64 4618760256179416344))) 8))) else fcvt FloatKind.f64 FloatKind.f32 (fop BinOp.mul FloatKind.f64 (fop BinOp.mul FloatKind.f64 (fop BinOp.sub FloatKind.f64 (can FloatKind.f64 4602678819172646912) (fop BinOp.sub FloatKind.f64 (fop BinOp.add FloatKind.f64 (fop BinOp.sub FloatKind.f64 (fcvt FloatKind.f32 FloatKind.f64 x) (fofInt FloatKind.f64 (ftoInt FloatKind.f64 (fcvt FloatKind.f32 FloatKind.f64 x) IntKind.i64))) (can FloatKind.f64 4607182418800017408)) (can FloatKind.f64 4602678819172646912))) (can FloatKind.f64 4618760256179416344)) (sp (fop BinOp.mul FloatKind.f64 (fop BinOp.mul FloatKind.f64 (fop BinOp.sub FloatKind.f64 (can FloatKind.f64 4602678819172646912) (fop BinOp.sub FloatKind.f64 (fop BinOp.add FloatKind.f64 (fop BinOp.sub FloatKind.f64 (fcvt FloatKind.f32 FloatKind.f64 x) (fofInt FloatKind.f64 (ftoInt FloatKind.f64 (fcvt FloatKind.f32 FloatKind.f64 x) IntKind.i64))) (can FloatKind.f64 4607182418800017408)) (can FloatKind.f64 4602678819172646912))) (can FloatKind.f64 4618760256179416344)) (fop BinOp.mul FloatKind.f64 (fop BinOp.sub FloatKind.f64 (can FloatKind.f64 4602678819172646912) (fop BinOp.sub FloatKind.f64 (fop BinOp.add FloatKind.f64 (fop BinOp.sub FloatKind.f64 (fcvt FloatKind.f32 FloatKind.f64 x) (fofInt FloatKind.f64 (ftoInt FloatKind.f64 (fcvt FloatKind.f32 FloatKind.f64 x) IntKind.i64))) (can FloatKind.f64 4607182418800017408)) (can FloatKind.f64 4602678819172646912))) (can FloatKind.f64 4618760256179416344))) 8)) else bif forder FloatKind.f64 (fop BinOp.add FloatKind.f64 (fop BinOp.sub FloatKind.f64 (fcvt FloatKind.f32 FloatKind.f64 x) (fofInt FloatKind.f64 (ftoInt FloatKind.f64 (fcvt FloatKind.f32 FloatKind.f64 x) IntKind.i64))) (can FloatKind.f64 4607182418800017408)) (can FloatKind.f64 4602678819172646912) == some Ordering.gt || forder FloatKind.f64 (fop BinOp.add FloatKind.f64 (fop BinOp.sub FloatKind.f64 (fcvt FloatKind.f32 FloatKind.f64 x) (fofInt FloatKind.f64 (ftoInt FloatKind.f64 (fcvt FloatKind.f32 FloatKind.f64 x) IntKind.i64))) (can FloatKind.f64 4607182418800017408)) (can FloatKind.f64 4602678819172646912) == some Ordering.eq then fcvt FloatKind.f64 FloatKind.f32 (fneg FloatKind.f64 (fop BinOp.mul FloatKind.f64 (fop BinOp.mul FloatKind.f64 (fop BinOp.sub FloatKind.f64 (fop BinOp.add FloatKind.f64 (fop BinOp.sub FloatKind.f64 (fcvt FloatKind.f32 FloatKind.f64 x) (fofInt FloatKind.f64 (ftoInt FloatKind.f64 (fcvt FloatKind.f32 FloatKind.f64 x) IntKind.i64))) (can FloatKind.f64 4607182418800017408)) (can FloatKind.f64 4602678819172646912)) (can FloatKind.f64 4618760256179416344)) (sp (fop BinOp.mul FloatKind.f64 (fop BinOp.mul FloatKind.f64 (fop BinOp.sub FloatKind.f64 (fop BinOp.add FloatKind.f64 (fop BinOp.sub FloatKind.f64 (fcvt FloatKind.f32 FloatKind.f64 x) (fofInt FloatKind.f64 (ftoInt FloatKind.f64 (fcvt FloatKind.f32 FloatKind.f64 x) IntKind.i64))) (can FloatKind.f64 4607182418800017408)) (can FloatKind.f64 4602678819172646912)) (can FloatKind.f64 4618760256179416344)) (fop BinOp.mul FloatKind.f64 (fop BinOp.sub FloatKind.f64 (fop BinOp.add FloatKind.f64 (fop BinOp.sub FloatKind.f64 (fcvt FloatKind.f32 FloatKind.f64 x) (fofInt FloatKind.f64 (ftoInt FloatKind.f64 (fcvt FloatKind.f32 FloatKind.f64 x) IntKind.i64))) (can FloatKind.f64 4607182418800017408)) (can FloatKind.f64 4602678819172646912)) (can FloatKind.f64 4618760256179416344))) 8))) else fcvt FloatKind.f64 FloatKind.f32 (fop BinOp.mul FloatKind.f64 (fop BinOp.mul FloatKind.f64 (fop BinOp.sub FloatKind.f64 (fop BinOp.add FloatKind.f64 (fop BinOp.sub FloatKind.f64 (fcvt FloatKind.f32 FloatKind.f64 x) (fofInt FloatKind.f64 (ftoInt FloatKind.f64 (fcvt FloatKind.f32 FloatKind.f64 x) IntKind.i64))) (can FloatKind.f64 4607182418800017408)) (can FloatKind.f64 4602678819172646912)) (can FloatKind.f64 4618760256179416344)) (sp (fop BinOp.mul FloatKind.f64 (fop BinOp.mul FloatKind.f64 (fop BinOp.sub FloatKind.f64 (fop BinOp.add FloatKind.f64 (fop BinOp.sub FloatKind.f64 (fcvt FloatKind.f32 FloatKind.f64 x) (fofInt FloatKind.f64 (ftoInt FloatKind.f64 (fcvt FloatKind.f32 FloatKind.f64 x) IntKind.i64))) (can FloatKind.f64 4607182418800017408)) (can FloatKind.f64 4602678819172646912)) (can FloatKind.f64 4618760256179416344)) (fop BinOp.mul FloatKind.f64 (fop BinOp.sub FloatKind.f64 (fop BinOp.add FloatKind.f64 (fop BinOp.sub FloatKind.f64 (fcvt FloatKind.f32 FloatKind.f64 x) (fofInt FloatKind.f64 (ftoInt FloatKind.f64 (fcvt FloatKind.f32 FloatKind.f64 x) IntKind.i64))) (can FloatKind.f64 4607182418800017408)) (can FloatKind.f64 4602678819172646912)) (can FloatKind.f64 4618760256179416344))) 8)) else bif forder FloatKind.f64 (fop BinOp.add FloatKind.f64 (fop BinOp.sub FloatKind.f64 (fcvt FloatKind.f32 FloatKind.f64 x) (fofInt FloatKind.f64 (ftoInt FloatKind.f64 (fcvt FloatKind.f32 FloatKind.f64 x) IntKind.i64))) (can FloatKind.f64 4607182418800017408)) (can FloatKind.f64 4598175219545276416) == some Ordering.gt then bif forder FloatKind.f64 (fop BinOp.add FloatKind.f64 (fop BinOp.sub FloatKind.f64 (fcvt FloatKind.f32 FloatKind.f64 x) (fofInt FloatKind.f64 (ftoInt FloatKind.f64 (fcvt FloatKind.f32 FloatKind.f64 x) IntKind.i64))) (can FloatKind.f64 4607182418800017408)) (can FloatKind.f64 4602678819172646912) == some Ordering.gt || forder FloatKind.f64 (fop BinOp.add FloatKind.f64 (fop BinOp.sub FloatKind.f64 (fcvt FloatKind.f32 FloatKind.f64 x) (fofInt FloatKind.f64 (ftoInt FloatKind.f64 (fcvt FloatKind.f32 FloatKind.f64 x) IntKind.i64))) (can FloatKind.f64 4607182418800017408)) (can FloatKind.f64 4602678819172646912) == some Ordering.eq then fcvt FloatKind.f64 FloatKind.f32 (fneg FloatKind.f64 (fop BinOp.mul FloatKind.f64 (fop BinOp.mul FloatKind.f64 (fop BinOp.sub FloatKind.f64 (can FloatKind.f64 4602678819172646912) (fop BinOp.add FloatKind.f64 (fop BinOp.sub FloatKind.f64 (fcvt FloatKind.f32 FloatKind.f64 x) (fofInt FloatKind.f64 (ftoInt FloatKind.f64 (fcvt FloatKind.f32 FloatKind.f64 x) IntKind.i64))) (can FloatKind.f64 4607182418800017408))) (can FloatKind.f64 4618760256179416344)) (sp (fop BinOp.mul FloatKind.f64 (fop BinOp.mul FloatKind.f64 (fop BinOp.sub FloatKind.f64 (can FloatKind.f64 4602678819172646912) (fop BinOp.add FloatKind.f64 (fop BinOp.sub FloatKind.f64 (fcvt FloatKind.f32 FloatKind.f64 x) (fofInt FloatKind.f64 (ftoInt FloatKind.f64 (fcvt FloatKind.f32 FloatKind.f64 x) IntKind.i64))) (can FloatKind.f64 4607182418800017408))) (can FloatKind.f64 4618760256179416344)) (fop BinOp.mul FloatKind.f64 (fop BinOp.sub FloatKind.f64 (can FloatKind.f64 4602678819172646912) (fop BinOp.add FloatKind.f64 (fop BinOp.sub FloatKind.f64 (fcvt FloatKind.f32 FloatKind.f64 x) (fofInt FloatKind.f64 (ftoInt FloatKind.f64 (fcvt FloatKind.f32 FloatKind.f64 x) IntKind.i64))) (can FloatKind.f64 4607182418800017408))) (can FloatKind.f64 4618760256179416344))) 8))) else fcvt FloatKind.f64 FloatKind.f32 (fop BinOp.mul FloatKind.f64 (fop BinOp.mul FloatKind.f64 (fop BinOp.sub FloatKind.f64 (can FloatKind.f64 4602678819172646912) (fop BinOp.add FloatKind.f64 (fop BinOp.sub FloatKind.f64 (fcvt FloatKind.f32 FloatKind.f64 x) (fofInt FloatKind.f64 (ftoInt FloatKind.f64 (fcvt FloatKind.f32 FloatKind.f64 x) IntKind.i64))) (can FloatKind.f64 4607182418800017408))) (can FloatKind.f64 4618760256179416344)) (sp (fop BinOp.mul FloatKind.f64 (fop BinOp.mul FloatKind.f64 (fop BinOp.sub FloatKind.f64 (can FloatKind.f64 4602678819172646912) (fop BinOp.add FloatKind.f64 (fop BinOp.sub FloatKind.f64 (fcvt FloatKind.f32 FloatKind.f64 x) (fofInt FloatKind.f64 (ftoInt FloatKind.f64 (fcvt FloatKind.f32 FloatKind.f64 x) IntKind.i64))) (can FloatKind.f64 4607182418800017408))) (can FloatKind.f64 4618760256179416344)) (fop BinOp.mul FloatKind.f64 (fop BinOp.sub FloatKind.f64 (can FloatKind.f64 4602678819172646912) (fop BinOp.add FloatKind.f64 (fop BinOp.sub FloatKind.f64 (fcvt FloatKind.f32 FloatKind.f64 x) (fofInt FloatKind.f64 (ftoInt FloatKind.f64 (fcvt FloatKind.f32 FloatKind.f64 x) IntKind.i64))) (can FloatKind.f64 4607182418800017408))) (can FloatKind.f64 4618760256179416344))) 8)) else bif forder FloatKind.f64 (fop BinOp.add FloatKind.f64 (fop BinOp.sub FloatKind.f64 (fcvt FloatKind.f32 FloatKind.f64 x) (fofInt FloatKind.f64 (ftoInt FloatKind.f64 (fcvt FloatKind.f32 FloatKind.f64 x) IntKind.i64))) (can FloatKind.f64 4607182418800017408)) (can FloatKind.f64 4602678819172646912) == some Ordering.gt || forder FloatKind.f64 (fop BinOp.add FloatKind.f64 (fop BinOp.sub FloatKind.f64 (fcvt FloatKind.f32 FloatKind.f64 x) (fofInt FloatKind.f64 (ftoInt FloatKind.f64 (fcvt FloatKind.f32 FloatKind.f64 x) IntKind.i64))) (can FloatKind.f64 4607182418800017408)) (can FloatKind.f64 4602678819172646912) == some Ordering.eq then fcvt FloatKind.f64 FloatKind.f32 (fneg FloatKind.f64 (fop BinOp.mul FloatKind.f64 (fop BinOp.mul FloatKind.f64 (fop BinOp.add FloatKind.f64 (fop BinOp.sub FloatKind.f64 (fcvt FloatKind.f32 FloatKind.f64 x) (fofInt FloatKind.f64 (ftoInt FloatKind.f64 (fcvt FloatKind.f32 FloatKind.f64 x) IntKind.i64))) (can FloatKind.f64 4607182418800017408)) (can FloatKind.f64 4618760256179416344)) (sp (fop BinOp.mul FloatKind.f64 (fop BinOp.mul FloatKind.f64 (fop BinOp.add FloatKind.f64 (fop BinOp.sub FloatKind.f64 (fcvt FloatKind.f32 FloatKind.f64 x) (fofInt FloatKind.f64 (ftoInt FloatKind.f64 (fcvt FloatKind.f32 FloatKind.f64 x) IntKind.i64))) (can FloatKind.f64 4607182418800017408)) (can FloatKind.f64 4618760256179416344)) (fop BinOp.mul FloatKind.f64 (fop BinOp.add FloatKind.f64 (fop BinOp.sub FloatKind.f64 (fcvt FloatKind.f32 FloatKind.f64 x) (fofInt FloatKind.f64 (ftoInt FloatKind.f64 (fcvt FloatKind.f32 FloatKind.f64 x) IntKind.i64))) (can FloatKind.f64 4607182418800017408)) (can FloatKind.f64 4618760256179416344))) 8))) else fcvt FloatKind.f64 FloatKind.f32 (fop BinOp.mul FloatKind.f64 (fop BinOp.mul FloatKind.f64 (fop BinOp.add FloatKind.f64 (fop BinOp.sub FloatKind.f64 (fcvt FloatKind.f32 FloatKind.f64 x) (fofInt FloatKind.f64 (ftoInt FloatKind.f64 (fcvt FloatKind.f32 FloatKind.f64 x) IntKind.i64))) (can FloatKind.f64 4607182418800017408)) (can FloatKind.f64 4618760256179416344)) (sp (fop BinOp.mul FloatKind.f64 (fop BinOp.mul FloatKind.f64 (fop BinOp.add FloatKind.f64 (fop BinOp.sub FloatKind.f64 (fcvt FloatKind.f32 FloatKind.f64 x) (fofInt FloatKind.f64 (ftoInt FloatKind.f64 (fcvt FloatKind.f32 FloatKind.f64 x) IntKind.i64))) (can FloatKind.f64 4607182418800017408)) (can FloatKind.f64 4618760256179416344)) (fop BinOp.mul FloatKind.f64 (fop BinOp.add FloatKind.f64 (fop BinOp.sub FloatKind.f64 (fcvt FloatKind.f32 FloatKind.f64 x) (fofInt FloatKind.f64 (ftoInt FloatKind.f64 (fcvt FloatKind.f32 FloatKind.f64 x) IntKind.i64))) (can FloatKind.f64 4607182418800017408)) (can FloatKind.f64 4618760256179416344))) 8)) else bif forder FloatKind.f64 (fop BinOp.sub FloatKind.f64 (fcvt FloatKind.f32 FloatKind.f64 x) (fofInt FloatKind.f64 (ftoInt FloatKind.f64 (fcvt FloatKind.f32 FloatKind.f64 x) IntKind.i64))) (can FloatKind.f64 4602678819172646912) == some Ordering.gt || forder FloatKind.f64 (fop BinOp.sub FloatKind.f64 (fcvt FloatKind.f32 FloatKind.f64 x) (fofInt FloatKind.f64 (ftoInt FloatKind.f64 (fcvt FloatKind.f32 FloatKind.f64 x) IntKind.i64))) (can FloatKind.f64 4602678819172646912) == some Ordering.eq then bif forder FloatKind.f64 (fop BinOp.sub FloatKind.f64 (fop BinOp.sub FloatKind.f64 (fcvt FloatKind.f32 FloatKind.f64 x) (fofInt FloatKind.f64 (ftoInt FloatKind.f64 (fcvt FloatKind.f32 FloatKind.f64 x) IntKind.i64))) (can FloatKind.f64 4602678819172646912)) (can FloatKind.f64 4598175219545276416) == some Ordering.gt then bif forder FloatKind.f64 (fop BinOp.sub FloatKind.f64 (fcvt FloatKind.f32 FloatKind.f64 x) (fofInt FloatKind.f64 (ftoInt FloatKind.f64 (fcvt FloatKind.f32 FloatKind.f64 x) IntKind.i64))) (can FloatKind.f64 4602678819172646912) == some Ordering.gt || forder FloatKind.f64 (fop BinOp.sub FloatKind.f64 (fcvt FloatKind.f32 FloatKind.f64 x) (fofInt FloatKind.f64 (ftoInt FloatKind.f64 (fcvt FloatKind.f32 FloatKind.f64 x) IntKind.i64))) (can FloatKind.f64 4602678819172646912) == some Ordering.eq then fcvt FloatKind.f64 FloatKind.f32 (fneg FloatKind.f64 (fop BinOp.mul FloatKind.f64 (fop BinOp.mul FloatKind.f64 (fop BinOp.sub FloatKind.f64 (can FloatKind.f64 4602678819172646912) (fop BinOp.sub FloatKind.f64 (fop BinOp.sub FloatKind.f64 (fcvt FloatKind.f32 FloatKind.f64 x) (fofInt FloatKind.f64 (ftoInt FloatKind.f64 (fcvt FloatKind.f32 FloatKind.f64 x) IntKind.i64))) (can FloatKind.f64 4602678819172646912))) (can FloatKind.f64 4618760256179416344)) (sp (fop BinOp.mul FloatKind.f64 (fop BinOp.mul FloatKind.f64 (fop BinOp.sub FloatKind.f64 (can FloatKind.f64 4602678819172646912) (fop BinOp.sub FloatKind.f64 (fop BinOp.sub FloatKind.f64 (fcvt FloatKind.f32 FloatKind.f64 x) (fofInt FloatKind.f64 (ftoInt FloatKind.f64 (fcvt FloatKind.f32 FloatKind.f64 x) IntKind.i64))) (can FloatKind.f64 4602678819172646912))) (can FloatKind.f64 4618760256179416344)) (fop BinOp.mul FloatKind.f64 (fop BinOp.sub FloatKind.f64 (can FloatKind.f64 4602678819172646912) (fop BinOp.sub FloatKind.f64 (fop BinOp.sub FloatKind.f64 (fcvt FloatKind.f32 FloatKind.f64 x) (fofInt FloatKind.f64 (ftoInt FloatKind.f64 (fcvt FloatKind.f32 FloatKind.f64 x) IntKind.i64))) (can FloatKind.f64 4602678819172646912))) (can FloatKind.f64 4618760256179416344))) 8))) else fcvt FloatKind.f64 FloatKind.f32 (fop BinOp.mul FloatKind.f64 (fop BinOp.mul FloatKind.f64 (fop BinOp.sub FloatKind.f64 (can FloatKind.f64 4602678819172646912) (fop BinOp.sub FloatKind.f64 (fop BinOp.sub FloatKind.f64 (fcvt FloatKind.f32 FloatKind.f64 x) (fofInt FloatKind.f64 (ftoInt FloatKind.f64 (fcvt FloatKind.f32 FloatKind.f64 x) IntKind.i64))) (can FloatKind.f64 4602678819172646912))) (can FloatKind.f64 4618760256179416344)) (sp (fop BinOp.mul FloatKind.f64 (fop BinOp.mul FloatKind.f64 (fop BinOp.sub FloatKind.f64 (can FloatKind.f64 4602678819172646912) (fop BinOp.sub FloatKind.f64 (fop BinOp.sub FloatKind.f64 (fcvt FloatKind.f32 FloatKind.f64 x) (fofInt FloatKind.f64 (ftoInt FloatKind.f64 (fcvt FloatKind.f32 FloatKind.f64 x) IntKind.i64))) (can FloatKind.f64 4602678819172646912))) (can FloatKind.f64 4618760256179416344)) (fop BinOp.mul FloatKind.f64 (fop BinOp.sub FloatKind.f64 (can FloatKind.f64 4602678819172646912) (fop BinOp.sub FloatKind.f64 (fop BinOp.sub FloatKind.f64 (fcvt FloatKind.f32 FloatKind.f64 x) (fofInt FloatKind.f64 (ftoInt FloatKind.f64 (fcvt FloatKind.f32 FloatKind.f64 x) IntKind.i64))) (can FloatKind.f64 4602678819172646912))) (can FloatKind.f64 4618760256179416344))) 8)) else bif forder FloatKind.f64 (fop BinOp.sub FloatKind.f64 (fcvt FloatKind.f32 FloatKind.f64 x) (fofInt FloatKind.f64 (ftoInt FloatKind.f64 (fcvt FloatKind.f32 FloatKind.f64 x) IntKind.i64))) (can FloatKind.f64 4602678819172646912) == some Ordering.gt || forder FloatKind.f64 (fop BinOp.sub FloatKind.f64 (fcvt FloatKind.f32 FloatKind.f64 x) (fofInt FloatKind.f64 (ftoInt FloatKind.f64 (fcvt FloatKind.f32 FloatKind.f64 x) IntKind.i64))) (can FloatKind.f64 4602678819172646912) == some Ordering.eq then fcvt FloatKind.f64 FloatKind.f32 (fneg FloatKind.f64 (fop BinOp.mul FloatKind.f64 (fop BinOp.mul FloatKind.f64 (fop BinOp.sub FloatKind.f64 (fop BinOp.sub FloatKind.f64 (fcvt FloatKind.f32 FloatKind.f64 x) (fofInt FloatKind.f64 (ftoInt FloatKind.f64 (fcvt FloatKind.f32 FloatKind.f64 x) IntKind.i64))) (can FloatKind.f64 4602678819172646912)) (can FloatKind.f64 4618760256179416344)) (sp (fop BinOp.mul FloatKind.f64 (fop BinOp.mul FloatKind.f64 (fop BinOp.sub FloatKind.f64 (fop BinOp.sub FloatKind.f64 (fcvt FloatKind.f32 FloatKind.f64 x) (fofInt FloatKind.f64 (ftoInt FloatKind.f64 (fcvt FloatKind.f32 FloatKind.f64 x) IntKind.i64))) (can FloatKind.f64 4602678819172646912)) (can FloatKind.f64 4618760256179416344)) (fop BinOp.mul FloatKind.f64 (fop BinOp.sub FloatKind.f64 (fop BinOp.sub FloatKind.f64 (fcvt FloatKind.f32 FloatKind.f64 x) (fofInt FloatKind.f64 (ftoInt FloatKind.f64 (fcvt FloatKind.f32 FloatKind.f64 x) IntKind.i64))) (can FloatKind.f64 4602678819172646912)) (can FloatKind.f64 4618760256179416344))) 8))) else fcvt FloatKind.f64 FloatKind.f32 (fop BinOp.mul FloatKind.f64 (fop BinOp.mul FloatKind.f64 (fop BinOp.sub FloatKind.f64 (fop BinOp.sub FloatKind.f64 (fcvt FloatKind.f32 FloatKind.f64 x) (fofInt FloatKind.f64 (ftoInt FloatKind.f64 (fcvt FloatKind.f32 FloatKind.f64 x) IntKind.i64))) (can FloatKind.f64 4602678819172646912)) (can FloatKind.f64 4618760256179416344)) (sp (fop BinOp.mul FloatKind.f64 (fop BinOp.mul FloatKind.f64 (fop BinOp.sub FloatKind.f64 (fop BinOp.sub FloatKind.f64 (fcvt FloatKind.f32 FloatKind.f64 x) (fofInt FloatKind.f64 (ftoInt FloatKind.f64 (fcvt FloatKind.f32 FloatKind.f64 x) IntKind.i64))) (can FloatKind.f64 4602678819172646912)) (can FloatKind.f64 4618760256179416344)) (fop BinOp.mul FloatKind.f64 (fop BinOp.sub FloatKind.f64 (fop BinOp.sub FloatKind.f64 (fcvt FloatKind.f32 FloatKind.f64 x) (fofInt FloatKind.f64 (ftoInt FloatKind.f64 (fcvt FloatKind.f32 FloatKind.f64 x) IntKind.i64))) (can FloatKind.f64 4602678819172646912)) (can FloatKind.f64 4618760256179416344))) 8)) else bif forder FloatKind.f64 (fop BinOp.sub FloatKind.f64 (fcvt FloatKind.f32 FloatKind.f64 x) (fofInt FloatKind.f64 (ftoInt FloatKind.f64 (fcvt FloatKind.f32 FloatKind.f64 x) IntKind.i64))) (can FloatKind.f64 4598175219545276416) == some Ordering.gt then bif forder FloatKind.f64 (fop BinOp.sub FloatKind.f64 (fcvt FloatKind.f32 FloatKind.f64 x) (fofInt FloatKind.f64 (ftoInt FloatKind.f64 (fcvt FloatKind.f32 FloatKind.f64 x) IntKind.i64))) (can FloatKind.f64 4602678819172646912) == some Ordering.gt || forder FloatKind.f64 (fop BinOp.sub FloatKind.f64 (fcvt FloatKind.f32 FloatKind.f64 x) (fofInt FloatKind.f64 (ftoInt FloatKind.f64 (fcvt FloatKind.f32 FloatKind.f64 x) IntKind.i64))) (can FloatKind.f64 4602678819172646912) == some Ordering.eq then fcvt FloatKind.f64 FloatKind.f32 (fneg FloatKind.f64 (fop BinOp.mul FloatKind.f64 (fop BinOp.mul FloatKind.f64 (fop BinOp.sub FloatKind.f64 (can FloatKind.f64 4602678819172646912) (fop BinOp.sub FloatKind.f64 (fcvt FloatKind.f32 FloatKind.f64 x) (fofInt FloatKind.f64 (ftoInt FloatKind.f64 (fcvt FloatKind.f32 FloatKind.f64 x) IntKind.i64)))) (can FloatKind.f64 4618760256179416344)) (sp (fop BinOp.mul FloatKind.f64 (fop BinOp.mul FloatKind.f64 (fop BinOp.sub FloatKind.f64 (can FloatKind.f64 4602678819172646912) (fop BinOp.sub FloatKind.f64 (fcvt FloatKind.f32 FloatKind.f64 x) (fofInt FloatKind.f64 (ftoInt FloatKind.f64 (fcvt FloatKind.f32 FloatKind.f64 x) IntKind.i64)))) (can FloatKind.f64 4618760256179416344)) (fop BinOp.mul FloatKind.f64 (fop BinOp.sub FloatKind.f64 (can FloatKind.f64 4602678819172646912) (fop BinOp.sub FloatKind.f64 (fcvt FloatKind.f32 FloatKind.f64 x) (fofInt FloatKind.f64 (ftoInt FloatKind.f64 (fcvt FloatKind.f32 FloatKind.f64 x) IntKind.i64)))) (can FloatKind.f64 4618760256179416344))) 8))) else fcvt FloatKind.f64 FloatKind.f32 (fop BinOp.mul FloatKind.f64 (fop BinOp.mul FloatKind.f64 (fop BinOp.sub FloatKind.f64 (can FloatKind.f64 4602678819172646912) (fop BinOp.sub FloatKind.f64 (fcvt FloatKind.f32 FloatKind.f64 x) (fofInt FloatKind.f64 (ftoInt FloatKind.f64 (fcvt FloatKind.f32 FloatKind.f64 x) IntKind.i64)))) (can FloatKind.f64 4618760256179416344)) (sp (fop BinOp.mul FloatKind.f64 (fop BinOp.mul FloatKind.f64 (fop BinOp.sub FloatKind.f64 (can FloatKind.f64 4602678819172646912) (fop BinOp.sub FloatKind.f64 (fcvt FloatKind.f32 FloatKind.f64 x) (fofInt FloatKind.f64 (ftoInt FloatKind.f64 (fcvt FloatKind.f32 FloatKind.f64 x) IntKind.i64)))) (can FloatKind.f64 4618760256179416344)) (fop BinOp.mul FloatKind.f64 (fop BinOp.sub FloatKind.f64 (can FloatKind.f64 4602678819172646912) (fop BinOp.sub FloatKind.f64 (fcvt FloatKind.f32 FloatKind.f64 x) (fofInt FloatKind.f64 (ftoInt FloatKind.f64 (fcvt FloatKind.f32 FloatKind.f64 x) IntKind.i64)))) (can FloatKind.f64 4618760256179416344))) 8)) else bif forder FloatKind.f64 (fop BinOp.sub FloatKind.f64 (fcvt FloatKind.f32 FloatKind.f64 x) (fofInt FloatKind.f64 (ftoInt FloatKind.f64 (fcvt FloatKind.f32 FloatKind.f64 x) IntKind.i64))) (can FloatKind.f64 4602678819172646912) == some Ordering.gt || forder FloatKind.f64 (fop BinOp.sub FloatKind.f64 (fcvt FloatKind.f32 FloatKind.f64 x) (fofInt FloatKind.f64 (ftoInt FloatKind.f64 (fcvt FloatKind.f32 FloatKind.f64 x) IntKind.i64))) (can FloatKind.f64 4602678819172646912) == some Ordering.eq then fcvt FloatKind.f64 FloatKind.f32 (fneg FloatKind.f64 (fop BinOp.mul FloatKind.f64 (fop BinOp.mul FloatKind.f64 (fop BinOp.sub FloatKind.f64 (fcvt FloatKind.f32 FloatKind.f64 x) (fofInt FloatKind.f64 (ftoInt FloatKind.f64 (fcvt FloatKind.f32 FloatKind.f64 x) IntKind.i64))) (can FloatKind.f64 4618760256179416344)) (sp (fop BinOp.mul FloatKind.f64 (fop BinOp.mul FloatKind.f64 (fop BinOp.sub FloatKind.f64 (fcvt FloatKind.f32 FloatKind.f64 x) (fofInt FloatKind.f64 (ftoInt FloatKind.f64 (fcvt FloatKind.f32 FloatKind.f64 x) IntKind.i64))) (can FloatKind.f64 4618760256179416344)) (fop BinOp.mul FloatKind.f64 (fop BinOp.sub FloatKind.f64 (fcvt FloatKind.f32 FloatKind.f64 x) (fofInt FloatKind.f64 (ftoInt FloatKind.f64 (fcvt FloatKind.f32 FloatKind.f64 x) IntKind.i64))) (can FloatKind.f64 4618760256179416344))) 8))) else fcvt FloatKind.f64 FloatKind.f32 (fop BinOp.mul FloatKind.f64 (fop BinOp.mul FloatKind.f64 (fop BinOp.sub FloatKind.f64 (fcvt FloatKind.f32 FloatKind.f64 x) (fofInt FloatKind.f64 (ftoInt FloatKind.f64 (fcvt FloatKind.f32 FloatKind.f64 x) IntKind.i64))) (can FloatKind.f64 4618760256179416344)) (sp (fop BinOp.mul FloatKind.f64 (fop BinOp.mul FloatKind.f64 (fop BinOp.sub FloatKind.f64 (fcvt FloatKind.f32 FloatKind.f64 x) (fofInt FloatKind.f64 (ftoInt FloatKind.f64 (fcvt FloatKind.f32 FloatKind.f64 x) IntKind.i64))) (can FloatKind.f64 4618760256179416344)) (fop BinOp.mul FloatKind.f64 (fop BinOp.sub FloatKind.f64 (fcvt FloatKind.f32 FloatKind.f64 x) (fofInt FloatKind.f64 (ftoInt FloatKind.f64 (fcvt FloatKind.f32 FloatKind.f64 x) IntKind.i64))) (can FloatKind.f64 4618760256179416344))) 8)))) := by kernel_rfl
noncomputable def s80 : List A → Option (Bool × A)
  | [.flt .f32 x] => some (true, .flt .f32 (fcvt .f64 .f32 (sineW (fcvt .f32 .f64 x))))
  | _ => none
theorem s80_at : EnvAt Try.prog 74 s80 := of_auto cfg31_ok lp80_ok Try.func74 (by kernel_rfl) (by kernel_rfl) fun ds cc rr h hc => by
  unfold s80 at h
  split at h
  · rename_i x
    simp only [Option.some.injEq, Prod.mk.injEq] at h
    obtain ⟨rfl, rfl⟩ := h
    refine auto_fit (auto80 x) ?_ ?_
    · show A.flt .f32 (bif !fin x then qnan .f32 else bif geF (absN (fcvt .f32 .f64 x)) c52 then can .f32 0 else treeS (fun g i => bif geF g (can .f64 4602678819172646912) then fcvt .f64 .f32 (fneg .f64 (sineP (fop .mul .f64 i (can .f64 4618760256179416344)))) else fcvt .f64 .f32 (sineP (fop .mul .f64 i (can .f64 4618760256179416344)))) (fracF (fcvt .f32 .f64 x))) = _
      rw [treeS_eq, fin_num, ← num_cvt]
      unfold sineW
      generalize fcvt .f32 .f64 x = y
      cases hn : num .f64 y
      · show A.flt .f32 (qnan .f32) = A.flt .f32 (fcvt .f64 .f32 (qnan .f64))
        rw [show fcvt .f64 .f32 (qnan .f64) = qnan .f32 by decide +kernel]
      · rw [big_absN hn]
        cases bigF y
        · show A.flt .f32 (bif geF (sineF1 (fracF y)) (can .f64 4602678819172646912) then _ else _) = A.flt .f32 (fcvt .f64 .f32 (bif geF (sineF1 (fracF y)) (can .f64 4602678819172646912) then _ else _))
          cases geF (sineF1 (fracF y)) (can .f64 4602678819172646912) <;> rfl
        · show A.flt .f32 (can .f32 0) = A.flt .f32 (fcvt .f64 .f32 (can .f64 0))
          rw [show fcvt .f64 .f32 (can .f64 0) = can .f32 0 by decide +kernel]
    · show (bif !fin x then true else !isNaN .f64 (fcvt .f32 .f64 x) && bif geF (absN (fcvt .f32 .f64 x)) c52 then true else ftoIntOk .f64 (fcvt .f32 .f64 x) .i64 && treeS (fun g i => Nat.beq (can .f64 4607182418800017408) (sp (fop .mul .f64 (fop .mul .f64 i (can .f64 4618760256179416344)) (fop .mul .f64 i (can .f64 4618760256179416344))) 0) && Nat.beq (can .f64 4620693217682128896) (kF 0) && bif geF g (can .f64 4602678819172646912) then fcvtOk .f64 .f32 (fneg .f64 (sineP (fop .mul .f64 i (can .f64 4618760256179416344)))) && true else fcvtOk .f64 .f32 (sineP (fop .mul .f64 i (can .f64 4618760256179416344))) && true) (fracF (fcvt .f32 .f64 x))) = true
      rw [treeS_eq, fin_num, ← num_cvt]
      generalize fcvt .f32 .f64 x = y
      cases hn : num .f64 y
      · rfl
      · rw [big_absN hn, num_nan hn]
        cases hb : bigF y
        · have hz : Le .f64 6 (fop .mul .f64 (sineF3 (sineF2 (sineF1 (fracF y)))) (can .f64 4618760256179416344)) := le_mul (le_sineF (frac_ok hn hb).2) le_ctau (by decide) (by decide)
          have p1 := cvt_down (le_sineP hz) (by decide) (by decide)
          have p2 := cvt_down (le_neg (le_sineP hz)) (by decide) (by decide)
          have p3 : Nat.beq (can .f64 4620693217682128896) (kF 0) = true := by decide +kernel
          rw [(frac_ok hn hb).1, p1, p2, p3]
          show (Nat.beq (can .f64 4607182418800017408) (can .f64 4607182418800017408) && true && _) = true
          rw [Nat.beq_refl, Bool.cond_self]; rfl
        · rfl
  · cases h

noncomputable def env32 : List (Nat × (List A → Option (Bool × A))) := (74, s80) :: env31
theorem env32_ok : EnvOK Try.prog (look env32) := (env_cons s80_at env31_ok)
noncomputable def cfg32 : Cfg := mkCfg tab [] xts (look env32)
theorem cfg32_ok : CfgOK Try.prog cfg32 := cfg_ok tab_eq (no_fts _) xts_ok env32_ok mixed
noncomputable def s93 : List A → Option (Bool × A)
  | [.flt .f32 x] => some (true, .flt .f32 (fcvt .f64 .f32 (sineW (fcvt .f32 .f64 x))))
  | _ => none
noncomputable def env33 : List (Nat × (List A → Option (Bool × A))) := env32
theorem env33_ok : EnvOK Try.prog (look env33) := env32_ok
noncomputable def cfg33 : Cfg := mkCfg tab [] xts (look env33)
theorem cfg33_ok : CfgOK Try.prog cfg33 := cfg_ok tab_eq (no_fts _) xts_ok env33_ok mixed
end Go.Fw.E1

/-
  Points of a ring: the loops.
-/
namespace Go.Fw.E1
open Go.Proofs
noncomputable def sine32 (x : Nat) : Nat := fcvt .f64 .f32 (sineW (fcvt .f32 .f64 x))
def ringQ (n : Int) (i : Nat) : Nat := fop .quo .f32 (fofInt .f32 (Int.ofNat i)) (fofInt .f32 n)
noncomputable def ringX (n : Int) (r i : Nat) : Nat := fop .mul .f32 r (fcvt .f64 .f32 (sineW (fcvt .f32 .f64 (fop .add .f32 (ringQ n i) (can .f32 1048576000)))))
noncomputable def ringY (n : Int) (r i : Nat) : Nat := fop .mul .f32 r (fcvt .f64 .f32 (sineW (fcvt .f32 .f64 (ringQ n i))))
theorem lt_int {k : Nat} {n : Int} (h : k < n.toNat) : decide (Int.ofNat k < n) = true := by simp; omega
theorem ge_int {k : Nat} {n : Int} (h : ¬ k < n.toNat) : decide (Int.ofNat k < n) = false := by simp; omega
theorem app3 {k j p : Nat} {u : Nat → Nat} {x : List Nat} (hx : x.getD j 0 = u k) (hp : p < k + 1) : (match decide (p < k) with | true => u p | false => ([x].getD (p - k) []).getD j 0) = u p := by
  by_cases h : p < k
  · rw [decide_eq_true h]
  · rw [decide_eq_false h]
    obtain rfl : p = k := by omega
    rw [Nat.sub_self]; exact hx
noncomputable def s74 : List A → Option (Bool × A)
  | [.flt .f32 q, .flt .f32 r, .flt .f32 z] => some (true, .agg [.flt .f32 (fop .mul .f32 r (fcvt .f64 .f32 (sineW (fcvt .f32 .f64 (fop .add .f32 q (can .f32 1048576000)))))), .flt .f32 (fop .mul .f32 r (fcvt .f64 .f32 (sineW (fcvt .f32 .f64 q)))), .flt .f32 z])
  | _ => none
noncomputable def env34 : List (Nat × (List A → Option (Bool × A))) := env33
theorem env34_ok : EnvOK Try.prog (look env34) := env33_ok
noncomputable def cfg34 : Cfg := mkCfg tab [] xts (look env34)
theorem cfg34_ok : CfgOK Try.prog cfg34 := cfg_ok tab_eq (no_fts _) xts_ok env34_ok mixed
noncomputable def cfgD : Cfg := mkCfg (nilTab tab) [] xts (look env34)
theorem cfgD_ok : CfgOK Try.prog cfgD := cfgN_ok' tab_eq (no_fts _) xts_ok env34_ok mixed
noncomputable def I84 (n : Int) (r h c : Nat) (k : Nat) : List A := [.int .i64 n, .flt .f32 r, .flt .f32 h, .int .i64 (Int.ofNat k), .ptr 64 0, .ptr 0 0]
noncomputable def J84 (n : Int) (r h c : Nat) (k : Nat) : List O := [.var [.sl 16 k, .bool true, .flt .f32 c], .row 30 3 k (.vecs .f32 (ringX n r) (ringY n r) (fun _ => h)), .var [.emp, .bool false, .flt .f32 0]]
noncomputable def F84 : List A → List (Option O) → Option R3
  | [.int .i64 n, .flt .f32 r, .flt .f32 h, .int .i64 0, .ptr 64 0, .ptr 0 0], [some (.var [.sl 16 0, .bool true, .flt .f32 c]), some (.row 30 3 0 g), some (.var [.emp, .bool false, .flt .f32 0])] => some (.ite (decide (n ≤ 1000)) (.leaf .normal (I84 n r h c (n.toNat)) (J84 n r h c (n.toNat))) .fail)
  | _, _ => none
noncomputable def I31 (n : Int) (r h c : Nat) (k : Nat) : List A := [.int .i64 n, .int .i64 n, .flt .f32 r, .flt .f32 h, .int .i64 (Int.ofNat k), .ptr 272 0, .ptr 0 0, .bool false]
noncomputable def J31 (n : Int) (r h c : Nat) (k : Nat) : List O := [.var [.sl 336 k, .bool true, .flt .f32 c], .row 30 3 k (.vecs .f32 (ringX n r) (ringY n r) (fun _ => h)), .var [.nils, .bool false, .flt .f32 0]]
theorem round31 (n : Int) (r h c : Nat) (k : Nat) (L : XK → List A → List (Option O) → Prop) :
    ((exec cfgD (fun _ => true) (fun _ => none) 0 1000 (loopOf Try.f20 0) (litSt Try.f20.ntmps 352 [29, 0, 1, 2, 30, 10, 8, 9] [272, 336, 0] (I31 n r h c k) (J31 n r h c k))).rt [29, 0, 1, 2, 30, 10, 8, 9] [272, 336, 0]).Ok L =
    bif decide (Int.ofNat k < n) then
      bif decide (k + 1 ≤ 1073741824) then
        L (XK.normal) ([A.int IntKind.i64 n, A.int IntKind.i64 n, A.flt FloatKind.f32 r, A.flt FloatKind.f32 h, A.int IntKind.i64 (IntKind.i64.wrap (Int.ofNat k + Int.ofNat 1)), A.ptr 272 0, A.ptr 0 0, A.bool false]) ([some (O.var [A.sl 336 (k + 1), A.bool true, A.flt FloatKind.f32 c]),   some     (O.row 30 3 (k + 1)       (Row.vecs FloatKind.f32         (fun j =>           match decide (j < k) with           | true => ringX n r j           | false => ([[fop BinOp.mul FloatKind.f32 r (fcvt FloatKind.f64 FloatKind.f32 (sineW (fcvt FloatKind.f32 FloatKind.f64 (fop BinOp.add FloatKind.f32 (fop BinOp.quo FloatKind.f32 (fofInt FloatKind.f32 (Int.ofNat k)) (fofInt FloatKind.f32 n)) (can FloatKind.f32 1048576000))))), fop BinOp.mul FloatKind.f32 r (fcvt FloatKind.f64 FloatKind.f32 (sineW (fcvt FloatKind.f32 FloatKind.f64 (fop BinOp.quo FloatKind.f32 (fofInt FloatKind.f32 (Int.ofNat k)) (fofInt FloatKind.f32 n))))), h]].getD (j - k) []).getD 0 0)         (fun j =>           match decide (j < k) with           | true => ringY n r j           | false => ([[fop BinOp.mul FloatKind.f32 r (fcvt FloatKind.f64 FloatKind.f32 (sineW (fcvt FloatKind.f32 FloatKind.f64 (fop BinOp.add FloatKind.f32 (fop BinOp.quo FloatKind.f32 (fofInt FloatKind.f32 (Int.ofNat k)) (fofInt FloatKind.f32 n)) (can FloatKind.f32 1048576000))))), fop BinOp.mul FloatKind.f32 r (fcvt FloatKind.f64 FloatKind.f32 (sineW (fcvt FloatKind.f32 FloatKind.f64 (fop BinOp.quo FloatKind.f32 (fofInt FloatKind.f32 (Int.ofNat k)) (fofInt FloatKind.f32 n))))), h]].getD (j - k) []).getD 1 0)         fun j =>         match decide (j < k) with         | true => h         | false => ([[fop BinOp.mul FloatKind.f32 r (fcvt FloatKind.f64 FloatKind.f32 (sineW (fcvt FloatKind.f32 FloatKind.f64 (fop BinOp.add FloatKind.f32 (fop BinOp.quo FloatKind.f32 (fofInt FloatKind.f32 (Int.ofNat k)) (fofInt FloatKind.f32 n)) (can FloatKind.f32 1048576000))))), fop BinOp.mul FloatKind.f32 r (fcvt FloatKind.f64 FloatKind.f32 (sineW (fcvt FloatKind.f32 FloatKind.f64 (fop BinOp.quo FloatKind.f32 (fofInt FloatKind.f32 (Int.ofNat k)) (fofInt FloatKind.f32 n))))), h]].getD (j - k) []).getD 2 0)),   some (O.var [A.nils, A.bool false, A.flt FloatKind.f32 0])])
      else
        False
    else
      L (XK.exit 0) ([A.int IntKind.i64 n, A.int IntKind.i64 n, A.flt FloatKind.f32 r, A.flt FloatKind.f32 h, A.int IntKind.i64 (Int.ofNat k), A.ptr 272 0, A.ptr 0 0, A.bool false]) ([some (O.var [A.sl 336 k, A.bool true, A.flt FloatKind.f32 c]), some (O.row 30 3 k (Row.vecs FloatKind.f32 (fun i => ringX n r i) (fun i => ringY n r i) fun x => h)), some (O.var [A.nils, A.bool false, A.flt FloatKind.f32 0])]) := by kernel_rfl
noncomputable def F31 : List A → List (Option O) → Option R3
  | [.int .i64 n2, .int .i64 n, .flt .f32 r, .flt .f32 h, .int .i64 0, .ptr 272 0, .ptr 0 0, .bool false], [some (.var [.sl 336 0, .bool true, .flt .f32 c]), some (.row 30 3 0 g), some (.var [.nils, .bool false, .flt .f32 0])] => some (.ite (decide (n = n2) && decide (n ≤ 1000)) (.leaf .normal (I31 n r h c (n.toNat)) (J31 n r h c (n.toNat))) .fail)
  | _, _ => none
theorem loop31 : CodeOK Try.prog (fun _ σ => sumAt Try.f20.ntmps 352 [29, 0, 1, 2, 30, 10, 8, 9] [272, 336, 0] F31 σ) (.block 0 (.loop (loopOf Try.f20 0))) := by
  refine block_ok (own := fun _ => true) (lp := (fun _ => none)) (un := 0) (fuel := 1000) cfgD_ok (lp_none _) fun az os R hF hok => ?_
  unfold F31 at hF
  split at hF
  · rename_i n2 n r h c g
    injection hF with hF
    subst hF
    have hg := hok.guard
    have hg' := hg
    simp only [Bool.and_eq_true, Nat.ble_eq, Nat.beq_eq, decide_eq_true_eq] at hg'
    obtain ⟨rfl, hn⟩ := hg'
    refine for_fact (ids := [272, 336, 0]) (fun _ => true) (n.toNat) (I31 n r h c) (J31 n r h c) _ (.ret) (I31 n r h c) (I31 n r h c) (I31 n r h c (n.toNat)) (J31 n r h c (n.toNat)) rfl (by unfold J31; exact ⟨rfl, ⟨30, _, rfl, .inr rfl, fun p hp => absurd hp (by omega)⟩, rfl, trivial⟩) (fun _ => rfl) (fun _ => rfl) (fun _ => ALe.self _) (fun _ => rfl) (ALe.self _) (OSims.self _) rfl (fun h => by cases h) (fun k hk L h1 h2 h3 => ?_) fun L hL => ?_
    · rw [round31]

      by_cases hkm : k < n.toNat
      · refine condT (lt_int hkm) ?_
        rw [wrap_succ (by omega)]
        refine condT (decide_eq_true (by omega)) ?_
        exact h1 hkm rfl _ ⟨rfl, ⟨30, _, rfl, .inr rfl, fun p hp => vec_at (app3 (u := ringX n r) rfl hp) (app3 (u := ringY n r) rfl hp) (app3 (u := fun _ => h) rfl hp)⟩, rfl, trivial⟩
      · refine condE (ge_int hkm) ?_
        obtain rfl : k = n.toNat := by omega
        exact h3 rfl
    · exact ⟨fun _ => hL.1 hg, fun N _ h => by cases h⟩
  · cases hF

noncomputable def N31 : St → T := nilW 272 0 30 3 (sumAt Try.f20.ntmps 352 [29, 0, 1, 2, 30, 10, 8, 9] [272, 336, 0] F31)
theorem loopN31 : CodeOK Try.prog (fun _ σ => N31 σ) (.block 0 (.loop (loopOf Try.f20 0))) := nilW_ok loop31
end Go.Fw.E1

/-
  Points of a helix: the loops; rings as wires.
-/
namespace Go.Fw.E1
open Go.Proofs
def helixZ (s i : Nat) : Nat := fop .mul .f32 (fofInt .f32 (Int.ofNat i)) s
noncomputable def I25 (n m : Int) (r s c : Nat) (k : Nat) : List A := [.int .i64 n, .int .i64 m, .flt .f32 r, .flt .f32 s, .int .i64 (Int.ofNat k), .ptr 288 0, .ptr 0 0, .bool false]
noncomputable def J25 (n m : Int) (r s c : Nat) (k : Nat) : List O := [.var [.sl 240 k, .bool false, .flt .f32 c], .row 30 3 k (.vecs .f32 (ringX m r) (ringY m r) (helixZ s)), .var [.emp, .bool false, .flt .f32 0]]
noncomputable def F25 : List A → List (Option O) → Option R3
  | [.int .i64 n, .int .i64 m, .flt .f32 r, .flt .f32 s, .int .i64 0, .ptr 288 0, .ptr 0 0, .bool false], [some (.var [.sl 240 0, .bool false, .flt .f32 c]), some (.row 30 3 0 g), some (.var [.emp, .bool false, .flt .f32 0])] => some (.ite (decide (n ≤ 1000)) (.leaf .normal (I25 n m r s c (n.toNat)) (J25 n m r s c (n.toNat))) .fail)
  | _, _ => none
noncomputable def I26 (n m : Int) (r s c : Nat) (k : Nat) : List A := [.int .i64 n, .int .i64 n, .int .i64 m, .flt .f32 r, .flt .f32 s, .int .i64 (Int.ofNat k), .ptr 352 0, .ptr 0 0, .bool false]
noncomputable def J26 (n m : Int) (r s c : Nat) (k : Nat) : List O := [.var [.sl 416 k, .bool false, .flt .f32 c], .row 30 3 k (.vecs .f32 (ringX m r) (ringY m r) (helixZ s)), .var [.nils, .bool false, .flt .f32 0]]
theorem round26 (n m : Int) (r s c : Nat) (k : Nat) (L : XK → List A → List (Option O) → Prop) :
    ((exec cfgD (fun _ => true) (fun _ => none) 0 1000 (loopOf Try.f27 0) (litSt Try.f27.ntmps 432 [36, 0, 1, 2, 3, 37, 12, 10, 11] [352, 416, 0] (I26 n m r s c k) (J26 n m r s c k))).rt [36, 0, 1, 2, 3, 37, 12, 10, 11] [352, 416, 0]).Ok L =
    bif decide (Int.ofNat k < n) then
      bif decide (k + 1 ≤ 1073741824) then
        L (XK.normal) ([A.int IntKind.i64 n, A.int IntKind.i64 n, A.int IntKind.i64 m, A.flt FloatKind.f32 r, A.flt FloatKind.f32 s, A.int IntKind.i64 (IntKind.i64.wrap (Int.ofNat k + Int.ofNat 1)), A.ptr 352 0, A.ptr 0 0, A.bool false]) ([some (O.var [A.sl 416 (k + 1), A.bool false, A.flt FloatKind.f32 c]),   some     (O.row 30 3 (k + 1)       (Row.vecs FloatKind.f32         (fun j =>           match decide (j < k) with           | true => ringX m r j           | false => ([[fop BinOp.mul FloatKind.f32 r (fcvt FloatKind.f64 FloatKind.f32 (sineW (fcvt FloatKind.f32 FloatKind.f64 (fop BinOp.add FloatKind.f32 (fop BinOp.quo FloatKind.f32 (fofInt FloatKind.f32 (Int.ofNat k)) (fofInt FloatKind.f32 m)) (can FloatKind.f32 1048576000))))), fop BinOp.mul FloatKind.f32 r (fcvt FloatKind.f64 FloatKind.f32 (sineW (fcvt FloatKind.f32 FloatKind.f64 (fop BinOp.quo FloatKind.f32 (fofInt FloatKind.f32 (Int.ofNat k)) (fofInt FloatKind.f32 m))))), fop BinOp.mul FloatKind.f32 (fofInt FloatKind.f32 (Int.ofNat k)) s]].getD (j - k) []).getD 0 0)         (fun j =>           match decide (j < k) with           | true => ringY m r j           | false => ([[fop BinOp.mul FloatKind.f32 r (fcvt FloatKind.f64 FloatKind.f32 (sineW (fcvt FloatKind.f32 FloatKind.f64 (fop BinOp.add FloatKind.f32 (fop BinOp.quo FloatKind.f32 (fofInt FloatKind.f32 (Int.ofNat k)) (fofInt FloatKind.f32 m)) (can FloatKind.f32 1048576000))))), fop BinOp.mul FloatKind.f32 r (fcvt FloatKind.f64 FloatKind.f32 (sineW (fcvt FloatKind.f32 FloatKind.f64 (fop BinOp.quo FloatKind.f32 (fofInt FloatKind.f32 (Int.ofNat k)) (fofInt FloatKind.f32 m))))), fop BinOp.mul FloatKind.f32 (fofInt FloatKind.f32 (Int.ofNat k)) s]].getD (j - k) []).getD 1 0)         fun j =>         match decide (j < k) with         | true => helixZ s j         | false => ([[fop BinOp.mul FloatKind.f32 r (fcvt FloatKind.f64 FloatKind.f32 (sineW (fcvt FloatKind.f32 FloatKind.f64 (fop BinOp.add FloatKind.f32 (fop BinOp.quo FloatKind.f32 (fofInt FloatKind.f32 (Int.ofNat k)) (fofInt FloatKind.f32 m)) (can FloatKind.f32 1048576000))))), fop BinOp.mul FloatKind.f32 r (fcvt FloatKind.f64 FloatKind.f32 (sineW (fcvt FloatKind.f32 FloatKind.f64 (fop BinOp.quo FloatKind.f32 (fofInt FloatKind.f32 (Int.ofNat k)) (fofInt FloatKind.f32 m))))), fop BinOp.mul FloatKind.f32 (fofInt FloatKind.f32 (Int.ofNat k)) s]].getD (j - k) []).getD 2 0)),   some (O.var [A.nils, A.bool false, A.flt FloatKind.f32 0])])
      else
        False
    else
      L (XK.exit 0) ([A.int IntKind.i64 n, A.int IntKind.i64 n, A.int IntKind.i64 m, A.flt FloatKind.f32 r, A.flt FloatKind.f32 s, A.int IntKind.i64 (Int.ofNat k), A.ptr 352 0, A.ptr 0 0, A.bool false]) ([some (O.var [A.sl 416 k, A.bool false, A.flt FloatKind.f32 c]), some (O.row 30 3 k (Row.vecs FloatKind.f32 (fun i => ringX m r i) (fun i => ringY m r i) fun i => helixZ s i)), some (O.var [A.nils, A.bool false, A.flt FloatKind.f32 0])]) := by kernel_rfl
noncomputable def F26 : List A → List (Option O) → Option R3
  | [.int .i64 n2, .int .i64 n, .int .i64 m, .flt .f32 r, .flt .f32 s, .int .i64 0, .ptr 352 0, .ptr 0 0, .bool false], [some (.var [.sl 416 0, .bool false, .flt .f32 c]), some (.row 30 3 0 g), some (.var [.nils, .bool false, .flt .f32 0])] => some (.ite (decide (n = n2) && decide (n ≤ 1000)) (.leaf .normal (I26 n m r s c (n.toNat)) (J26 n m r s c (n.toNat))) .fail)
  | _, _ => none
theorem loop26 : CodeOK Try.prog (fun _ σ => sumAt Try.f27.ntmps 432 [36, 0, 1, 2, 3, 37, 12, 10, 11] [352, 416, 0] F26 σ) (.block 0 (.loop (loopOf Try.f27 0))) := by
  refine block_ok (own := fun _ => true) (lp := (fun _ => none)) (un := 0) (fuel := 1000) cfgD_ok (lp_none _) fun az os R hF hok => ?_
  unfold F26 at hF
  split at hF
  · rename_i n2 n m r s c g
    injection hF with hF
    subst hF
    have hg := hok.guard
    have hg' := hg
    simp only [Bool.and_eq_true, Nat.ble_eq, Nat.beq_eq, decide_eq_true_eq] at hg'
    obtain ⟨rfl, hn⟩ := hg'
    refine for_fact (ids := [352, 416, 0]) (fun _ => true) (n.toNat) (I26 n m r s c) (J26 n m r s c) _ (.ret) (I26 n m r s c) (I26 n m r s c) (I26 n m r s c (n.toNat)) (J26 n m r s c (n.toNat)) rfl (by unfold J26; exact ⟨rfl, ⟨30, _, rfl, .inr rfl, fun p hp => absurd hp (by omega)⟩, rfl, trivial⟩) (fun _ => rfl) (fun _ => rfl) (fun _ => ALe.self _) (fun _ => rfl) (ALe.self _) (OSims.self _) rfl (fun h => by cases h) (fun k hk L h1 h2 h3 => ?_) fun L hL => ?_
    · rw [round26]

      by_cases hkm : k < n.toNat
      · refine condT (lt_int hkm) ?_
        rw [wrap_succ (by omega)]
        refine condT (decide_eq_true (by omega)) ?_
        exact h1 hkm rfl _ ⟨rfl, ⟨30, _, rfl, .inr rfl, fun p hp => vec_at (app3 (u := ringX m r) rfl hp) (app3 (u := ringY m r) rfl hp) (app3 (u := helixZ s) rfl hp)⟩, rfl, trivial⟩
      · refine condE (ge_int hkm) ?_
        obtain rfl : k = n.toNat := by omega
        exact h3 rfl
    · exact ⟨fun _ => hL.1 hg, fun N _ h => by cases h⟩
  · cases hF

noncomputable def N26 : St → T := nilW 352 0 30 3 (sumAt Try.f27.ntmps 432 [36, 0, 1, 2, 3, 37, 12, 10, 11] [352, 416, 0] F26)
theorem loopN26 : CodeOK Try.prog (fun _ σ => N26 σ) (.block 0 (.loop (loopOf Try.f27 0))) := nilW_ok loop26
end Go.Fw.E1

/-
  Rings and helices as wires.
-/
namespace Go.Fw.E1
open Go.Proofs
noncomputable def s84 : List A → Option (Bool × A)
  | [.int .i64 n, .flt .f32 r, .flt .f32 h, .flt .f32 c] => some (decide (n ≤ 1000), .agg [.ro 3 n.toNat (.vecs .f32 (ringX n r) (ringY n r) (fun _ => h)), .bool true, .flt .f32 c])
  | _ => none
noncomputable def env35 : List (Nat × (List A → Option (Bool × A))) := env34
theorem env35_ok : EnvOK Try.prog (look env35) := env34_ok
noncomputable def cfg35 : Cfg := mkCfg tab [] xts (look env35)
theorem cfg35_ok : CfgOK Try.prog cfg35 := cfg_ok tab_eq (no_fts _) xts_ok env35_ok mixed
end Go.Fw.E1

/-
  Rings as wires: contracts.
-/
namespace Go.Fw.E1
open Go.Proofs
noncomputable def ringOk (n : Int) (r h c : Nat) : Bool := (bif decide (n ≥ 3) then decide (n ≤ 48) else false) && above r && okW n.toNat c (ringX n r) (ringY n r) (fun _ => h)
theorem ring_ok {n : Int} {r h c : Nat} (hr : ringOk n r h c = true) : (bif decide (n ≥ 3) then decide (n ≤ 48) else false) = true ∧ above r = true ∧ okW n.toNat c (ringX n r) (ringY n r) (fun _ => h) = true ∧ 3 ≤ n ∧ n ≤ 48 := by
  unfold ringOk at hr
  simp only [Bool.and_eq_true] at hr
  refine ⟨hr.1.1, hr.1.2, hr.2, ?_⟩
  have h1 := hr.1.1
  by_cases h3 : n ≥ 3
  · rw [decide_eq_true h3] at h1; exact ⟨h3, of_decide_eq_true h1⟩
  · rw [decide_eq_false h3] at h1; cases h1
theorem okW_fin {n cur : Nat} {x y : Nat → Nat} {h : Nat} (hw : okW n cur x y (fun _ => h) = true) : fin h = true := by
  unfold okW at hw
  simp only [Bool.and_eq_true, decide_eq_true_eq] at hw
  have := allUpTo_iff.1 hw.2 0 (by omega)
  unfold vfinAt vfin at this
  revert this
  cases fin (x 0) <;> cases fin (y 0) <;> cases fin h <;> simp
noncomputable def s30T : List A → Option (Bool × A)
  | [.int .i64 n, .flt .f32 r, .flt .f32 h, .flt .f32 c] => some (ringOk n r h c, .tup [.agg [.ro 3 n.toNat (.vecs .f32 (ringX n r) (ringY n r) (fun _ => h)), .bool true, .flt .f32 c], .bool true])
  | _ => none
noncomputable def s30F : List A → Option (Bool × A)
  | [.int .i64 n, .flt .f32 r, .flt .f32 h, .flt .f32 c] => some (!ringOk n r h c, .tup [.agg [.emp, .bool false, .flt .f32 0], .bool false])
  | _ => none
noncomputable def lp31T : List (Nat × (St → T)) := [(0, N31)]
theorem lp31T_ok : LpOK Try.prog (look lp31T) (bodyOf Try.f20) := lp_loops (by kernel_rfl) (by kernel_rfl) fun p hp => by
  simp only [lp31T, List.mem_cons, List.not_mem_nil, or_false] at hp
  rcases hp with rfl
  · exact loopN31
noncomputable def s31T : List A → Option (Bool × A)
  | [.int .i64 n, .flt .f32 r, .flt .f32 h, .flt .f32 c] => some (ringOk n r h c, .tup [.agg [.ro 3 n.toNat (.vecs .f32 (ringX n r) (ringY n r) (fun _ => h)), .bool true, .flt .f32 c], .bool true])
  | _ => none
noncomputable def lp31N : List (Nat × (St → T)) := [(0, N31)]
theorem lp31N_ok : LpOK Try.prog (look lp31N) (bodyOf Try.f20) := lp_loops (by kernel_rfl) (by kernel_rfl) fun p hp => by
  simp only [lp31N, List.mem_cons, List.not_mem_nil, or_false] at hp
  rcases hp with rfl
  · exact loopN31
noncomputable def s31N : List A → Option (Bool × A)
  | [.int .i64 n, .flt .f32 r, .flt .f32 h, .flt .f32 c] => some (!ringOk n r h c, .tup [.agg [.nils, .bool false, .flt .f32 0], .bool false])
  | _ => none
noncomputable def s31F : List A → Option (Bool × A)
  | [.int .i64 n, .flt .f32 r, .flt .f32 h, .flt .f32 c] => some (!ringOk n r h c, .tup [.agg [.emp, .bool false, .flt .f32 0], .bool false])
  | _ => none
end Go.Fw.E1

/-
  Rings as wires, pairs of rings: contracts.
-/
namespace Go.Fw.E1
open Go.Proofs
noncomputable def ftsI : List (Nat × Func) := [(75, Try.f75)]
theorem ftsI_ok (f : Nat) (fn : Func) (h : (f, fn) ∈ ftsI) : Try.prog.funcs[f]? = some fn ∧ (fn.name == "runtime.NumGoroutine") = false := by
  simp only [ftsI, List.mem_cons, Prod.mk.injEq, List.not_mem_nil, or_false] at h
  obtain ⟨rfl, rfl⟩ := h
  exact ⟨Try.func75, by kernel_rfl⟩
noncomputable def cfgGD : Cfg := mkCfg (nilTab tab) ftsI xts (look env35)
theorem cfgGD_ok : CfgOK Try.prog cfgGD := cfgN_ok' tab_eq ftsI_ok xts_ok env35_ok mixed
noncomputable def lp20T : List (Nat × (St → T)) := [(0, N31)]
theorem lp20T_ok : LpOK Try.prog (look lp20T) (bodyOf Try.f20) := lp_loops (by kernel_rfl) (by kernel_rfl) fun p hp => by
  simp only [lp20T, List.mem_cons, List.not_mem_nil, or_false] at hp
  rcases hp with rfl
  · exact loopN31
theorem auto20T (n : Int) (r h c : Nat) : autoS cfgGD (look lp20T) false Try.f20 [.int .i64 n, .flt .f32 r, .flt .f32 h, .flt .f32 c] =
    some ((!bif bif !inI n (Int.ofNat 3) (Int.ofNat 48) then true else !above r then true else !fin h) && (decide (n = n) && decide (n ≤ 1000) && (n.toNat.ble 4611686018427387000 && ((!!okW n.toNat c (ringX n r) (ringY n r) fun x => h) && true))), A.tup [A.agg [A.ro 3 n.toNat (Row.vecs FloatKind.f32 (fun i => ringX n r i) (fun i => ringY n r i) fun x => h), A.bool true, A.flt FloatKind.f32 c], A.bool true]) := by kernel_rfl
noncomputable def s20T : List A → Option (Bool × A)
  | [.int .i64 n, .flt .f32 r, .flt .f32 h, .flt .f32 c] => some (ringOk n r h c, .tup [.agg [.ro 3 n.toNat (.vecs .f32 (ringX n r) (ringY n r) (fun _ => h)), .bool true, .flt .f32 c], .bool true])
  | _ => none
theorem s20T_at : EnvAt Try.prog 20 s20T := of_autoS cfgGD_ok lp20T_ok Try.func20 (by kernel_rfl) (by kernel_rfl) fun ds cc rr h hc => by
  unfold s20T at h
  split at h
  · rename_i n r h c
    simp only [Option.some.injEq, Prod.mk.injEq] at h
    obtain ⟨rfl, rfl⟩ := h
    refine auto_fit (auto20T n r h c) ?_ ?_
    · rfl
    · obtain ⟨h1, h2, h3, h4, h5⟩ := ring_ok hc
      have h1' : inI n (Int.ofNat 3) (Int.ofNat 48) = true := h1
      rw [h1', h2, h3, okW_fin h3, decide_eq_true (show n ≤ 1000 by omega), decide_eq_true rfl, ble_of (show n.toNat ≤ 4611686018427387000 by omega)]; rfl
  · cases h

noncomputable def envA1 : List (Nat × (List A → Option (Bool × A))) := (20, s20T) :: env35
theorem envA1_ok : EnvOK Try.prog (look envA1) := env_cons s20T_at env35_ok
noncomputable def cfgA1 : Cfg := mkCfg tab [] xts (look envA1)
theorem cfgA1_ok : CfgOK Try.prog cfgA1 := cfg_ok tab_eq (no_fts _) xts_ok envA1_ok mixed
theorem auto12 (n : Int) (r g c : Nat) : autoO cfgA1 (fun d => Nat.beq d 45) 0 (fun _ => none) false Try.f12 [.int .i64 n, .flt .f32 r, .flt .f32 g, .flt .f32 c] =
    some (ringOk n r (fop BinOp.mul FloatKind.f32 (can FloatKind.f32 1056964608) g) c && (ringOk n r (fop BinOp.mul FloatKind.f32 (can FloatKind.f32 3204448256) g) c && (!!above g && true)), A.tup [A.ro 3 2 (Row.gen fun i => [A.agg [A.ro 3 n.toNat (Row.vecs FloatKind.f32 (ringX n r) (ringY n r) fun x => fop BinOp.mul FloatKind.f32 (can FloatKind.f32 1056964608) g), A.bool true, A.flt FloatKind.f32 c], A.agg [A.ro 3 n.toNat (Row.vecs FloatKind.f32 (ringX n r) (ringY n r) fun x => fop BinOp.mul FloatKind.f32 (can FloatKind.f32 3204448256) g), A.bool true, A.flt FloatKind.f32 c]].getD i A.any), A.bool true]) := by kernel_rfl
noncomputable def hlf (g : Nat) : Nat := fop .mul .f32 (can .f32 1056964608) g
noncomputable def nhlf (g : Nat) : Nat := fop .mul .f32 (can .f32 3204448256) g
noncomputable def pairOk (n : Int) (r g c : Nat) : Bool := ringOk n r (hlf g) c && ringOk n r (nhlf g) c && above g
noncomputable def pairZ (g i : Nat) : Nat := match i with | 0 => hlf g | _ + 1 => nhlf g
noncomputable def s12 : List A → Option (Bool × A)
  | [.int .i64 n, .flt .f32 r, .flt .f32 g, .flt .f32 c] => some (pairOk n r g c, .tup [.ro 3 2 (.wires (fun _ => n.toNat) (fun _ => ringX n r) (fun _ => ringY n r) (fun i _ => pairZ g i) (fun _ => true) (fun _ => c)), .bool true])
  | _ => none
theorem s12_at : EnvAt Try.prog 12 s12 := by
  refine ⟨⟨Try.f12, Try.func12, by kernel_rfl, by kernel_rfl⟩, fun ds cc rr h hc => ?_⟩
  unfold s12 at h
  split at h
  · rename_i n r g c
    simp only [Option.some.injEq, Prod.mk.injEq] at h
    obtain ⟨rfl, rfl⟩ := h
    refine (autoO_ok cfgA1_ok Try.func12 (by kernel_rfl) (lp_none _) (auto12 n r g c) ?_).roT_congr ?_
    · unfold pairOk at hc
      simp only [Bool.and_eq_true] at hc
      have h1 : ringOk n r (fop BinOp.mul FloatKind.f32 (can FloatKind.f32 1056964608) g) c = true := hc.1.1
      have h2 : ringOk n r (fop BinOp.mul FloatKind.f32 (can FloatKind.f32 3204448256) g) c = true := hc.1.2
      rw [h1, h2, hc.2]; rfl
    · intro i hi
      match i, hi with
      | 0, _ => rfl
      | 1, _ => rfl
  · cases h
noncomputable def envA2 : List (Nat × (List A → Option (Bool × A))) := (12, s12) :: (15, s54) :: envA1
theorem envA2_ok : EnvOK Try.prog (look envA2) := env_cons s12_at (env_cons s54_at envA1_ok)
noncomputable def cfgA2 : Cfg := mkCfg tab [] xts (look envA2)
theorem cfgA2_ok : CfgOK Try.prog cfgA2 := cfg_ok tab_eq (no_fts _) xts_ok envA2_ok mixed
end Go.Fw.E1

/-
  Fields along ways: the loop.
-/
namespace Go.Fw.E1
open Go.Proofs
noncomputable def alQ (cc : Int) (k : Nat) : Nat := fop .quo .f32 (fofInt .f32 (Int.ofNat k)) (fofInt .f32 (IntKind.i64.wrap (cc - Int.ofNat 1)))
noncomputable def alP (a p : Nat) (cc : Int) (k : Nat) : Nat := fop .add .f32 a (fop .mul .f32 (fop .sub .f32 p a) (alQ cc k))
noncomputable def alX (m : Nat) (n : Nat → Nat) (x y z : Nat → Nat → Nat) (cl : Nat → Bool) (cur : Nat → Nat) (a b c p q r : Nat) (cc : Int) (k : Nat) : Nat := faX n x y z cl cur (alP a p cc k) (alP b q cc k) (alP c r cc k) 0 m
noncomputable def alY (m : Nat) (n : Nat → Nat) (x y z : Nat → Nat → Nat) (cl : Nat → Bool) (cur : Nat → Nat) (a b c p q r : Nat) (cc : Int) (k : Nat) : Nat := faY n x y z cl cur (alP a p cc k) (alP b q cc k) (alP c r cc k) 0 m
noncomputable def alZ (m : Nat) (n : Nat → Nat) (x y z : Nat → Nat → Nat) (cl : Nat → Bool) (cur : Nat → Nat) (a b c p q r : Nat) (cc : Int) (k : Nat) : Nat := faZ n x y z cl cur (alP a p cc k) (alP b q cc k) (alP c r cc k) 0 m
noncomputable def alOkAt (m : Nat) (n : Nat → Nat) (x y z : Nat → Nat → Nat) (cl : Nat → Bool) (cur : Nat → Nat) (a b c p q r : Nat) (cc : Int) (k : Nat) : Bool := bif vfin (alP a p cc k) (alP b q cc k) (alP c r cc k) then fOkA m n x y z cl cur (alP a p cc k) (alP b q cc k) (alP c r cc k) else false
noncomputable def I14 (m : Nat) (n : Nat → Nat) (x y z : Nat → Nat → Nat) (cl : Nat → Bool) (cur : Nat → Nat) (a b c p q r : Nat) (cc : Int) (k : Nat) : List A := [.int .i64 cc, .int .i64 cc, .ro 3 m (.wires n x y z cl cur), .ptr 16 0, .ptr 0 0, .int .i64 (Int.ofNat k), .sl 352 k, .emp, .bool false]
noncomputable def J14 (m : Nat) (n : Nat → Nat) (x y z : Nat → Nat → Nat) (cl : Nat → Bool) (cur : Nat → Nat) (a b c p q r : Nat) (cc : Int) (k : Nat) : List O := [.row 30 3 k (.vecs .f32 (alX m n x y z cl cur a b c p q r cc) (alY m n x y z cl cur a b c p q r cc) (alZ m n x y z cl cur a b c p q r cc)), .var [.flt .f32 p, .flt .f32 q, .flt .f32 r], .var [.flt .f32 a, .flt .f32 b, .flt .f32 c]]
theorem round14 (m : Nat) (n : Nat → Nat) (x y z : Nat → Nat → Nat) (cl : Nat → Bool) (cur : Nat → Nat) (a b c p q r : Nat) (cc : Int) (k : Nat) (L : XK → List A → List (Option O) → Prop) :
    ((exec cfgA2 (fun _ => true) (fun _ => none) 0 1000 (loopOf Try.f14 0) (litSt Try.f14.ntmps 416 [34, 3, 0, 6, 5, 35, 10, 8, 9] [352, 16, 0] (I14 m n x y z cl cur a b c p q r cc k) (J14 m n x y z cl cur a b c p q r cc k))).rt [34, 3, 0, 6, 5, 35, 10, 8, 9] [352, 16, 0]).Ok L =
    bif decide (Int.ofNat k < cc) then 
       bif decide (cc > 1) then 
         bif m.ble 1048576 && allUpTo (smallW n) m && true then 
           bif !bif vfin (fop BinOp.add FloatKind.f32 a (fop BinOp.mul FloatKind.f32 (fop BinOp.sub FloatKind.f32 p a) (fop BinOp.quo FloatKind.f32 (fofInt FloatKind.f32 (Int.ofNat k)) (fofInt FloatKind.f32 (IntKind.i64.wrap (cc - Int.ofNat 1)))))) (fop BinOp.add FloatKind.f32 b (fop BinOp.mul FloatKind.f32 (fop BinOp.sub FloatKind.f32 q b) (fop BinOp.quo FloatKind.f32 (fofInt FloatKind.f32 (Int.ofNat k)) (fofInt FloatKind.f32 (IntKind.i64.wrap (cc - Int.ofNat 1)))))) (fop BinOp.add FloatKind.f32 c (fop BinOp.mul FloatKind.f32 (fop BinOp.sub FloatKind.f32 r c) (fop BinOp.quo FloatKind.f32 (fofInt FloatKind.f32 (Int.ofNat k)) (fofInt FloatKind.f32 (IntKind.i64.wrap (cc - Int.ofNat 1)))))) then fOkA m n x y z cl cur (fop BinOp.add FloatKind.f32 a (fop BinOp.mul FloatKind.f32 (fop BinOp.sub FloatKind.f32 p a) (fop BinOp.quo FloatKind.f32 (fofInt FloatKind.f32 (Int.ofNat k)) (fofInt FloatKind.f32 (IntKind.i64.wrap (cc - Int.ofNat 1)))))) (fop BinOp.add FloatKind.f32 b (fop BinOp.mul FloatKind.f32 (fop BinOp.sub FloatKind.f32 q b) (fop BinOp.quo FloatKind.f32 (fofInt FloatKind.f32 (Int.ofNat k)) (fofInt FloatKind.f32 (IntKind.i64.wrap (cc - Int.ofNat 1)))))) (fop BinOp.add FloatKind.f32 c (fop BinOp.mul FloatKind.f32 (fop BinOp.sub FloatKind.f32 r c) (fop BinOp.quo FloatKind.f32 (fofInt FloatKind.f32 (Int.ofNat k)) (fofInt FloatKind.f32 (IntKind.i64.wrap (cc - Int.ofNat 1)))))) else false then 
             L (XK.ret) ([A.int IntKind.i64 cc, A.int IntKind.i64 cc, A.ro 3 m (Row.wires n x y z cl cur), A.ptr 16 0, A.ptr 0 0, A.int IntKind.i64 (Int.ofNat k), A.sl 352 k, A.emp, A.bool false]) ([some (O.row 30 3 k (Row.vecs FloatKind.f32 (fun k => alX m n x y z cl cur a b c p q r cc k) (fun k => alY m n x y z cl cur a b c p q r cc k) fun k => alZ m n x y z cl cur a b c p q r cc k)), some (O.var [A.flt FloatKind.f32 p, A.flt FloatKind.f32 q, A.flt FloatKind.f32 r]), some (O.var [A.flt FloatKind.f32 a, A.flt FloatKind.f32 b, A.flt FloatKind.f32 c])]) 
           else 
             bif decide (k + 1 ≤ 1073741824) then 
               L (XK.normal) ([A.int IntKind.i64 cc, A.int IntKind.i64 cc, A.ro 3 m (Row.wires n x y z cl cur), A.ptr 16 0, A.ptr 0 0, A.int IntKind.i64 (IntKind.i64.wrap (Int.ofNat k + Int.ofNat 1)), A.sl 352 (k + 1), A.emp, A.bool false]) ([some     (O.row 30 3 (k + 1)       (Row.vecs FloatKind.f32         (fun j =>           (match decide (j < k) with | true => alX m n x y z cl cur a b c p q r cc j | false => ([[faX n x y z cl cur (fop BinOp.add FloatKind.f32 a (fop BinOp.mul FloatKind.f32 (fop BinOp.sub FloatKind.f32 p a) (fop BinOp.quo FloatKind.f32 (fofInt FloatKind.f32 (Int.ofNat k)) (fofInt FloatKind.f32 (IntKind.i64.wrap (cc - Int.ofNat 1)))))) (fop BinOp.add FloatKind.f32 b (fop BinOp.mul FloatKind.f32 (fop BinOp.sub FloatKind.f32 q b) (fop BinOp.quo FloatKind.f32 (fofInt FloatKind.f32 (Int.ofNat k)) (fofInt FloatKind.f32 (IntKind.i64.wrap (cc - Int.ofNat 1)))))) (fop BinOp.add FloatKind.f32 c (fop BinOp.mul FloatKind.f32 (fop BinOp.sub FloatKind.f32 r c) (fop BinOp.quo FloatKind.f32 (fofInt FloatKind.f32 (Int.ofNat k)) (fofInt FloatKind.f32 (IntKind.i64.wrap (cc - Int.ofNat 1)))))) 0 m, faY n x y z cl cur (fop BinOp.add FloatKind.f32 a (fop BinOp.mul FloatKind.f32 (fop BinOp.sub FloatKind.f32 p a) (fop BinOp.quo FloatKind.f32 (fofInt FloatKind.f32 (Int.ofNat k)) (fofInt FloatKind.f32 (IntKind.i64.wrap (cc - Int.ofNat 1)))))) (fop BinOp.add FloatKind.f32 b (fop BinOp.mul FloatKind.f32 (fop BinOp.sub FloatKind.f32 q b) (fop BinOp.quo FloatKind.f32 (fofInt FloatKind.f32 (Int.ofNat k)) (fofInt FloatKind.f32 (IntKind.i64.wrap (cc - Int.ofNat 1)))))) (fop BinOp.add FloatKind.f32 c (fop BinOp.mul FloatKind.f32 (fop BinOp.sub FloatKind.f32 r c) (fop BinOp.quo FloatKind.f32 (fofInt FloatKind.f32 (Int.ofNat k)) (fofInt FloatKind.f32 (IntKind.i64.wrap (cc - Int.ofNat 1)))))) 0 m, faZ n x y z cl cur (fop BinOp.add FloatKind.f32 a (fop BinOp.mul FloatKind.f32 (fop BinOp.sub FloatKind.f32 p a) (fop BinOp.quo FloatKind.f32 (fofInt FloatKind.f32 (Int.ofNat k)) (fofInt FloatKind.f32 (IntKind.i64.wrap (cc - Int.ofNat 1)))))) (fop BinOp.add FloatKind.f32 b (fop BinOp.mul FloatKind.f32 (fop BinOp.sub FloatKind.f32 q b) (fop BinOp.quo FloatKind.f32 (fofInt FloatKind.f32 (Int.ofNat k)) (fofInt FloatKind.f32 (IntKind.i64.wrap (cc - Int.ofNat 1)))))) (fop BinOp.add FloatKind.f32 c (fop BinOp.mul FloatKind.f32 (fop BinOp.sub FloatKind.f32 r c) (fop BinOp.quo FloatKind.f32 (fofInt FloatKind.f32 (Int.ofNat k)) (fofInt FloatKind.f32 (IntKind.i64.wrap (cc - Int.ofNat 1)))))) 0 m]].getD (j - k) []).getD 0 0))         (fun j =>           (match decide (j < k) with | true => alY m n x y z cl cur a b c p q r cc j | false => ([[faX n x y z cl cur (fop BinOp.add FloatKind.f32 a (fop BinOp.mul FloatKind.f32 (fop BinOp.sub FloatKind.f32 p a) (fop BinOp.quo FloatKind.f32 (fofInt FloatKind.f32 (Int.ofNat k)) (fofInt FloatKind.f32 (IntKind.i64.wrap (cc - Int.ofNat 1)))))) (fop BinOp.add FloatKind.f32 b (fop BinOp.mul FloatKind.f32 (fop BinOp.sub FloatKind.f32 q b) (fop BinOp.quo FloatKind.f32 (fofInt FloatKind.f32 (Int.ofNat k)) (fofInt FloatKind.f32 (IntKind.i64.wrap (cc - Int.ofNat 1)))))) (fop BinOp.add FloatKind.f32 c (fop BinOp.mul FloatKind.f32 (fop BinOp.sub FloatKind.f32 r c) (fop BinOp.quo FloatKind.f32 (fofInt FloatKind.f32 (Int.ofNat k)) (fofInt FloatKind.f32 (IntKind.i64.wrap (cc - Int.ofNat 1)))))) 0 m, faY n x y z cl cur (fop BinOp.add FloatKind.f32 a (fop BinOp.mul FloatKind.f32 (fop BinOp.sub FloatKind.f32 p a) (fop BinOp.quo FloatKind.f32 (fofInt FloatKind.f32 (Int.ofNat k)) (fofInt FloatKind.f32 (IntKind.i64.wrap (cc - Int.ofNat 1)))))) (fop BinOp.add FloatKind.f32 b (fop BinOp.mul FloatKind.f32 (fop BinOp.sub FloatKind.f32 q b) (fop BinOp.quo FloatKind.f32 (fofInt FloatKind.f32 (Int.ofNat k)) (fofInt FloatKind.f32 (IntKind.i64.wrap (cc - Int.ofNat 1)))))) (fop BinOp.add FloatKind.f32 c (fop BinOp.mul FloatKind.f32 (fop BinOp.sub FloatKind.f32 r c) (fop BinOp.quo FloatKind.f32 (fofInt FloatKind.f32 (Int.ofNat k)) (fofInt FloatKind.f32 (IntKind.i64.wrap (cc - Int.ofNat 1)))))) 0 m, faZ n x y z cl cur (fop BinOp.add FloatKind.f32 a (fop BinOp.mul FloatKind.f32 (fop BinOp.sub FloatKind.f32 p a) (fop BinOp.quo FloatKind.f32 (fofInt FloatKind.f32 (Int.ofNat k)) (fofInt FloatKind.f32 (IntKind.i64.wrap (cc - Int.ofNat 1)))))) (fop BinOp.add FloatKind.f32 b (fop BinOp.mul FloatKind.f32 (fop BinOp.sub FloatKind.f32 q b) (fop BinOp.quo FloatKind.f32 (fofInt FloatKind.f32 (Int.ofNat k)) (fofInt FloatKind.f32 (IntKind.i64.wrap (cc - Int.ofNat 1)))))) (fop BinOp.add FloatKind.f32 c (fop BinOp.mul FloatKind.f32 (fop BinOp.sub FloatKind.f32 r c) (fop BinOp.quo FloatKind.f32 (fofInt FloatKind.f32 (Int.ofNat k)) (fofInt FloatKind.f32 (IntKind.i64.wrap (cc - Int.ofNat 1)))))) 0 m]].getD (j - k) []).getD 1 0))         fun j =>         (match decide (j < k) with | true => alZ m n x y z cl cur a b c p q r cc j | false => ([[faX n x y z cl cur (fop BinOp.add FloatKind.f32 a (fop BinOp.mul FloatKind.f32 (fop BinOp.sub FloatKind.f32 p a) (fop BinOp.quo FloatKind.f32 (fofInt FloatKind.f32 (Int.ofNat k)) (fofInt FloatKind.f32 (IntKind.i64.wrap (cc - Int.ofNat 1)))))) (fop BinOp.add FloatKind.f32 b (fop BinOp.mul FloatKind.f32 (fop BinOp.sub FloatKind.f32 q b) (fop BinOp.quo FloatKind.f32 (fofInt FloatKind.f32 (Int.ofNat k)) (fofInt FloatKind.f32 (IntKind.i64.wrap (cc - Int.ofNat 1)))))) (fop BinOp.add FloatKind.f32 c (fop BinOp.mul FloatKind.f32 (fop BinOp.sub FloatKind.f32 r c) (fop BinOp.quo FloatKind.f32 (fofInt FloatKind.f32 (Int.ofNat k)) (fofInt FloatKind.f32 (IntKind.i64.wrap (cc - Int.ofNat 1)))))) 0 m, faY n x y z cl cur (fop BinOp.add FloatKind.f32 a (fop BinOp.mul FloatKind.f32 (fop BinOp.sub FloatKind.f32 p a) (fop BinOp.quo FloatKind.f32 (fofInt FloatKind.f32 (Int.ofNat k)) (fofInt FloatKind.f32 (IntKind.i64.wrap (cc - Int.ofNat 1)))))) (fop BinOp.add FloatKind.f32 b (fop BinOp.mul FloatKind.f32 (fop BinOp.sub FloatKind.f32 q b) (fop BinOp.quo FloatKind.f32 (fofInt FloatKind.f32 (Int.ofNat k)) (fofInt FloatKind.f32 (IntKind.i64.wrap (cc - Int.ofNat 1)))))) (fop BinOp.add FloatKind.f32 c (fop BinOp.mul FloatKind.f32 (fop BinOp.sub FloatKind.f32 r c) (fop BinOp.quo FloatKind.f32 (fofInt FloatKind.f32 (Int.ofNat k)) (fofInt FloatKind.f32 (IntKind.i64.wrap (cc - Int.ofNat 1)))))) 0 m, faZ n x y z cl cur (fop BinOp.add FloatKind.f32 a (fop BinOp.mul FloatKind.f32 (fop BinOp.sub FloatKind.f32 p a) (fop BinOp.quo FloatKind.f32 (fofInt FloatKind.f32 (Int.ofNat k)) (fofInt FloatKind.f32 (IntKind.i64.wrap (cc - Int.ofNat 1)))))) (fop BinOp.add FloatKind.f32 b (fop BinOp.mul FloatKind.f32 (fop BinOp.sub FloatKind.f32 q b) (fop BinOp.quo FloatKind.f32 (fofInt FloatKind.f32 (Int.ofNat k)) (fofInt FloatKind.f32 (IntKind.i64.wrap (cc - Int.ofNat 1)))))) (fop BinOp.add FloatKind.f32 c (fop BinOp.mul FloatKind.f32 (fop BinOp.sub FloatKind.f32 r c) (fop BinOp.quo FloatKind.f32 (fofInt FloatKind.f32 (Int.ofNat k)) (fofInt FloatKind.f32 (IntKind.i64.wrap (cc - Int.ofNat 1)))))) 0 m]].getD (j - k) []).getD 2 0))),   some (O.var [A.flt FloatKind.f32 p, A.flt FloatKind.f32 q, A.flt FloatKind.f32 r]), some (O.var [A.flt FloatKind.f32 a, A.flt FloatKind.f32 b, A.flt FloatKind.f32 c])]) 
             else 
               False 
         else 
           False 
       else 
         bif m.ble 1048576 && allUpTo (smallW n) m && true then 
           bif !bif vfin (fop BinOp.add FloatKind.f32 a (fop BinOp.mul FloatKind.f32 (fop BinOp.sub FloatKind.f32 p a) (can FloatKind.f32 0))) (fop BinOp.add FloatKind.f32 b (fop BinOp.mul FloatKind.f32 (fop BinOp.sub FloatKind.f32 q b) (can FloatKind.f32 0))) (fop BinOp.add FloatKind.f32 c (fop BinOp.mul FloatKind.f32 (fop BinOp.sub FloatKind.f32 r c) (can FloatKind.f32 0))) then fOkA m n x y z cl cur (fop BinOp.add FloatKind.f32 a (fop BinOp.mul FloatKind.f32 (fop BinOp.sub FloatKind.f32 p a) (can FloatKind.f32 0))) (fop BinOp.add FloatKind.f32 b (fop BinOp.mul FloatKind.f32 (fop BinOp.sub FloatKind.f32 q b) (can FloatKind.f32 0))) (fop BinOp.add FloatKind.f32 c (fop BinOp.mul FloatKind.f32 (fop BinOp.sub FloatKind.f32 r c) (can FloatKind.f32 0))) else false then 
             L (XK.ret) ([A.int IntKind.i64 cc, A.int IntKind.i64 cc, A.ro 3 m (Row.wires n x y z cl cur), A.ptr 16 0, A.ptr 0 0, A.int IntKind.i64 (Int.ofNat k), A.sl 352 k, A.emp, A.bool false]) ([some (O.row 30 3 k (Row.vecs FloatKind.f32 (fun k => alX m n x y z cl cur a b c p q r cc k) (fun k => alY m n x y z cl cur a b c p q r cc k) fun k => alZ m n x y z cl cur a b c p q r cc k)), some (O.var [A.flt FloatKind.f32 p, A.flt FloatKind.f32 q, A.flt FloatKind.f32 r]), some (O.var [A.flt FloatKind.f32 a, A.flt FloatKind.f32 b, A.flt FloatKind.f32 c])]) 
           else 
             bif decide (k + 1 ≤ 1073741824) then 
               L (XK.normal) ([A.int IntKind.i64 cc, A.int IntKind.i64 cc, A.ro 3 m (Row.wires n x y z cl cur), A.ptr 16 0, A.ptr 0 0, A.int IntKind.i64 (IntKind.i64.wrap (Int.ofNat k + Int.ofNat 1)), A.sl 352 (k + 1), A.emp, A.bool false]) ([some     (O.row 30 3 (k + 1)       (Row.vecs FloatKind.f32         (fun j =>           (match decide (j < k) with | true => alX m n x y z cl cur a b c p q r cc j | false => ([[faX n x y z cl cur (fop BinOp.add FloatKind.f32 a (fop BinOp.mul FloatKind.f32 (fop BinOp.sub FloatKind.f32 p a) (can FloatKind.f32 0))) (fop BinOp.add FloatKind.f32 b (fop BinOp.mul FloatKind.f32 (fop BinOp.sub FloatKind.f32 q b) (can FloatKind.f32 0))) (fop BinOp.add FloatKind.f32 c (fop BinOp.mul FloatKind.f32 (fop BinOp.sub FloatKind.f32 r c) (can FloatKind.f32 0))) 0 m, faY n x y z cl cur (fop BinOp.add FloatKind.f32 a (fop BinOp.mul FloatKind.f32 (fop BinOp.sub FloatKind.f32 p a) (can FloatKind.f32 0))) (fop BinOp.add FloatKind.f32 b (fop BinOp.mul FloatKind.f32 (fop BinOp.sub FloatKind.f32 q b) (can FloatKind.f32 0))) (fop BinOp.add FloatKind.f32 c (fop BinOp.mul FloatKind.f32 (fop BinOp.sub FloatKind.f32 r c) (can FloatKind.f32 0))) 0 m, faZ n x y z cl cur (fop BinOp.add FloatKind.f32 a (fop BinOp.mul FloatKind.f32 (fop BinOp.sub FloatKind.f32 p a) (can FloatKind.f32 0))) (fop BinOp.add FloatKind.f32 b (fop BinOp.mul FloatKind.f32 (fop BinOp.sub FloatKind.f32 q b) (can FloatKind.f32 0))) (fop BinOp.add FloatKind.f32 c (fop BinOp.mul FloatKind.f32 (fop BinOp.sub FloatKind.f32 r c) (can FloatKind.f32 0))) 0 m]].getD (j - k) []).getD 0 0))         (fun j =>           (match decide (j < k) with | true => alY m n x y z cl cur a b c p q r cc j | false => ([[faX n x y z cl cur (fop BinOp.add FloatKind.f32 a (fop BinOp.mul FloatKind.f32 (fop BinOp.sub FloatKind.f32 p a) (can FloatKind.f32 0))) (fop BinOp.add FloatKind.f32 b (fop BinOp.mul FloatKind.f32 (fop BinOp.sub FloatKind.f32 q b) (can FloatKind.f32 0))) (fop BinOp.add FloatKind.f32 c (fop BinOp.mul FloatKind.f32 (fop BinOp.sub FloatKind.f32 r c) (can FloatKind.f32 0))) 0 m, faY n x y z cl cur (fop BinOp.add FloatKind.f32 a (fop BinOp.mul FloatKind.f32 (fop BinOp.sub FloatKind.f32 p a) (can FloatKind.f32 0))) (fop BinOp.add FloatKind.f32 b (fop BinOp.mul FloatKind.f32 (fop BinOp.sub FloatKind.f32 q b) (can FloatKind.f32 0))) (fop BinOp.add FloatKind.f32 c (fop BinOp.mul FloatKind.f32 (fop BinOp.sub FloatKind.f32 r c) (can FloatKind.f32 0))) 0 m, faZ n x y z cl cur (fop BinOp.add FloatKind.f32 a (fop BinOp.mul FloatKind.f32 (fop BinOp.sub FloatKind.f32 p a) (can FloatKind.f32 0))) (fop BinOp.add FloatKind.f32 b (fop BinOp.mul FloatKind.f32 (fop BinOp.sub FloatKind.f32 q b) (can FloatKind.f32 0))) (fop BinOp.add FloatKind.f32 c (fop BinOp.mul FloatKind.f32 (fop BinOp.sub FloatKind.f32 r c) (can FloatKind.f32 0))) 0 m]].getD (j - k) []).getD 1 0))         fun j =>         (match decide (j < k) with | true => alZ m n x y z cl cur a b c p q r cc j | false => ([[faX n x y z cl cur (fop BinOp.add FloatKind.f32 a (fop BinOp.mul FloatKind.f32 (fop BinOp.sub FloatKind.f32 p a) (can FloatKind.f32 0))) (fop BinOp.add FloatKind.f32 b (fop BinOp.mul FloatKind.f32 (fop BinOp.sub FloatKind.f32 q b) (can FloatKind.f32 0))) (fop BinOp.add FloatKind.f32 c (fop BinOp.mul FloatKind.f32 (fop BinOp.sub FloatKind.f32 r c) (can FloatKind.f32 0))) 0 m, faY n x y z cl cur (fop BinOp.add FloatKind.f32 a (fop BinOp.mul FloatKind.f32 (fop BinOp.sub FloatKind.f32 p a) (can FloatKind.f32 0))) (fop BinOp.add FloatKind.f32 b (fop BinOp.mul FloatKind.f32 (fop BinOp.sub FloatKind.f32 q b) (can FloatKind.f32 0))) (fop BinOp.add FloatKind.f32 c (fop BinOp.mul FloatKind.f32 (fop BinOp.sub FloatKind.f32 r c) (can FloatKind.f32 0))) 0 m, faZ n x y z cl cur (fop BinOp.add FloatKind.f32 a (fop BinOp.mul FloatKind.f32 (fop BinOp.sub FloatKind.f32 p a) (can FloatKind.f32 0))) (fop BinOp.add FloatKind.f32 b (fop BinOp.mul FloatKind.f32 (fop BinOp.sub FloatKind.f32 q b) (can FloatKind.f32 0))) (fop BinOp.add FloatKind.f32 c (fop BinOp.mul FloatKind.f32 (fop BinOp.sub FloatKind.f32 r c) (can FloatKind.f32 0))) 0 m]].getD (j - k) []).getD 2 0))),   some (O.var [A.flt FloatKind.f32 p, A.flt FloatKind.f32 q, A.flt FloatKind.f32 r]), some (O.var [A.flt FloatKind.f32 a, A.flt FloatKind.f32 b, A.flt FloatKind.f32 c])]) 
             else 
               False 
         else 
           False 
     else 
       L (XK.exit 0) ([A.int IntKind.i64 cc, A.int IntKind.i64 cc, A.ro 3 m (Row.wires n x y z cl cur), A.ptr 16 0, A.ptr 0 0, A.int IntKind.i64 (Int.ofNat k), A.sl 352 k, A.emp, A.bool false]) ([some (O.row 30 3 k (Row.vecs FloatKind.f32 (fun k => alX m n x y z cl cur a b c p q r cc k) (fun k => alY m n x y z cl cur a b c p q r cc k) fun k => alZ m n x y z cl cur a b c p q r cc k)), some (O.var [A.flt FloatKind.f32 p, A.flt FloatKind.f32 q, A.flt FloatKind.f32 r]), some (O.var [A.flt FloatKind.f32 a, A.flt FloatKind.f32 b, A.flt FloatKind.f32 c])]) := by kernel_rfl
noncomputable def F14 : List A → List (Option O) → Option R3
  | [.int .i64 cc, .int .i64 c2, .ro 3 m (.wires n x y z cl cur), .ptr 16 0, .ptr 0 0, .int .i64 0, .sl 352 0, .emp, .bool false], [some (.row 30 3 0 g), some (.var [.flt .f32 p, .flt .f32 q, .flt .f32 r]), some (.var [.flt .f32 a, .flt .f32 b, .flt .f32 c])] => some (.ite (decide (cc = c2) && decide (cc > 1) && decide (cc ≤ 1000) && (Nat.ble m 1048576 && allUpTo (smallW n) m) && allUpTo (alOkAt m n x y z cl cur a b c p q r cc) cc.toNat) (.leaf .normal (I14 m n x y z cl cur a b c p q r cc (cc.toNat)) (J14 m n x y z cl cur a b c p q r cc (cc.toNat))) .fail)
  | _, _ => none
theorem loop14 : CodeOK Try.prog (fun _ σ => sumAt Try.f14.ntmps 416 [34, 3, 0, 6, 5, 35, 10, 8, 9] [352, 16, 0] F14 σ) (.block 0 (.loop (loopOf Try.f14 0))) := by
  refine block_ok (own := fun _ => true) (lp := (fun _ => none)) (un := 0) (fuel := 1000) cfgA2_ok (lp_none _) fun az os R hF hok => ?_
  unfold F14 at hF
  split at hF
  · rename_i cc c2 m n x y z cl cur g p q r a b c
    injection hF with hF
    subst hF
    have hg := hok.guard
    have hg' := hg
    simp only [Bool.and_eq_true, Nat.ble_eq, Nat.beq_eq, decide_eq_true_eq] at hg'
    clear hg'
    simp only [Bool.and_eq_true, decide_eq_true_eq] at hg
    obtain ⟨⟨⟨⟨rfl, hcc⟩, hc9⟩, hsm'⟩, hall⟩ := hg
    have hsm : (Nat.ble m 1048576 && allUpTo (smallW n) m) = true := by simp only [Bool.and_eq_true]; exact hsm'
    have hg : (decide (cc = cc) && decide (cc > 1) && decide (cc ≤ 1000) && (Nat.ble m 1048576 && allUpTo (smallW n) m) && allUpTo (alOkAt m n x y z cl cur a b c p q r cc) cc.toNat) = true := by
      simp only [Bool.and_eq_true, decide_eq_true_eq]
      exact ⟨⟨⟨⟨trivial, hcc⟩, hc9⟩, hsm'⟩, hall⟩
    refine for_fact (ids := [352, 16, 0]) (fun _ => true) (cc.toNat) (I14 m n x y z cl cur a b c p q r cc) (J14 m n x y z cl cur a b c p q r cc) _ (.ret) (I14 m n x y z cl cur a b c p q r cc) (I14 m n x y z cl cur a b c p q r cc) (I14 m n x y z cl cur a b c p q r cc (cc.toNat)) (J14 m n x y z cl cur a b c p q r cc (cc.toNat)) rfl (by unfold J14; exact ⟨⟨30, _, rfl, .inr rfl, fun p hp => absurd hp (by omega)⟩, rfl, rfl, trivial⟩) (fun _ => rfl) (fun _ => rfl) (fun _ => ALe.self _) (fun _ => rfl) (ALe.self _) (OSims.self _) rfl (fun h => by cases h) (fun k hk L h1 h2 h3 => ?_) fun L hL => ?_
    · rw [round14]

      by_cases hkm : k < cc.toNat
      · refine condT (lt_int hkm) ?_
        refine condT (decide_eq_true hcc) ?_
        refine condT (show (Nat.ble m 1048576 && allUpTo (smallW n) m && true) = true by rw [hsm]; rfl) ?_
        refine condE (show (!alOkAt m n x y z cl cur a b c p q r cc k) = false by rw [allUpTo_iff.1 hall k hkm]; rfl) ?_
        refine condT (decide_eq_true (by omega)) ?_
        rw [wrap_succ (by omega)]
        exact h1 hkm rfl _ ⟨⟨30, _, rfl, .inr rfl, fun p' hp => vec_at (app3 (u := alX m n x y z cl cur a b c p q r cc) rfl hp) (app3 (u := alY m n x y z cl cur a b c p q r cc) rfl hp) (app3 (u := alZ m n x y z cl cur a b c p q r cc) rfl hp)⟩, rfl, rfl, trivial⟩
      · refine condE (ge_int hkm) ?_
        obtain rfl : k = cc.toNat := by omega
        exact h3 rfl
    · exact ⟨fun _ => hL.1 hg, fun N _ h => by cases h⟩
  · cases hF

end Go.Fw.E1

/-
  Fields along ways: a contract.
-/
namespace Go.Fw.E1
open Go.Proofs
noncomputable def alOk (m : Nat) (n : Nat → Nat) (x y z : Nat → Nat → Nat) (cl : Nat → Bool) (cur : Nat → Nat) (a b c p q r : Nat) (cc : Int) : Bool := areW m n x y z cur && vfin a b c && vfin p q r && decide (cc > 1) && decide (cc ≤ 48) && (Nat.ble m 1048576 && allUpTo (smallW n) m) && allUpTo (shortW n) m && allUpTo (alOkAt m n x y z cl cur a b c p q r cc) cc.toNat
noncomputable def lp14 : List (Nat × (St → T)) := [(0, sumAt Try.f14.ntmps 416 [34, 3, 0, 6, 5, 35, 10, 8, 9] [352, 16, 0] F14)]
theorem lp14_ok : LpOK Try.prog (look lp14) (bodyOf Try.f14) := lp_loops (by kernel_rfl) (by kernel_rfl) fun p hp => by
  simp only [lp14, List.mem_cons, List.not_mem_nil, or_false] at hp
  rcases hp with rfl
  · exact loop14
theorem auto14 (m : Nat) (n : Nat → Nat) (x y z : Nat → Nat → Nat) (cl : Nat → Bool) (cur : Nat → Nat) (a b c p q r : Nat) (cc : Int) : autoS cfgA2 (look lp14) false Try.f14 [.ro 3 m (.wires n x y z cl cur), .agg [.flt .f32 a, .flt .f32 b, .flt .f32 c], .agg [.flt .f32 p, .flt .f32 q, .flt .f32 r], .int .i64 cc] =
    some (m.ble 1048576 && allUpTo (shortW n) m && ((!bif bif bif !areW m n x y z cur then true else !vfin a b c then true else !vfin p q r then true else !inI cc (Int.ofNat 1) (Int.ofNat 48)) && (decide (cc = cc) && decide (cc > 1) && decide (cc ≤ 1000) && (m.ble 1048576 && allUpTo (smallW n) m) && allUpTo (alOkAt m n x y z cl cur a b c p q r cc) cc.toNat && true)), A.tup [A.ro 3 cc.toNat (Row.vecs FloatKind.f32 (fun k => alX m n x y z cl cur a b c p q r cc k) (fun k => alY m n x y z cl cur a b c p q r cc k) fun k => alZ m n x y z cl cur a b c p q r cc k), A.bool true]) := by kernel_rfl
noncomputable def s14 : List A → Option (Bool × A)
  | [.ro 3 m (.wires n x y z cl cur), .agg [.flt .f32 a, .flt .f32 b, .flt .f32 c], .agg [.flt .f32 p, .flt .f32 q, .flt .f32 r], .int .i64 cc] => some (alOk m n x y z cl cur a b c p q r cc, .tup [.ro 3 cc.toNat (.vecs .f32 (alX m n x y z cl cur a b c p q r cc) (alY m n x y z cl cur a b c p q r cc) (alZ m n x y z cl cur a b c p q r cc)), .bool true])
  | _ => none
theorem s14_at : EnvAt Try.prog 14 s14 := of_autoS cfgA2_ok lp14_ok Try.func14 (by kernel_rfl) (by kernel_rfl) fun ds cc rr h hc => by
  unfold s14 at h
  split at h
  · rename_i m n x y z cl cur a b c p q r cc
    simp only [Option.some.injEq, Prod.mk.injEq] at h
    obtain ⟨rfl, rfl⟩ := h
    refine auto_fit (auto14 m n x y z cl cur a b c p q r cc) ?_ ?_
    · rfl
    · unfold alOk at hc
      simp only [Bool.and_eq_true, decide_eq_true_eq] at hc
      obtain ⟨⟨⟨⟨⟨⟨⟨h1, h2⟩, h3⟩, h4⟩, h5⟩, h6, h7⟩, h8⟩, h9⟩ := hc
      have hI : inI cc (Int.ofNat 1) (Int.ofNat 48) = true := by
        unfold inI
        rw [decide_eq_true (show cc ≥ Int.ofNat 1 by simp; omega), decide_eq_true (show cc ≤ Int.ofNat 48 by simp; omega)]; rfl
      rw [h1, h2, h3, h6, h7, h8, h9, hI, decide_eq_true (show cc > 1 by omega), decide_eq_true (show cc ≤ 1000 by omega), decide_eq_true rfl]; rfl
  · cases h

noncomputable def envA3 : List (Nat × (List A → Option (Bool × A))) := (14, s14) :: envA2
theorem envA3_ok : EnvOK Try.prog (look envA3) := env_cons s14_at envA2_ok
noncomputable def cfgA3 : Cfg := mkCfg tab [] xts (look envA3)
theorem cfgA3_ok : CfgOK Try.prog cfgA3 := cfg_ok tab_eq (no_fts _) xts_ok envA3_ok mixed
end Go.Fw.E1

/-
  The best gap: the loop.
-/
namespace Go.Fw.E1
open Go.Proofs
noncomputable def unevV (n : Nat) (x y z : Nat → Nat) : Nat := bstM (unev x y z) (Int.negSucc 0) (can .f32 0) n
noncomputable def unevOk (n : Nat) (x y z : Nat → Nat) : Bool := inI (Int.ofNat n) 1 48 && !bNo (unev x y z) n
noncomputable def s16T : List A → Option (Bool × A)
  | [.ro 3 n (.vecs .f32 x y z)] => some (Nat.ble n 4611686018427387000 && unevOk n x y z, .tup [.flt .f32 (unevV n x y z), .bool true])
  | _ => none
theorem s16T_at : EnvAt Try.prog 16 s16T := by
  refine ⟨s24_at.1, fun ds cc r h hc => ?_⟩
  unfold s16T at h
  split at h
  · rename_i n x y z
    simp only [Option.some.injEq, Prod.mk.injEq] at h
    obtain ⟨rfl, rfl⟩ := h
    unfold unevOk at hc
    simp only [Bool.and_eq_true, Bool.not_eq_true'] at hc
    have := s24_at.2 [.ro 3 n (.vecs .f32 x y z)] _ _ rfl hc.1
    rw [hc.2.1, hc.2.2] at this
    exact this
  · cases h
noncomputable def envA4 : List (Nat × (List A → Option (Bool × A))) := (16, s16T) :: envA3
theorem envA4_ok : EnvOK Try.prog (look envA4) := env_cons s16T_at envA3_ok
noncomputable def cfgA4 : Cfg := mkCfg tab [] xts (look envA4)
theorem cfgA4_ok : CfgOK Try.prog cfgA4 := cfg_ok tab_eq (no_fts _) xts_ok envA4_ok mixed
noncomputable def one : Nat := can .f32 1065353216
noncomputable def pX (n : Int) (r g re : Nat) (cc : Int) (k : Nat) : Nat := alX 2 (fun _ => n.toNat) (fun _ => ringX n r) (fun _ => ringY n r) (fun i _ => pairZ g i) (fun _ => true) (fun _ => can .f32 1065353216) 0 0 0 0 0 re cc k
noncomputable def pY (n : Int) (r g re : Nat) (cc : Int) (k : Nat) : Nat := alY 2 (fun _ => n.toNat) (fun _ => ringX n r) (fun _ => ringY n r) (fun i _ => pairZ g i) (fun _ => true) (fun _ => can .f32 1065353216) 0 0 0 0 0 re cc k
noncomputable def pZ (n : Int) (r g re : Nat) (cc : Int) (k : Nat) : Nat := alZ 2 (fun _ => n.toNat) (fun _ => ringX n r) (fun _ => ringY n r) (fun i _ => pairZ g i) (fun _ => true) (fun _ => can .f32 1065353216) 0 0 0 0 0 re cc k
noncomputable def pAl (n : Int) (r g re : Nat) (cc : Int) : Bool := alOk 2 (fun _ => n.toNat) (fun _ => ringX n r) (fun _ => ringY n r) (fun i _ => pairZ g i) (fun _ => true) (fun _ => can .f32 1065353216) 0 0 0 0 0 re cc
noncomputable def gapU (n : Int) (r re : Nat) (cc : Int) (g : Nat) : Nat := unevV cc.toNat (pX n r g re cc) (pY n r g re cc) (pZ n r g re cc)
noncomputable def gapOk (n : Int) (r re : Nat) (cc : Int) (g : Nat) : Bool := pairOk n r g (can .f32 1065353216) && pAl n r g re cc && (Nat.ble cc.toNat 4611686018427387000 && unevOk cc.toNat (pX n r g re cc) (pY n r g re cc) (pZ n r g re cc))
noncomputable def gapOkAt (n : Int) (r re : Nat) (cc : Int) (gs : Nat → Nat) (k : Nat) : Bool := gapOk n r re cc (gs k)
noncomputable def gapUAt (n : Int) (r re : Nat) (cc : Int) (gs : Nat → Nat) (k : Nat) : Nat := gapU n r re cc (gs k)
/-- The first least one of the first numbers. -/
noncomputable def bg (u : Nat → Nat) : Nat → Int × Nat
  | 0 => (Int.negSucc 0, can .f32 0)
  | k + 1 => bif (bif decide ((bg u k).1 < 0) then true else (forder .f32 (u k) (bg u k).2 == some .lt)) then (Int.ofNat k, u k) else bg u k
noncomputable def IBG (n : Int) (r : Nat) (m : Nat) (gs : Nat → Nat) (re : Nat) (cc : Int) (k : Nat) : List A := [.int .i64 (Int.ofNat m), .ro 1 m (.flts .f32 gs), .int .i64 n, .flt .f32 r, .flt .f32 re, .int .i64 cc, .int .i64 (Int.ofNat k), .int .i64 (bg (gapUAt n r re cc gs) k).1, .flt .f32 (bg (gapUAt n r re cc gs) k).2, .int .i64 0, .flt .f32 (can .f32 0), .bool false]
noncomputable def JBG (n : Int) (r : Nat) (m : Nat) (gs : Nat → Nat) (re : Nat) (cc : Int) (k : Nat) : List O := []
theorem roundBG (n : Int) (r : Nat) (m : Nat) (gs : Nat → Nat) (re : Nat) (cc : Int) (k : Nat) (L : XK → List A → List (Option O) → Prop) :
    ((exec cfgA4 (fun _ => true) (fun _ => none) 0 1000 (loopOf Try.f19 0) (litSt Try.f19.ntmps 192 [28, 27, 0, 1, 3, 4, 29, 13, 14, 10, 11, 12] [] (IBG n r m gs re cc k) (JBG n r m gs re cc k))).rt [28, 27, 0, 1, 3, 4, 29, 13, 14, 10, 11, 12] []).Ok L =
    bif decide (Int.ofNat k < Int.ofNat m) then
      bif decide (Int.ofNat k < Int.ofNat m) then
        bif pairOk n r (gs k) (can FloatKind.f32 1065353216) then
          bif alOk 2 (fun x => n.toNat) (fun x => ringX n r) (fun x => ringY n r) (fun i x => pairZ (gs k) i) (fun x => true) (fun x => can FloatKind.f32 1065353216) 0 0 0 0 0 re cc then
            bif cc.toNat.ble 4611686018427387000 && unevOk cc.toNat (alX 2 (fun x => n.toNat) (fun x => ringX n r) (fun x => ringY n r) (fun i x => pairZ (gs (Int.ofNat k).toNat) i) (fun x => true) (fun x => can FloatKind.f32 1065353216) 0 0 0 0 0 re cc) (alY 2 (fun x => n.toNat) (fun x => ringX n r) (fun x => ringY n r) (fun i x => pairZ (gs (Int.ofNat k).toNat) i) (fun x => true) (fun x => can FloatKind.f32 1065353216) 0 0 0 0 0 re cc) (alZ 2 (fun x => n.toNat) (fun x => ringX n r) (fun x => ringY n r) (fun i x => pairZ (gs (Int.ofNat k).toNat) i) (fun x => true) (fun x => can FloatKind.f32 1065353216) 0 0 0 0 0 re cc) then
              bif bif decide ((bg (gapUAt n r re cc gs) k).fst < 0) then true else forder FloatKind.f32 (unevV cc.toNat (alX 2 (fun x => n.toNat) (fun x => ringX n r) (fun x => ringY n r) (fun i x => pairZ (gs (Int.ofNat k).toNat) i) (fun x => true) (fun x => can FloatKind.f32 1065353216) 0 0 0 0 0 re cc) (alY 2 (fun x => n.toNat) (fun x => ringX n r) (fun x => ringY n r) (fun i x => pairZ (gs (Int.ofNat k).toNat) i) (fun x => true) (fun x => can FloatKind.f32 1065353216) 0 0 0 0 0 re cc) (alZ 2 (fun x => n.toNat) (fun x => ringX n r) (fun x => ringY n r) (fun i x => pairZ (gs (Int.ofNat k).toNat) i) (fun x => true) (fun x => can FloatKind.f32 1065353216) 0 0 0 0 0 re cc)) (bg (gapUAt n r re cc gs) k).2 == some Ordering.lt then
                L (XK.normal) ([A.int IntKind.i64 (Int.ofNat m), A.ro 1 m (Row.flts FloatKind.f32 gs), A.int IntKind.i64 n, A.flt FloatKind.f32 r, A.flt FloatKind.f32 re, A.int IntKind.i64 cc, A.int IntKind.i64 (IntKind.i64.wrap (Int.ofNat k + Int.ofNat 1)), A.int IntKind.i64 (Int.ofNat k), A.flt FloatKind.f32 (unevV cc.toNat (alX 2 (fun x => n.toNat) (fun x => ringX n r) (fun x => ringY n r) (fun i x => pairZ (gs (Int.ofNat k).toNat) i) (fun x => true) (fun x => can FloatKind.f32 1065353216) 0 0 0 0 0 re cc) (alY 2 (fun x => n.toNat) (fun x => ringX n r) (fun x => ringY n r) (fun i x => pairZ (gs (Int.ofNat k).toNat) i) (fun x => true) (fun x => can FloatKind.f32 1065353216) 0 0 0 0 0 re cc) (alZ 2 (fun x => n.toNat) (fun x => ringX n r) (fun x => ringY n r) (fun i x => pairZ (gs (Int.ofNat k).toNat) i) (fun x => true) (fun x => can FloatKind.f32 1065353216) 0 0 0 0 0 re cc)), A.int IntKind.i64 (Int.ofNat 0), A.flt FloatKind.f32 (can FloatKind.f32 0), A.bool false]) ([])
              else
                L (XK.normal) ([A.int IntKind.i64 (Int.ofNat m), A.ro 1 m (Row.flts FloatKind.f32 gs), A.int IntKind.i64 n, A.flt FloatKind.f32 r, A.flt FloatKind.f32 re, A.int IntKind.i64 cc, A.int IntKind.i64 (IntKind.i64.wrap (Int.ofNat k + Int.ofNat 1)), A.int IntKind.i64 (bg (gapUAt n r re cc gs) k).1, A.flt FloatKind.f32 (bg (gapUAt n r re cc gs) k).2, A.int IntKind.i64 (Int.ofNat 0), A.flt FloatKind.f32 (can FloatKind.f32 0), A.bool false]) ([])
            else
              False
          else
            False
        else
          False
      else
        False
    else
      L (XK.exit 0) ([A.int IntKind.i64 (Int.ofNat m), A.ro 1 m (Row.flts FloatKind.f32 gs), A.int IntKind.i64 n, A.flt FloatKind.f32 r, A.flt FloatKind.f32 re, A.int IntKind.i64 cc, A.int IntKind.i64 (Int.ofNat k), A.int IntKind.i64 (bg (gapUAt n r re cc gs) k).1, A.flt FloatKind.f32 (bg (gapUAt n r re cc gs) k).2, A.int IntKind.i64 (Int.ofNat 0), A.flt FloatKind.f32 (can FloatKind.f32 0), A.bool false]) ([]) := by kernel_rfl
noncomputable def FBG : List A → List (Option O) → Option R3
  | [.int .i64 q, .ro 1 m (.flts .f32 gs), .int .i64 n, .flt .f32 r, .flt .f32 re, .int .i64 cc, .int .i64 0, .int .i64 p, .flt .f32 s, .int .i64 0, .flt .f32 t, .bool false], [] => some (.ite (decide (q = Int.ofNat m) && decide (p = Int.negSucc 0) && decide (s = can .f32 0) && decide (t = can .f32 0) && Nat.ble m 1000 && allUpTo (gapOkAt n r re cc gs) m) (.leaf .normal (IBG n r m gs re cc (m)) (JBG n r m gs re cc (m))) .fail)
  | _, _ => none
theorem loopBG : CodeOK Try.prog (fun _ σ => sumAt Try.f19.ntmps 192 [28, 27, 0, 1, 3, 4, 29, 13, 14, 10, 11, 12] [] FBG σ) (.block 0 (.loop (loopOf Try.f19 0))) := by
  refine block_ok (own := fun _ => true) (lp := (fun _ => none)) (un := 0) (fuel := 1000) cfgA4_ok (lp_none _) fun az os R hF hok => ?_
  unfold FBG at hF
  split at hF
  · rename_i q m gs n r re cc p s t
    injection hF with hF
    subst hF
    have hg := hok.guard
    have hg' := hg
    simp only [Bool.and_eq_true, Nat.ble_eq, Nat.beq_eq, decide_eq_true_eq] at hg'
    clear hg'
    simp only [Bool.and_eq_true, decide_eq_true_eq, Nat.ble_eq] at hg
    obtain ⟨⟨⟨⟨⟨rfl, rfl⟩, rfl⟩, rfl⟩, hm9⟩, hall⟩ := hg
    have hg : (decide (Int.ofNat m = Int.ofNat m) && decide (Int.negSucc 0 = Int.negSucc 0) && decide (can .f32 0 = can .f32 0) && decide (can .f32 0 = can .f32 0) && Nat.ble m 1000 && allUpTo (gapOkAt n r re cc gs) m) = true := by
      simp only [Bool.and_eq_true, decide_eq_true_eq, Nat.ble_eq]
      exact ⟨⟨⟨⟨⟨trivial, trivial⟩, trivial⟩, trivial⟩, hm9⟩, hall⟩
    refine for_fact (ids := []) (fun _ => true) (m) (IBG n r m gs re cc) (JBG n r m gs re cc) _ (.ret) (IBG n r m gs re cc) (IBG n r m gs re cc) (IBG n r m gs re cc (m)) (JBG n r m gs re cc (m)) rfl (OSims.self _) (fun _ => rfl) (fun _ => rfl) (fun _ => ALe.self _) (fun _ => rfl) (ALe.self _) (OSims.self _) rfl (fun h => by cases h) (fun k hk L h1 h2 h3 => ?_) fun L hL => ?_
    · rw [roundBG]

      by_cases hkm : k < m
      · refine condT (lt_dec hkm) ?_
        refine condT (lt_dec hkm) ?_
        have hk := allUpTo_iff.1 hall k hkm
        unfold gapOkAt gapOk at hk
        simp only [Bool.and_eq_true] at hk
        refine condT (show pairOk n r (gs k) (can .f32 1065353216) = true from hk.1.1) ?_
        refine condT (show pAl n r (gs k) re cc = true from hk.1.2) ?_
        refine condT (show (Nat.ble cc.toNat 4611686018427387000 && unevOk cc.toNat (pX n r (gs k) re cc) (pY n r (gs k) re cc) (pZ n r (gs k) re cc)) = true by simp only [Bool.and_eq_true]; exact hk.2) ?_
        rw [wrap_succ (by omega)]
        have h := h1 hkm rfl _ (OSims.self (JBG n r m gs re cc (k + 1)))
        cases hb : (bif decide ((bg (gapUAt n r re cc gs) k).1 < 0) then true else (forder .f32 (gapUAt n r re cc gs k) (bg (gapUAt n r re cc gs) k).2 == some .lt))
        · refine condE hb ?_
          have e : bg (gapUAt n r re cc gs) (k + 1) = bg (gapUAt n r re cc gs) k := by show cond _ _ _ = _; rw [hb]; rfl
          unfold IBG at h
          rw [e] at h
          exact h
        · refine condT hb ?_
          have e : bg (gapUAt n r re cc gs) (k + 1) = (Int.ofNat k, gapUAt n r re cc gs k) := by show cond _ _ _ = _; rw [hb]; rfl
          unfold IBG at h
          rw [e] at h
          exact h
      · refine condE (ge_dec (by omega)) ?_
        obtain rfl : k = m := by omega
        exact h3 rfl
    · exact ⟨fun _ => hL.1 hg, fun N _ h => by cases h⟩
  · cases hF

end Go.Fw.E1

/-
  The best gap: a contract; the choices that bytes make.
-/
namespace Go.Fw.E1
open Go.Proofs
theorem inI_le {m : Nat} (h : inI (Int.ofNat m) 1 48 = true) : m ≤ 48 := by
  unfold inI at h
  by_cases h1 : Int.ofNat m ≥ 1
  · rw [decide_eq_true h1] at h
    have h2 : Int.ofNat m ≤ 48 := of_decide_eq_true h
    have h3 : (m : Int) ≤ 48 := h2
    omega
  · rw [decide_eq_false h1] at h; cases h
noncomputable def lpBG : List (Nat × (St → T)) := [(0, sumAt Try.f19.ntmps 192 [28, 27, 0, 1, 3, 4, 29, 13, 14, 10, 11, 12] [] FBG)]
theorem lpBG_ok : LpOK Try.prog (look lpBG) (bodyOf Try.f19) := lp_loops (by kernel_rfl) (by kernel_rfl) fun p hp => by
  simp only [lpBG, List.mem_cons, List.not_mem_nil, or_false] at hp
  rcases hp with rfl
  · exact loopBG
theorem autoBG (n : Int) (r : Nat) (m : Nat) (gs : Nat → Nat) (re : Nat) (cc : Int) : autoS cfgA4 (look lpBG) false Try.f19 [.int .i64 n, .flt .f32 r, .ro 1 m (.flts .f32 gs), .flt .f32 re, .int .i64 cc] =
    some (bif !inI (Int.ofNat m) (Int.ofNat 1) (Int.ofNat 48) then true else decide (Int.ofNat m = Int.ofNat m) && true && decide (can FloatKind.f32 0 = can FloatKind.f32 0) && decide (can FloatKind.f32 0 = can FloatKind.f32 0) && m.ble 1000 && allUpTo (gapOkAt n r re cc gs) m && true, A.tup [A.int IntKind.i64 (bif !inI (Int.ofNat m) (Int.ofNat 1) (Int.ofNat 48) then Int.ofNat 0 else (bg (gapUAt n r re cc gs) m).1), A.flt FloatKind.f32 (bif !inI (Int.ofNat m) (Int.ofNat 1) (Int.ofNat 48) then can FloatKind.f32 0 else (bg (gapUAt n r re cc gs) m).2), A.bool (bif !inI (Int.ofNat m) (Int.ofNat 1) (Int.ofNat 48) then false else true)]) := by kernel_rfl
noncomputable def sBG : List A → Option (Bool × A)
  | [.int .i64 n, .flt .f32 r, .ro 1 m (.flts .f32 gs), .flt .f32 re, .int .i64 cc] => some (inI (Int.ofNat m) 1 48 && allUpTo (gapOkAt n r re cc gs) m, .tup [.int .i64 (bg (gapUAt n r re cc gs) m).1, .flt .f32 (bg (gapUAt n r re cc gs) m).2, .bool true])
  | _ => none
theorem sBG_at : EnvAt Try.prog 19 sBG := of_autoS cfgA4_ok lpBG_ok Try.func19 (by kernel_rfl) (by kernel_rfl) fun ds cc rr h hc => by
  unfold sBG at h
  split at h
  · rename_i n r m gs re cc
    simp only [Option.some.injEq, Prod.mk.injEq] at h
    obtain ⟨rfl, rfl⟩ := h
    refine auto_fit (autoBG n r m gs re cc) ?_ ?_
    · simp only [Bool.and_eq_true] at hc
      have h1 : inI (Int.ofNat m) (Int.ofNat 1) (Int.ofNat 48) = true := hc.1
      rw [h1]; rfl
    · simp only [Bool.and_eq_true] at hc
      have h1 : inI (Int.ofNat m) (Int.ofNat 1) (Int.ofNat 48) = true := hc.1
      rw [h1, hc.2, decide_eq_true rfl, decide_eq_true rfl, ble_of (show m ≤ 1000 by have := inI_le hc.1; omega)]; rfl
  · cases h

end Go.Fw.E1

/-
  The law of even fields: contracts of success; the walk.
-/
namespace Go.Fw.E1
open Go.Proofs
noncomputable def strOk (n : Nat) (x y z : Nat → Nat) : Bool := inI (Int.ofNat n) 1 48 && !bNo (longAt x y z) n
noncomputable def strI (n : Nat) (x y z : Nat → Nat) : Int := bstI (longAt x y z) (Int.negSucc 0) (can .f32 0) n
noncomputable def strM (n : Nat) (x y z : Nat → Nat) : Nat := bstM (longAt x y z) (Int.negSucc 0) (can .f32 0) n
noncomputable def s17T : List A → Option (Bool × A)
  | [.ro 3 n (.vecs .f32 x y z)] => some (Nat.ble n 4611686018427387000 && strOk n x y z, .tup [.int .i64 (strI n x y z), .flt .f32 (strM n x y z), .bool true])
  | _ => none
theorem s17T_at : EnvAt Try.prog 17 s17T := by
  refine ⟨s20_at.1, fun ds cc r h hc => ?_⟩
  unfold s17T at h
  split at h
  · rename_i n x y z
    simp only [Option.some.injEq, Prod.mk.injEq] at h
    obtain ⟨rfl, rfl⟩ := h
    unfold strOk at hc
    simp only [Bool.and_eq_true, Bool.not_eq_true'] at hc
    have := s20_at.2 [.ro 3 n (.vecs .f32 x y z)] _ _ rfl hc.1
    rw [hc.2.1, hc.2.2] at this
    exact this
  · cases h
noncomputable def s15T : List A → Option (Bool × A)
  | [.ro 3 m (.wires n x y z cl cur), .agg [.flt .f32 p, .flt .f32 q, .flt .f32 r]] => some (Nat.ble m 1048576 && allUpTo (shortW n) m && flOk m n x y z cl cur p q r, .tup [.agg [.flt .f32 (faX n x y z cl cur p q r 0 m), .flt .f32 (faY n x y z cl cur p q r 0 m), .flt .f32 (faZ n x y z cl cur p q r 0 m)], .bool true])
  | _ => none
theorem s15T_at : EnvAt Try.prog 15 s15T := by
  refine ⟨s54_at.1, fun ds cc r h hc => ?_⟩
  unfold s15T at h
  split at h
  · rename_i m n x y z cl cur p q r
    simp only [Option.some.injEq, Prod.mk.injEq] at h
    obtain ⟨rfl, rfl⟩ := h
    rw [Bool.and_eq_true] at hc
    have := s54_at.2 [.ro 3 m (.wires n x y z cl cur), .agg [.flt .f32 p, .flt .f32 q, .flt .f32 r]] _ _ rfl hc.1
    rw [hc.2] at this
    exact this
  · cases h
noncomputable def envA6 : List (Nat × (List A → Option (Bool × A))) := (17, s17T) :: (15, s15T) :: (19, sBG) :: (13, auto cfgA4 Try.f13) :: (11, auto cfgA4 Try.f11) :: envA4
theorem envA6_ok : EnvOK Try.prog (look envA6) := env_cons s17T_at (env_cons s15T_at (env_cons sBG_at (env_cons (auto_at cfgA4_ok Try.func13 (by kernel_rfl) (by kernel_rfl)) (env_cons (auto_at cfgA4_ok Try.func11 (by kernel_rfl) (by kernel_rfl)) envA4_ok))))
noncomputable def cfgA6 : Cfg := mkCfg tab [] xts (look envA6)
theorem cfgA6_ok : CfgOK Try.prog cfgA6 := cfg_ok tab_eq (no_fts _) xts_ok envA6_ok mixed
end Go.Fw.E1

/-
  The law of even fields: the walk.
-/
namespace Go.Fw.E1
open Go.Proofs
/-- What the choices of the bytes are called. -/
noncomputable def r8v (j0 j1 g0 g1 g2 : Nat) (k n : Int) : Int := bif decide (n = 4) then Int.ofNat j0 else bif decide (n = 5) then Int.ofNat j1 else bif decide (k = 0) then Int.ofNat g0 else bif decide (k = 1) then Int.ofNat g1 else Int.ofNat g2
noncomputable def s13w (v : Int → Int → Int) : List A → Option (Bool × A)
  | [x, .int .i64 k, .int .i64 n] => match auto cfgA4 Try.f13 [x, .int .i64 k, .int .i64 n] with
    | some (c, .int .i64 u) => some (c && decide (u = v k n), .int .i64 (v k n))
    | _ => none
  | _ => none
theorem s13w_at (v : Int → Int → Int) : EnvAt Try.prog 13 (s13w v) := by
  have h0 := auto_at cfgA4_ok Try.func13 (by kernel_rfl) (by kernel_rfl)
  refine ⟨h0.1, fun ds cc r h hc => ?_⟩
  unfold s13w at h
  split at h
  · rename_i x k n
    split at h
    · rename_i c u hu
      simp only [Option.some.injEq, Prod.mk.injEq] at h
      obtain ⟨rfl, rfl⟩ := h
      simp only [Bool.and_eq_true, decide_eq_true_eq] at hc
      have := h0.2 _ _ _ hu hc.1
      rw [hc.2] at this
      exact this
    · cases h
  · cases h
noncomputable def envA7 (v : Int → Int → Int) : List (Nat × (List A → Option (Bool × A))) := (13, s13w v) :: envA6
theorem envA7_ok (v : Int → Int → Int) : EnvOK Try.prog (look (envA7 v)) := env_cons (s13w_at v) envA6_ok
noncomputable def cfgA7 (j0 j1 g0 g1 g2 : Nat) : Cfg := mkCfg tab [] xts (look (envA7 (r8v j0 j1 g0 g1 g2)))
theorem cfgA7_ok (j0 j1 g0 g1 g2 : Nat) : CfgOK Try.prog (cfgA7 j0 j1 g0 g1 g2) := cfg_ok tab_eq (no_fts _) xts_ok (envA7_ok _) mixed
def ow3 (d : Nat) : Bool := Nat.beq d 159 || (Nat.beq d 171 || Nat.beq d 172)
noncomputable def way3 : List Bool := [false, false, false, true, true, true, false, false, true, false, true, false, true, false, false]
theorem long3 (la : Nat) (b : Nat → Nat) (lc : Nat) (c : Nat → Nat) : autoW cfgA6 ow3 6 (fun _ => none) [true] Try.f3 [.ro 1 la (.gen fun i => .int .u8 (Int.ofNat (b i))), .ro 1 lc (.gen fun i => .int .u8 (Int.ofNat (c i)))] =
    some ((bif decide (Int.ofNat la > 48) then true else decide (Int.ofNat lc > 48)) && true, A.bool true) := by kernel_rfl
end Go.Fw.E1

/-
  Fields of rings as the kernel evaluates them.
-/
namespace Go.Fw.E1
open Go.Proofs

theorem rep0 : Rep .f32 0 .zero := rep_of .f32 0
theorem can0 : can .f32 0 = 0 := by decide +kernel
theorem repc0 : Rep .f32 (can .f32 0) .zero := by rw [can0]; exact rep0
theorem rep_fin {x : Nat} {a : V} (hx : Rep .f32 x a) (h : vgood a = true) : fin x = true := by
  have hv := rep_val hx h
  have h2 : Fin .f32 (fop .sub .f32 x x) 0 := by
    have := Fin.sub hv hv
    rw [Int.sub_self, rI_0] at this
    exact this (limK_pos _)
  unfold fin
  rw [Fin.order h2 (show Fin .f32 (can .f32 0) 0 from repc0)]
  rfl
noncomputable def vup (v : V) : Bool := V.rec false (fun b m _ => Bool.rec (Nat.ble 1 m) false b) false v
theorem rep_up {x : Nat} {a : V} (hx : Rep .f32 x a) (h : vup a = true) : (forder .f32 x (can .f32 0) == some .gt) = true := by
  cases a with
  | zero => cases h
  | bad => cases h
  | num b m s =>
    cases b
    · have hm : 1 ≤ m := Nat.le_of_ble_eq_true h
      have hv : Fin .f32 x ((m * 2 ^ s : Nat) : Int) := hx
      rw [Fin.order hv (show Fin .f32 (can .f32 0) 0 from repc0)]
      have : 0 < m * 2 ^ s := Nat.mul_pos (by omega) (Nat.two_pow_pos _)
      show (some (compareOfLessAndEq _ _) == some Ordering.gt) = true
      unfold compareOfLessAndEq
      rw [if_neg (by omega), if_neg (by omega)]
      rfl
    · cases h
noncomputable def vgd (ok : Bool) (v : V) : V := Bool.rec V.bad v ok
noncomputable def band (a b : Bool) : Bool := Bool.rec false b a
theorem band_eq (a b : Bool) : band a b = (a && b) := by cases a <;> rfl
noncomputable def vinn (a b c x y z : V) : V := vadd (vadd (vmul a x) (vmul b y)) (vmul c z)
noncomputable def vlong (a b c : V) : V := vsqrt (vinn a b c a b c)
noncomputable def vsgD (a b c x y z : V) : V := vmul (vmul (vlong a b c) (vlong x y z)) (vadd (vmul (vlong a b c) (vlong x y z)) (vinn a b c x y z))
noncomputable def vsgQ (a b c x y z : V) : V := vquo (vadd (vlong a b c) (vlong x y z)) (vsgD a b c x y z)
noncomputable def vsgO (a b c x y z : V) : Bool := band (vup (vsgD a b c x y z)) (vgood (vsgQ a b c x y z))
noncomputable def vsgX (a b c x y z : V) : V := vgd (vsgO a b c x y z) (vmul (vsub (vmul b z) (vmul c y)) (vsgQ a b c x y z))
noncomputable def vsgY (a b c x y z : V) : V := vgd (vsgO a b c x y z) (vmul (vsub (vmul c x) (vmul a z)) (vsgQ a b c x y z))
noncomputable def vsgZ (a b c x y z : V) : V := vgd (vsgO a b c x y z) (vmul (vsub (vmul a y) (vmul b x)) (vsgQ a b c x y z))
section
variable {a b c x y z : Nat} {A B C X Y Z : V} (ha : Rep .f32 a A) (hb : Rep .f32 b B) (hc : Rep .f32 c C) (hx : Rep .f32 x X) (hy : Rep .f32 y Y) (hz : Rep .f32 z Z)
include ha hb hc hx hy hz
theorem rep_inn : Rep .f32 (inn a b c x y z) (vinn A B C X Y Z) := rep_add (rep_add (rep_mul ha hx) (rep_mul hb hy)) (rep_mul hc hz)
omit hx hy hz in
theorem rep_long : Rep .f32 (long a b c) (vlong A B C) := rep_vsqrt (rep_inn ha hb hc ha hb hc)
theorem rep_sgD : Rep .f32 (sgD a b c x y z) (vsgD A B C X Y Z) := rep_mul (rep_mul (rep_long ha hb hc) (rep_long hx hy hz)) (rep_add (rep_mul (rep_long ha hb hc) (rep_long hx hy hz)) (rep_inn ha hb hc hx hy hz))
theorem rep_sgQ : Rep .f32 (sgQ a b c x y z) (vsgQ A B C X Y Z) := rep_quo (rep_add (rep_long ha hb hc) (rep_long hx hy hz)) (rep_sgD ha hb hc hx hy hz)
theorem sg_yes (h : vsgO A B C X Y Z = true) : sgNo a b c x y z = false := by
  unfold vsgO at h
  rw [band_eq, Bool.and_eq_true] at h
  unfold sgNo
  rw [rep_up (rep_sgD ha hb hc hx hy hz) h.1, rep_fin (rep_sgQ ha hb hc hx hy hz) h.2]
  rfl
theorem rep_sgX : Rep .f32 (sgX a b c x y z) (vsgX A B C X Y Z) := by
  unfold vsgX
  cases h : vsgO A B C X Y Z
  · trivial
  · unfold sgX
    rw [sg_yes ha hb hc hx hy hz h]
    exact rep_mul (rep_sub (rep_mul hb hz) (rep_mul hc hy)) (rep_sgQ ha hb hc hx hy hz)
theorem rep_sgY : Rep .f32 (sgY a b c x y z) (vsgY A B C X Y Z) := by
  unfold vsgY
  cases h : vsgO A B C X Y Z
  · trivial
  · unfold sgY
    rw [sg_yes ha hb hc hx hy hz h]
    exact rep_mul (rep_sub (rep_mul hc hx) (rep_mul ha hz)) (rep_sgQ ha hb hc hx hy hz)
theorem rep_sgZ : Rep .f32 (sgZ a b c x y z) (vsgZ A B C X Y Z) := by
  unfold vsgZ
  cases h : vsgO A B C X Y Z
  · trivial
  · unfold sgZ
    rw [sg_yes ha hb hc hx hy hz h]
    exact rep_mul (rep_sub (rep_mul ha hy) (rep_mul hb hx)) (rep_sgQ ha hb hc hx hy hz)
end
/-! ### Sums over segments: points by tables -/
noncomputable def vsegX (X Y Z : Nat → V) (n : Nat) (P Q R : V) (j : Nat) : V := vsgX (vsub P (X j)) (vsub Q (Y j)) (vsub R (Z j)) (vsub P (X (Nat.mod (Nat.succ j) n))) (vsub Q (Y (Nat.mod (Nat.succ j) n))) (vsub R (Z (Nat.mod (Nat.succ j) n)))
noncomputable def vsegY (X Y Z : Nat → V) (n : Nat) (P Q R : V) (j : Nat) : V := vsgY (vsub P (X j)) (vsub Q (Y j)) (vsub R (Z j)) (vsub P (X (Nat.mod (Nat.succ j) n))) (vsub Q (Y (Nat.mod (Nat.succ j) n))) (vsub R (Z (Nat.mod (Nat.succ j) n)))
noncomputable def vsegZ (X Y Z : Nat → V) (n : Nat) (P Q R : V) (j : Nat) : V := vsgZ (vsub P (X j)) (vsub Q (Y j)) (vsub R (Z j)) (vsub P (X (Nat.mod (Nat.succ j) n))) (vsub Q (Y (Nat.mod (Nat.succ j) n))) (vsub R (Z (Nat.mod (Nat.succ j) n)))
noncomputable def vsumF (f : Nat → V) (k : Nat) : V := Nat.rec V.zero (fun i s => vadd s (f i)) k
theorem rep_fX {x y z : Nat → Nat} {X Y Z : Nat → V} {n p q r : Nat} {P Q R : V} (hx : ∀ i, Rep .f32 (x i) (X i)) (hy : ∀ i, Rep .f32 (y i) (Y i)) (hz : ∀ i, Rep .f32 (z i) (Z i)) (hp : Rep .f32 p P) (hq : Rep .f32 q Q) (hr : Rep .f32 r R) :
    ∀ k, Rep .f32 (fX (sg n x y z) p q r 0 k) (vsumF (vsegX X Y Z n P Q R) k)
  | 0 => rep0
  | k + 1 => rep_add (rep_fX hx hy hz hp hq hr k) (rep_sgX (rep_sub hp (hx _)) (rep_sub hq (hy _)) (rep_sub hr (hz _)) (rep_sub hp (hx _)) (rep_sub hq (hy _)) (rep_sub hr (hz _)))
theorem rep_fY {x y z : Nat → Nat} {X Y Z : Nat → V} {n p q r : Nat} {P Q R : V} (hx : ∀ i, Rep .f32 (x i) (X i)) (hy : ∀ i, Rep .f32 (y i) (Y i)) (hz : ∀ i, Rep .f32 (z i) (Z i)) (hp : Rep .f32 p P) (hq : Rep .f32 q Q) (hr : Rep .f32 r R) :
    ∀ k, Rep .f32 (fY (sg n x y z) p q r 0 k) (vsumF (vsegY X Y Z n P Q R) k)
  | 0 => rep0
  | k + 1 => rep_add (rep_fY hx hy hz hp hq hr k) (rep_sgY (rep_sub hp (hx _)) (rep_sub hq (hy _)) (rep_sub hr (hz _)) (rep_sub hp (hx _)) (rep_sub hq (hy _)) (rep_sub hr (hz _)))
theorem rep_fZ {x y z : Nat → Nat} {X Y Z : Nat → V} {n p q r : Nat} {P Q R : V} (hx : ∀ i, Rep .f32 (x i) (X i)) (hy : ∀ i, Rep .f32 (y i) (Y i)) (hz : ∀ i, Rep .f32 (z i) (Z i)) (hp : Rep .f32 p P) (hq : Rep .f32 q Q) (hr : Rep .f32 r R) :
    ∀ k, Rep .f32 (fZ (sg n x y z) p q r 0 k) (vsumF (vsegZ X Y Z n P Q R) k)
  | 0 => rep0
  | k + 1 => rep_add (rep_fZ hx hy hz hp hq hr k) (rep_sgZ (rep_sub hp (hx _)) (rep_sub hq (hy _)) (rep_sub hr (hz _)) (rep_sub hp (hx _)) (rep_sub hq (hy _)) (rep_sub hr (hz _)))

/-! ### The ring of eight points and radius 1 -/
def r8x (i : Nat) : Nat := [1065353216, 1060439283, 2147483648, 3207922931, 3212836864, 3207922931, 0, 1060439283].getD i 0
def r8y (i : Nat) : Nat := [0, 1060439283, 1065353216, 1060439283, 2147483648, 3207922931, 3212836864, 3207922931].getD i 0
noncomputable def RX (i : Nat) : Nat := ringX 8 (can .f32 1065353216) i
noncomputable def RY (i : Nat) : Nat := ringY 8 (can .f32 1065353216) i
theorem ring8 : allUpTo (fun i => Nat.beq (RX i) (r8x i) && Nat.beq (RY i) (r8y i)) 8 = true := by decide +kernel
theorem ring8x {i : Nat} (hi : i < 8) : RX i = r8x i := by
  have := allUpTo_iff.1 ring8 i hi
  simp only [Bool.and_eq_true] at this
  exact Nat.eq_of_beq_eq_true this.1
theorem ring8y {i : Nat} (hi : i < 8) : RY i = r8y i := by
  have := allUpTo_iff.1 ring8 i hi
  simp only [Bool.and_eq_true] at this
  exact Nat.eq_of_beq_eq_true this.2
end Go.Fw.E1

/-
  Fields of two rings on their axis: evaluated.
-/
namespace Go.Fw.E1
open Go.Proofs
noncomputable def vlx (i : Nat) : V := [V.num false 8388608 126, V.num false 11863283 125, V.zero, V.num true 11863283 125, V.num true 8388608 126, V.num true 11863283 125, V.zero, V.num false 11863283 125].getD i V.bad
noncomputable def vly (i : Nat) : V := [V.zero, V.num false 11863283 125, V.num false 8388608 126, V.num false 11863283 125, V.zero, V.num true 11863283 125, V.num true 8388608 126, V.num true 11863283 125].getD i V.bad
theorem rep_lit {w : Nat} {v : V} (h : vof .f32 w = v) : Rep .f32 w v := by rw [← h]; exact rep_of _ _
theorem rep_vlx (i : Nat) : Rep .f32 (RX i) (vlx i) := by
  by_cases hi : i < 8
  · rw [ring8x hi]
    match i, hi with
    | 0, _ => exact rep_lit (by kernel_rfl)
    | 1, _ => exact rep_lit (by kernel_rfl)
    | 2, _ => exact rep_lit (by kernel_rfl)
    | 3, _ => exact rep_lit (by kernel_rfl)
    | 4, _ => exact rep_lit (by kernel_rfl)
    | 5, _ => exact rep_lit (by kernel_rfl)
    | 6, _ => exact rep_lit (by kernel_rfl)
    | 7, _ => exact rep_lit (by kernel_rfl)
    | i + 8, hi => exact absurd hi (by omega)
  · have : vlx i = V.bad := by
      unfold vlx
      simp [List.getD, show ¬ i < 8 from hi]
    rw [this]; trivial
theorem rep_vly (i : Nat) : Rep .f32 (RY i) (vly i) := by
  by_cases hi : i < 8
  · rw [ring8y hi]
    match i, hi with
    | 0, _ => exact rep_lit (by kernel_rfl)
    | 1, _ => exact rep_lit (by kernel_rfl)
    | 2, _ => exact rep_lit (by kernel_rfl)
    | 3, _ => exact rep_lit (by kernel_rfl)
    | 4, _ => exact rep_lit (by kernel_rfl)
    | 5, _ => exact rep_lit (by kernel_rfl)
    | 6, _ => exact rep_lit (by kernel_rfl)
    | 7, _ => exact rep_lit (by kernel_rfl)
    | i + 8, hi => exact absurd hi (by omega)
  · have : vly i = V.bad := by
      unfold vly
      simp [List.getD, show ¬ i < 8 from hi]
    rw [this]; trivial
noncomputable def vone : V := V.num false 8388608 126
theorem rep_one : Rep .f32 (can .f32 1065353216) vone := rep_lit (by kernel_rfl)
/-- The field of both rings, evaluated. -/
noncomputable def vA (H0 H1 P Q R : V) : V := vadd (vadd V.zero (vmul (vsumF (vsegX vlx vly (fun _ => H0) 8 P Q R) 8) vone)) (vmul (vsumF (vsegX vlx vly (fun _ => H1) 8 P Q R) 8) vone)
noncomputable def vB (H0 H1 P Q R : V) : V := vadd (vadd V.zero (vmul (vsumF (vsegY vlx vly (fun _ => H0) 8 P Q R) 8) vone)) (vmul (vsumF (vsegY vlx vly (fun _ => H1) 8 P Q R) 8) vone)
noncomputable def vC (H0 H1 P Q R : V) : V := vadd (vadd V.zero (vmul (vsumF (vsegZ vlx vly (fun _ => H0) 8 P Q R) 8) vone)) (vmul (vsumF (vsegZ vlx vly (fun _ => H1) 8 P Q R) 8) vone)
/-- The field of both rings. -/
noncomputable def bX (g p q r : Nat) : Nat := faX (fun _ => 8) (fun _ => RX) (fun _ => RY) (fun i _ => pairZ g i) (fun _ => true) (fun _ => can .f32 1065353216) p q r 0 2
noncomputable def bY (g p q r : Nat) : Nat := faY (fun _ => 8) (fun _ => RX) (fun _ => RY) (fun i _ => pairZ g i) (fun _ => true) (fun _ => can .f32 1065353216) p q r 0 2
noncomputable def bZ (g p q r : Nat) : Nat := faZ (fun _ => 8) (fun _ => RX) (fun _ => RY) (fun i _ => pairZ g i) (fun _ => true) (fun _ => can .f32 1065353216) p q r 0 2
theorem bX_eq (g p q r : Nat) : bX g p q r = fop .add .f32 (fop .add .f32 0 (fop .mul .f32 (fX (sg 8 RX RY (fun _ => hlf g)) p q r 0 8) (can .f32 1065353216))) (fop .mul .f32 (fX (sg 8 RX RY (fun _ => nhlf g)) p q r 0 8) (can .f32 1065353216)) := by kernel_rfl
theorem bY_eq (g p q r : Nat) : bY g p q r = fop .add .f32 (fop .add .f32 0 (fop .mul .f32 (fY (sg 8 RX RY (fun _ => hlf g)) p q r 0 8) (can .f32 1065353216))) (fop .mul .f32 (fY (sg 8 RX RY (fun _ => nhlf g)) p q r 0 8) (can .f32 1065353216)) := by kernel_rfl
theorem bZ_eq (g p q r : Nat) : bZ g p q r = fop .add .f32 (fop .add .f32 0 (fop .mul .f32 (fZ (sg 8 RX RY (fun _ => hlf g)) p q r 0 8) (can .f32 1065353216))) (fop .mul .f32 (fZ (sg 8 RX RY (fun _ => nhlf g)) p q r 0 8) (can .f32 1065353216)) := by kernel_rfl
section
variable {g p q r : Nat} {H0 H1 P Q R : V} (h0 : Rep .f32 (hlf g) H0) (h1 : Rep .f32 (nhlf g) H1) (hp : Rep .f32 p P) (hq : Rep .f32 q Q) (hr : Rep .f32 r R)
include h0 h1 hp hq hr
theorem rep_bX : Rep .f32 (bX g p q r) (vA H0 H1 P Q R) := by
  rw [bX_eq]
  exact rep_add (rep_add rep0 (rep_mul (rep_fX rep_vlx rep_vly (fun _ => h0) hp hq hr 8) rep_one)) (rep_mul (rep_fX rep_vlx rep_vly (fun _ => h1) hp hq hr 8) rep_one)
theorem rep_bY : Rep .f32 (bY g p q r) (vB H0 H1 P Q R) := by
  rw [bY_eq]
  exact rep_add (rep_add rep0 (rep_mul (rep_fY rep_vlx rep_vly (fun _ => h0) hp hq hr 8) rep_one)) (rep_mul (rep_fY rep_vlx rep_vly (fun _ => h1) hp hq hr 8) rep_one)
theorem rep_bZ : Rep .f32 (bZ g p q r) (vC H0 H1 P Q R) := by
  rw [bZ_eq]
  exact rep_add (rep_add rep0 (rep_mul (rep_fZ rep_vlx rep_vly (fun _ => h0) hp hq hr 8) rep_one)) (rep_mul (rep_fZ rep_vlx rep_vly (fun _ => h1) hp hq hr 8) rep_one)
end
/-! ### Places -/
noncomputable def vpl (A T K C : V) : V := vadd A (vmul (vsub T A) (vquo K C))
theorem rep_alP {a p : Nat} {A T : V} {cc : Int} {k : Nat} (ha : Rep .f32 a A) (hp : Rep .f32 p T) : Rep .f32 (alP a p cc k) (vpl A T (vof .f32 (fofInt .f32 (Int.ofNat k))) (vof .f32 (fofInt .f32 (IntKind.i64.wrap (cc - Int.ofNat 1))))) :=
  rep_add ha (rep_mul (rep_sub hp ha) (rep_quo (rep_of _ _) (rep_of _ _)))
noncomputable def vge (v : V) : Bool := V.rec true (fun b _ _ => Bool.rec true false b) false v
theorem rep_ge {x : Nat} {a : V} (hx : Rep .f32 x a) (h : vge a = true) : (forder .f32 x (can .f32 0) == some .lt) = false := by
  have c0 : Fin .f32 (can .f32 0) 0 := repc0
  cases a with
  | bad => cases h
  | zero => rw [Fin.order (show Fin .f32 x 0 from hx) c0]; rfl
  | num b m s =>
    cases b
    · rw [Fin.order (show Fin .f32 x ((m * 2 ^ s : Nat) : Int) from hx) c0]
      show (some (compareOfLessAndEq _ _) == some Ordering.lt) = false
      unfold compareOfLessAndEq
      rw [if_neg (by omega)]
      split <;> rfl
    · cases h
/-- How far a field is from the first one. -/
noncomputable def vun (A0 B0 C0 A B C : V) : V := vquo (vlong (vsub A A0) (vsub B B0) (vsub C C0)) (vlong A0 B0 C0)
noncomputable def vchk (A0 B0 C0 A B C : V) : Bool := band (vgood A) (band (vgood B) (band (vgood C) (band (vgood (vlong A B C)) (band (vgood (vun A0 B0 C0 A B C)) (vge (vun A0 B0 C0 A B C))))))
noncomputable def vplace (H0 H1 R0 R : V) : Bool := band (vgood R) (vchk (vA H0 H1 V.zero V.zero R0) (vB H0 H1 V.zero V.zero R0) (vC H0 H1 V.zero V.zero R0) (vA H0 H1 V.zero V.zero R) (vB H0 H1 V.zero V.zero R) (vC H0 H1 V.zero V.zero R))
/-- All places of a way on the axis from 0 to t. -/
noncomputable def vway (g t : Nat) (cc : Int) (n : Nat) : Bool :=
  allUpTo (fun k => vplace (vof .f32 (hlf g)) (vof .f32 (nhlf g)) (vpl V.zero (vof .f32 t) (vof .f32 (fofInt .f32 (Int.ofNat 0))) (vof .f32 (fofInt .f32 (IntKind.i64.wrap (cc - Int.ofNat 1))))) (vpl V.zero (vof .f32 t) (vof .f32 (fofInt .f32 (Int.ofNat k))) (vof .f32 (fofInt .f32 (IntKind.i64.wrap (cc - Int.ofNat 1)))))) n
set_option maxRecDepth 100000 in
theorem vway_try : vway (can .f32 1065353216) (can .f32 1048576000) 3 3 = true := by decide +kernel
end Go.Fw.E1

/-
  The law of even fields: its walk, told by names.
-/
namespace Go.Fw.E1
open Go.Proofs
noncomputable def gw (g : Nat) : Nat := fop .quo .f32 (fofInt .f32 (IntKind.i64.wrap (Int.ofNat 1 + Int.ofNat g))) (can .f32 1082130432)
noncomputable def toW (j : Nat) : Nat := fop .quo .f32 (fofInt .f32 (IntKind.i64.wrap (Int.ofNat 1 + Int.ofNat j))) (can .f32 1082130432)
noncomputable def cntZ (j : Nat) : Int := IntKind.i64.wrap (Int.ofNat 2 + Int.ofNat j)
noncomputable def QT : Nat := can .f32 1048576000
noncomputable def flB (g p q r : Nat) : Bool := flOk 2 (fun _ => 8) (fun _ => RX) (fun _ => RY) (fun i _ => pairZ g i) (fun _ => true) (fun _ => can .f32 1065353216) p q r
noncomputable def gsF (g0 g1 g2 : Nat) (j : Nat) : Nat := match decide (j < 2) with | true => (match decide (j < 1) with | true => [gw g0].getD j 0 | false => [gw g1].getD (j - 1) 0) | false => [gw g2].getD (j - 2) 0
noncomputable def C3 (la : Nat) (b : Nat → Nat) (lc : Nat) (c : Nat → Nat) (j0 j1 g0 g1 g2 : Nat) : Bool :=
  (!bif decide (Int.ofNat la > 48) then true else decide (Int.ofNat lc > 48)) && (pairOk (Int.ofNat 8) one one one && ((bif decide (0 ≥ Int.ofNat la) then true else decide (0 < Int.ofNat la) && true) && decide ((bif bif decide (4 ≤ 1) then true else decide (0 ≥ Int.ofNat la) then 0 else (IntKind.i64.wrap (Int.ofNat (b (Int.toNat 0)))).tmod 4) = r8v j0 j1 g0 g1 g2 0 4) && ((bif decide (1 ≥ Int.ofNat la) then true else decide (1 < Int.ofNat la) && true) && decide ((bif bif decide (5 ≤ 1) then true else decide (1 ≥ Int.ofNat la) then 0 else (IntKind.i64.wrap (Int.ofNat (b (Int.toNat 1)))).tmod 5) = r8v j0 j1 g0 g1 g2 1 5) && (pAl 8 one one (toW j0) (cntZ j1) && (allUpTo (shortW fun x => Int.toNat 8) 2 && flB one 0 0 0 && (allUpTo (shortW fun x => Int.toNat 8) 2 && flB one 0 0 (toW j0) && ((decide (0 ≤ IntKind.i64.wrap ((cntZ j1) - 1)) && decide (IntKind.i64.wrap ((cntZ j1) - 1) < Int.ofNat (cntZ j1).toNat) || !(bif Int.ofNat (cntZ j1).toNat != (cntZ j1) then true else !(forder .f32 (pX 8 one one (toW j0) (cntZ j1) 0) (bX one 0 0 0) == some Ordering.eq && (forder .f32 (pY 8 one one (toW j0) (cntZ j1) 0) (bY one 0 0 0) == some Ordering.eq && forder .f32 (pZ 8 one one (toW j0) (cntZ j1) 0) (bZ one 0 0 0) == some Ordering.eq))) == false) && ((decide (0 < Int.ofNat (cntZ j1).toNat) || !(Int.ofNat (cntZ j1).toNat != (cntZ j1)) == false) && true) && ((!bif bif Int.ofNat (cntZ j1).toNat != (cntZ j1) then true else !(forder .f32 (pX 8 one one (toW j0) (cntZ j1) 0) (bX one 0 0 0) == some Ordering.eq && (forder .f32 (pY 8 one one (toW j0) (cntZ j1) 0) (bY one 0 0 0) == some Ordering.eq && forder .f32 (pZ 8 one one (toW j0) (cntZ j1) 0) (bZ one 0 0 0) == some Ordering.eq)) then true else !(forder .f32 (pX 8 one one (toW j0) (cntZ j1) (IntKind.i64.wrap ((cntZ j1) - Int.ofNat 1)).toNat) (bX one 0 0 (toW j0)) == some Ordering.eq && (forder .f32 (pY 8 one one (toW j0) (cntZ j1) (IntKind.i64.wrap ((cntZ j1) - Int.ofNat 1)).toNat) (bY one 0 0 (toW j0)) == some Ordering.eq && forder .f32 (pZ 8 one one (toW j0) (cntZ j1) (IntKind.i64.wrap ((cntZ j1) - Int.ofNat 1)).toNat) (bZ one 0 0 (toW j0)) == some Ordering.eq))) && (decide (1 ≤ Int.ofNat (cntZ j1).toNat) && (unevOk 1 (pX 8 one one (toW j0) (cntZ j1)) (pY 8 one one (toW j0) (cntZ j1)) (pZ 8 one one (toW j0) (cntZ j1)) && ((cntZ j1).toNat.ble 4611686018427387000 && unevOk (cntZ j1).toNat (pX 8 one one (toW j0) (cntZ j1)) (pY 8 one one (toW j0) (cntZ j1)) (pZ 8 one one (toW j0) (cntZ j1)) && ((cntZ j1).toNat.ble 4611686018427387000 && strOk (cntZ j1).toNat (pX 8 one one (toW j0) (cntZ j1)) (pY 8 one one (toW j0) (cntZ j1)) (pZ 8 one one (toW j0) (cntZ j1)) && ((decide (0 ≤ strI (cntZ j1).toNat (pX 8 one one (toW j0) (cntZ j1)) (pY 8 one one (toW j0) (cntZ j1)) (pZ 8 one one (toW j0) (cntZ j1))) && decide (strI (cntZ j1).toNat (pX 8 one one (toW j0) (cntZ j1)) (pY 8 one one (toW j0) (cntZ j1)) (pZ 8 one one (toW j0) (cntZ j1)) < Int.ofNat (cntZ j1).toNat) || !(bif bif bif forder .f32 (unevV 1 (pX 8 one one (toW j0) (cntZ j1)) (pY 8 one one (toW j0) (cntZ j1)) (pZ 8 one one (toW j0) (cntZ j1))) (can .f32 0) != some Ordering.eq then true else forder .f32 (unevV (cntZ j1).toNat (pX 8 one one (toW j0) (cntZ j1)) (pY 8 one one (toW j0) (cntZ j1)) (pZ 8 one one (toW j0) (cntZ j1))) (can .f32 0) == some Ordering.lt then true else decide (strI (cntZ j1).toNat (pX 8 one one (toW j0) (cntZ j1)) (pY 8 one one (toW j0) (cntZ j1)) (pZ 8 one one (toW j0) (cntZ j1)) < 0) then true else decide (strI (cntZ j1).toNat (pX 8 one one (toW j0) (cntZ j1)) (pY 8 one one (toW j0) (cntZ j1)) (pZ 8 one one (toW j0) (cntZ j1)) ≥ (cntZ j1))) == false) && ((!bif bif bif bif forder .f32 (unevV 1 (pX 8 one one (toW j0) (cntZ j1)) (pY 8 one one (toW j0) (cntZ j1)) (pZ 8 one one (toW j0) (cntZ j1))) (can .f32 0) != some Ordering.eq then true else forder .f32 (unevV (cntZ j1).toNat (pX 8 one one (toW j0) (cntZ j1)) (pY 8 one one (toW j0) (cntZ j1)) (pZ 8 one one (toW j0) (cntZ j1))) (can .f32 0) == some Ordering.lt then true else decide (strI (cntZ j1).toNat (pX 8 one one (toW j0) (cntZ j1)) (pY 8 one one (toW j0) (cntZ j1)) (pZ 8 one one (toW j0) (cntZ j1)) < 0) then true else decide (strI (cntZ j1).toNat (pX 8 one one (toW j0) (cntZ j1)) (pY 8 one one (toW j0) (cntZ j1)) (pZ 8 one one (toW j0) (cntZ j1)) ≥ (cntZ j1)) then true else forder .f32 (long (pX 8 one one (toW j0) (cntZ j1) (strI (cntZ j1).toNat (pX 8 one one (toW j0) (cntZ j1)) (pY 8 one one (toW j0) (cntZ j1)) (pZ 8 one one (toW j0) (cntZ j1))).toNat) (pY 8 one one (toW j0) (cntZ j1) (strI (cntZ j1).toNat (pX 8 one one (toW j0) (cntZ j1)) (pY 8 one one (toW j0) (cntZ j1)) (pZ 8 one one (toW j0) (cntZ j1))).toNat) (pZ 8 one one (toW j0) (cntZ j1) (strI (cntZ j1).toNat (pX 8 one one (toW j0) (cntZ j1)) (pY 8 one one (toW j0) (cntZ j1)) (pZ 8 one one (toW j0) (cntZ j1))).toNat)) (strM (cntZ j1).toNat (pX 8 one one (toW j0) (cntZ j1)) (pY 8 one one (toW j0) (cntZ j1)) (pZ 8 one one (toW j0) (cntZ j1))) != some Ordering.eq) && ((bif decide (0 ≥ Int.ofNat lc) then true else decide (0 < Int.ofNat lc) && true) && decide ((bif bif decide (8 ≤ 1) then true else decide (0 ≥ Int.ofNat lc) then 0 else (IntKind.i64.wrap (Int.ofNat (c (Int.toNat 0)))).tmod 8) = r8v j0 j1 g0 g1 g2 0 8) && (decide (IntKind.i64.wrap (0 + 1) < 3) && ((bif decide (IntKind.i64.wrap (0 + 1) ≥ Int.ofNat lc) then true else decide (0 ≤ IntKind.i64.wrap (0 + 1)) && decide (IntKind.i64.wrap (0 + 1) < Int.ofNat lc) && true) && decide ((bif bif decide (8 ≤ 1) then true else decide (IntKind.i64.wrap (0 + 1) ≥ Int.ofNat lc) then 0 else (IntKind.i64.wrap (Int.ofNat (c (IntKind.i64.wrap (0 + 1)).toNat))).tmod 8) = r8v j0 j1 g0 g1 g2 (IntKind.i64.wrap (0 + 1)) 8) && (decide (IntKind.i64.wrap (IntKind.i64.wrap (0 + 1) + 1) < 3) && ((bif decide (IntKind.i64.wrap (IntKind.i64.wrap (0 + 1) + 1) ≥ Int.ofNat lc) then true else decide (0 ≤ IntKind.i64.wrap (IntKind.i64.wrap (0 + 1) + 1)) && decide (IntKind.i64.wrap (IntKind.i64.wrap (0 + 1) + 1) < Int.ofNat lc) && true) && decide ((bif bif decide (8 ≤ 1) then true else decide (IntKind.i64.wrap (IntKind.i64.wrap (0 + 1) + 1) ≥ Int.ofNat lc) then 0 else (IntKind.i64.wrap (Int.ofNat (c (IntKind.i64.wrap (IntKind.i64.wrap (0 + 1) + 1)).toNat))).tmod 8) = r8v j0 j1 g0 g1 g2 (IntKind.i64.wrap (IntKind.i64.wrap (0 + 1) + 1)) 8) && (!decide (IntKind.i64.wrap (IntKind.i64.wrap (IntKind.i64.wrap (0 + 1) + 1) + 1) < 3) && (inI (Int.ofNat 3) (Int.ofNat 1) (Int.ofNat 48) && allUpTo (gapOkAt 8 one QT 3 (gsF g0 g1 g2)) 3 && ((!bif decide ((bg (gapUAt 8 one QT 3 (gsF g0 g1 g2)) 3).fst < 0) then true else decide ((bg (gapUAt 8 one QT 3 (gsF g0 g1 g2)) 3).fst > 2)) && (pairOk (Int.ofNat 8) one (gw g0) one && (pAl 8 one (gw g0) QT 3 && (unevOk 3 (pX 8 one (gw g0) QT 3) (pY 8 one (gw g0) QT 3) (pZ 8 one (gw g0) QT 3) && ((!bif bif forder .f32 (gapU 8 one QT 3 (gw g0)) (bg (gapUAt 8 one QT 3 (gsF g0 g1 g2)) 3).2 == some Ordering.lt then true else bif decide (0 < (bg (gapUAt 8 one QT 3 (gsF g0 g1 g2)) 3).fst) then forder .f32 (gapU 8 one QT 3 (gw g0)) (bg (gapUAt 8 one QT 3 (gsF g0 g1 g2)) 3).2 == some Ordering.eq else false then true else bif Int.ofNat 0 == (bg (gapUAt 8 one QT 3 (gsF g0 g1 g2)) 3).1 then forder .f32 (gapU 8 one QT 3 (gw g0)) (bg (gapUAt 8 one QT 3 (gsF g0 g1 g2)) 3).2 != some Ordering.eq else false) && (decide (IntKind.i64.wrap (0 + 1) < 3) && (decide (0 ≤ IntKind.i64.wrap (0 + 1)) && decide (IntKind.i64.wrap (0 + 1) < Int.ofNat 3) && (pairOk (Int.ofNat 8) one (gw g1) one && (pAl 8 one (gw g1) QT 3 && (unevOk 3 (pX 8 one (gw g1) QT 3) (pY 8 one (gw g1) QT 3) (pZ 8 one (gw g1) QT 3) && ((!bif bif forder .f32 (gapU 8 one QT 3 (gw g1)) (bg (gapUAt 8 one QT 3 (gsF g0 g1 g2)) 3).2 == some Ordering.lt then true else bif decide (IntKind.i64.wrap (0 + 1) < (bg (gapUAt 8 one QT 3 (gsF g0 g1 g2)) 3).fst) then forder .f32 (gapU 8 one QT 3 (gw g1)) (bg (gapUAt 8 one QT 3 (gsF g0 g1 g2)) 3).2 == some Ordering.eq else false then true else bif IntKind.i64.wrap (Int.ofNat 0 + Int.ofNat 1) == (bg (gapUAt 8 one QT 3 (gsF g0 g1 g2)) 3).1 then forder .f32 (gapU 8 one QT 3 (gw g1)) (bg (gapUAt 8 one QT 3 (gsF g0 g1 g2)) 3).2 != some Ordering.eq else false) && (decide (IntKind.i64.wrap (IntKind.i64.wrap (0 + 1) + 1) < 3) && (decide (0 ≤ IntKind.i64.wrap (IntKind.i64.wrap (0 + 1) + 1)) && decide (IntKind.i64.wrap (IntKind.i64.wrap (0 + 1) + 1) < Int.ofNat 3) && (pairOk (Int.ofNat 8) one (gw g2) one && (pAl 8 one (gw g2) QT 3 && (unevOk 3 (pX 8 one (gw g2) QT 3) (pY 8 one (gw g2) QT 3) (pZ 8 one (gw g2) QT 3) && ((!bif bif forder .f32 (gapU 8 one QT 3 (gw g2)) (bg (gapUAt 8 one QT 3 (gsF g0 g1 g2)) 3).2 == some Ordering.lt then true else bif decide (IntKind.i64.wrap (IntKind.i64.wrap (0 + 1) + 1) < (bg (gapUAt 8 one QT 3 (gsF g0 g1 g2)) 3).fst) then forder .f32 (gapU 8 one QT 3 (gw g2)) (bg (gapUAt 8 one QT 3 (gsF g0 g1 g2)) 3).2 == some Ordering.eq else false then true else bif IntKind.i64.wrap (IntKind.i64.wrap (Int.ofNat 0 + Int.ofNat 1) + Int.ofNat 1) == (bg (gapUAt 8 one QT 3 (gsF g0 g1 g2)) 3).1 then forder .f32 (gapU 8 one QT 3 (gw g2)) (bg (gapUAt 8 one QT 3 (gsF g0 g1 g2)) 3).2 != some Ordering.eq else false) && (!decide (IntKind.i64.wrap (IntKind.i64.wrap (IntKind.i64.wrap (0 + 1) + 1) + 1) < 3) && true)))))))))))))))))))))))))))))))))))))))
theorem walk3' (la : Nat) (b : Nat → Nat) (lc : Nat) (c : Nat → Nat) (j0 j1 g0 g1 g2 : Nat) : autoW (cfgA7 j0 j1 g0 g1 g2) ow3 6 (fun _ => none) way3 Try.f3 [.ro 1 la (.gen fun i => .int .u8 (Int.ofNat (b i))), .ro 1 lc (.gen fun i => .int .u8 (Int.ofNat (c i)))] =
    some (C3 la b lc c j0 j1 g0 g1 g2, .bool true) := by kernel_rfl
end Go.Fw.E1

/-
  The law of even fields: what its places and gaps give.
-/
namespace Go.Fw.E1
open Go.Proofs
set_option maxRecDepth 100000 in
theorem ways_ok : allUpTo (fun j0 => allUpTo (fun j1 => vway one (toW j0) (cntZ j1) (2 + j1)) 5) 4 = true := by decide +kernel
set_option maxRecDepth 100000 in
theorem gaps_ok : allUpTo (fun g => vway (gw g) QT 3 3) 8 = true := by decide +kernel
set_option maxRecDepth 100000 in
theorem words_ok : allUpTo (fun j0 => allUpTo (fun j1 => allUpTo (fun k => Nat.beq (alP 0 0 (cntZ j1) k) 0) (2 + j1) && (Nat.beq (alP 0 (toW j0) (cntZ j1) 0) 0 && (Nat.beq (alP 0 (toW j0) (cntZ j1) (1 + j1)) (toW j0) && fin (toW j0)))) 5) 4 = true := by decide +kernel
set_option maxRecDepth 100000 in
theorem wordsG_ok : (allUpTo (fun k => Nat.beq (alP 0 0 3 k) 0) 3 && (fin QT && (fin one && (above one && (fin (hlf one) && fin (nhlf one)))))) = true := by decide +kernel
set_option maxRecDepth 100000 in
theorem gws_ok : allUpTo (fun g => above (gw g) && (fin (hlf (gw g)) && fin (nhlf (gw g)))) 8 = true := by decide +kernel
set_option maxRecDepth 100000 in
theorem rfin_ok : allUpTo (fun i => fin (r8x i) && fin (r8y i)) 8 = true := by decide +kernel
theorem fin0 : fin 0 = true := by decide +kernel
theorem band_t {a b : Bool} (h : band a b = true) : a = true ∧ b = true := by rw [band_eq, Bool.and_eq_true] at h; exact h
theorem pX_eq (g t : Nat) (cc : Int) (k : Nat) : pX 8 one g t cc k = bX g (alP 0 0 cc k) (alP 0 0 cc k) (alP 0 t cc k) := by kernel_rfl
theorem pY_eq (g t : Nat) (cc : Int) (k : Nat) : pY 8 one g t cc k = bY g (alP 0 0 cc k) (alP 0 0 cc k) (alP 0 t cc k) := by kernel_rfl
theorem pZ_eq (g t : Nat) (cc : Int) (k : Nat) : pZ 8 one g t cc k = bZ g (alP 0 0 cc k) (alP 0 0 cc k) (alP 0 t cc k) := by kernel_rfl
structure PlaceOk (g t : Nat) (cc : Int) (k : Nat) : Prop where
  r : fin (alP 0 t cc k) = true
  x : fin (pX 8 one g t cc k) = true
  y : fin (pY 8 one g t cc k) = true
  z : fin (pZ 8 one g t cc k) = true
  l : ∃ v, Fin .f32 (long (pX 8 one g t cc k) (pY 8 one g t cc k) (pZ 8 one g t cc k)) v
  u : ∃ v, Fin .f32 (unev (pX 8 one g t cc) (pY 8 one g t cc) (pZ 8 one g t cc) k) v
  n : (forder .f32 (unev (pX 8 one g t cc) (pY 8 one g t cc) (pZ 8 one g t cc) k) (can .f32 0) == some .lt) = false
theorem place_ok {g t n : Nat} {cc : Int} (hw : vway g t cc n = true) (hz : ∀ k, k < n → alP 0 0 cc k = 0) {k : Nat} (hk : k < n) : PlaceOk g t cc k := by
  have h := allUpTo_iff.1 hw k hk
  have hz0 := hz 0 (by omega)
  have hzk := hz k hk
  simp only [vplace, vchk] at h
  obtain ⟨h1, h⟩ := band_t h
  obtain ⟨h2, h⟩ := band_t h
  obtain ⟨h3, h⟩ := band_t h
  obtain ⟨h4, h⟩ := band_t h
  obtain ⟨h5, h⟩ := band_t h
  obtain ⟨h6, h7⟩ := band_t h
  have r0 := rep_alP (cc := cc) (k := 0) rep0 (rep_of .f32 t)
  have rk := rep_alP (cc := cc) (k := k) rep0 (rep_of .f32 t)
  have x0 := rep_bX (g := g) (rep_of .f32 (hlf g)) (rep_of .f32 (nhlf g)) rep0 rep0 r0
  rw [show bX g 0 0 (alP 0 t cc 0) = pX 8 one g t cc 0 by rw [pX_eq, hz0]] at x0
  have y0 := rep_bY (g := g) (rep_of .f32 (hlf g)) (rep_of .f32 (nhlf g)) rep0 rep0 r0
  rw [show bY g 0 0 (alP 0 t cc 0) = pY 8 one g t cc 0 by rw [pY_eq, hz0]] at y0
  have z0 := rep_bZ (g := g) (rep_of .f32 (hlf g)) (rep_of .f32 (nhlf g)) rep0 rep0 r0
  rw [show bZ g 0 0 (alP 0 t cc 0) = pZ 8 one g t cc 0 by rw [pZ_eq, hz0]] at z0
  have xk := rep_bX (g := g) (rep_of .f32 (hlf g)) (rep_of .f32 (nhlf g)) rep0 rep0 rk
  rw [show bX g 0 0 (alP 0 t cc k) = pX 8 one g t cc k by rw [pX_eq, hzk]] at xk
  have yk := rep_bY (g := g) (rep_of .f32 (hlf g)) (rep_of .f32 (nhlf g)) rep0 rep0 rk
  rw [show bY g 0 0 (alP 0 t cc k) = pY 8 one g t cc k by rw [pY_eq, hzk]] at yk
  have zk := rep_bZ (g := g) (rep_of .f32 (hlf g)) (rep_of .f32 (nhlf g)) rep0 rep0 rk
  rw [show bZ g 0 0 (alP 0 t cc k) = pZ 8 one g t cc k by rw [pZ_eq, hzk]] at zk
  have lk := rep_long xk yk zk
  have uk := rep_quo (rep_long (rep_sub xk x0) (rep_sub yk y0) (rep_sub zk z0)) (rep_long x0 y0 z0)
  exact ⟨rep_fin rk h1, rep_fin xk h2, rep_fin yk h3, rep_fin zk h4, ⟨_, rep_val lk h5⟩, ⟨_, rep_val uk h6⟩, rep_ge uk h7⟩

theorem fin_of {x : Nat} {v : Int} (h : Fin .f32 x v) : fin x = true := by
  have h2 : Fin .f32 (fop .sub .f32 x x) 0 := by
    have := Fin.sub h h
    rw [Int.sub_self, rI_0] at this
    exact this (limK_pos _)
  unfold fin
  rw [Fin.order h2 (show Fin .f32 (can .f32 0) 0 from repc0)]
  rfl
theorem ord_self {x : Nat} {v : Int} (h : Fin .f32 x v) : (forder .f32 x x == some .eq) = true := by
  rw [Fin.order h h]
  show (some (compareOfLessAndEq _ _) == some Ordering.eq) = true
  unfold compareOfLessAndEq
  rw [if_neg (Int.lt_irrefl _), if_pos rfl]; rfl
/-- The greatest one is one of them. -/
theorem bst_one {d : Nat → Nat} : ∀ {n : Nat}, 0 < n → (∀ k, k < n → ∃ v, Fin .f32 (d k) v) → ∃ i, i < n ∧ bst d (Int.negSucc 0) (can .f32 0) n = (Int.ofNat i, d i)
  | 0, h, _ => absurd h (by omega)
  | 1, _, hd => by
    obtain ⟨v, hv⟩ := hd 0 (by omega)
    refine ⟨0, by omega, ?_⟩
    have : better (d 0) (Int.negSucc 0) (can .f32 0) = true := by unfold better; rw [ord_self hv]; rfl
    show cond (better (d 0) (Int.negSucc 0) (can .f32 0)) _ _ = _
    rw [this]; rfl
  | n + 2, _, hd => by
    obtain ⟨i, hi, e⟩ := bst_one (d := d) (n := n + 1) (by omega) fun k hk => hd k (by omega)
    show ∃ i, i < n + 2 ∧ cond (better (d (n + 1)) (bst d (Int.negSucc 0) (can .f32 0) (n + 1)).1 (bst d (Int.negSucc 0) (can .f32 0) (n + 1)).2) (Int.ofNat (n + 1), d (n + 1)) (bst d (Int.negSucc 0) (can .f32 0) (n + 1)) = _
    cases better (d (n + 1)) (bst d (Int.negSucc 0) (can .f32 0) (n + 1)).1 (bst d (Int.negSucc 0) (can .f32 0) (n + 1)).2
    · exact ⟨i, by omega, e⟩
    · exact ⟨n + 1, by omega, rfl⟩
theorem bNo_no {d : Nat → Nat} {n : Nat} (h0 : 0 < n) (hd : ∀ k, k < n → ∃ v, Fin .f32 (d k) v) : bNo d n = false := by
  obtain ⟨i, hi, e⟩ := bst_one h0 hd
  obtain ⟨v, hv⟩ := hd i hi
  unfold bNo bstI bstM
  rw [e, fin_of hv, decide_eq_false (show ¬ (Int.ofNat i < 0) from Int.not_lt.2 (Int.natCast_nonneg _))]
  rfl
theorem inI_yes {n : Nat} (h1 : 1 ≤ n) (h2 : n ≤ 48) : inI (Int.ofNat n) 1 48 = true := by
  unfold inI
  rw [decide_eq_true (show Int.ofNat n ≥ 1 by simp; omega), decide_eq_true (show Int.ofNat n ≤ 48 by simp; omega)]; rfl

/-! ### Rings and wires -/
theorem rfin {i : Nat} (hi : i < 8) : fin (RX i) = true ∧ fin (RY i) = true := by
  have := allUpTo_iff.1 rfin_ok i hi
  rw [Bool.and_eq_true] at this
  rw [ring8x hi, ring8y hi]; exact this
theorem okW8 {c h : Nat} (hc : fin c = true) (hh : fin h = true) : okW 8 c RX RY (fun _ => h) = true := by
  unfold okW
  rw [decide_eq_true (show 2 ≤ 8 ∧ 8 ≤ 48 by omega), hc]
  rw [Bool.true_and, Bool.true_and]
  refine allUpTo_iff.2 fun i hi => ?_
  unfold vfinAt vfin
  rw [(rfin hi).1, (rfin hi).2, hh]; rfl
theorem fone : fin one = true := by have := wordsG_ok; simp only [Bool.and_eq_true] at this; exact this.2.2.1
theorem aone : above one = true := by have := wordsG_ok; simp only [Bool.and_eq_true] at this; exact this.2.2.2.1
theorem fQT : fin QT = true := by have := wordsG_ok; simp only [Bool.and_eq_true] at this; exact this.2.1
theorem hone : fin (hlf one) = true ∧ fin (nhlf one) = true := by have := wordsG_ok; simp only [Bool.and_eq_true] at this; exact this.2.2.2.2
theorem gwo {g : Nat} (hg : g < 8) : above (gw g) = true ∧ fin (hlf (gw g)) = true ∧ fin (nhlf (gw g)) = true := by
  have := allUpTo_iff.1 gws_ok g hg; simp only [Bool.and_eq_true] at this; exact this
theorem ringOk8 {h : Nat} (hh : fin h = true) : ringOk 8 one h one = true := by
  have h1 : okW 8 one RX RY (fun _ => h) = true := okW8 fone hh
  have h2 : okW (Int.toNat 8) one (ringX 8 one) (ringY 8 one) (fun _ => h) = true := h1
  unfold ringOk
  rw [h2, aone]; rfl
theorem pairOk8 {g : Nat} (ha : above g = true) (h1 : fin (hlf g) = true) (h2 : fin (nhlf g) = true) : pairOk 8 one g one = true := by
  unfold pairOk
  rw [ringOk8 h1, ringOk8 h2, ha]; rfl
theorem areW8 {g : Nat} (h1 : fin (hlf g) = true) (h2 : fin (nhlf g) = true) : areW 2 (fun _ => 8) (fun _ => RX) (fun _ => RY) (fun i _ => pairZ g i) (fun _ => can .f32 1065353216) = true := by
  unfold areW
  rw [decide_eq_true (show 2 ≤ 8 by omega)]
  rw [Bool.true_and]
  refine allUpTo_iff.2 fun i hi => ?_
  match i, hi with
  | 0, _ => exact okW8 fone h1
  | 1, _ => exact okW8 fone h2
theorem pAl8 {g t n : Nat} {cc : Int} (hcc : cc = Int.ofNat n) (hn : 1 < n) (hn2 : n ≤ 48) (h1 : fin (hlf g) = true) (h2 : fin (nhlf g) = true) (ht : fin t = true) (hz : ∀ k, k < n → alP 0 0 cc k = 0) (hp : ∀ k, k < n → PlaceOk g t cc k) : pAl 8 one g t cc = true := by
  have hA : areW 2 (fun _ => Int.toNat 8) (fun _ => ringX 8 one) (fun _ => ringY 8 one) (fun i _ => pairZ g i) (fun _ => can .f32 1065353216) = true := areW8 h1 h2
  have hB : allUpTo (alOkAt 2 (fun _ => Int.toNat 8) (fun _ => ringX 8 one) (fun _ => ringY 8 one) (fun i _ => pairZ g i) (fun _ => true) (fun _ => can .f32 1065353216) 0 0 0 0 0 t cc) cc.toNat = true := by
    refine allUpTo_iff.2 fun k hk => ?_
    have hk : k < n := by rw [hcc] at hk; exact hk
    have hp := hp k hk
    have hx : fin (faX (fun _ => Int.toNat 8) (fun _ => ringX 8 one) (fun _ => ringY 8 one) (fun i _ => pairZ g i) (fun _ => true) (fun _ => can .f32 1065353216) (alP 0 0 cc k) (alP 0 0 cc k) (alP 0 t cc k) 0 2) = true := hp.x
    have hy : fin (faY (fun _ => Int.toNat 8) (fun _ => ringX 8 one) (fun _ => ringY 8 one) (fun i _ => pairZ g i) (fun _ => true) (fun _ => can .f32 1065353216) (alP 0 0 cc k) (alP 0 0 cc k) (alP 0 t cc k) 0 2) = true := hp.y
    have hzz : fin (faZ (fun _ => Int.toNat 8) (fun _ => ringX 8 one) (fun _ => ringY 8 one) (fun i _ => pairZ g i) (fun _ => true) (fun _ => can .f32 1065353216) (alP 0 0 cc k) (alP 0 0 cc k) (alP 0 t cc k) 0 2) = true := hp.z
    unfold alOkAt fOkA vfin
    rw [hx, hy, hzz, hp.r, hz k hk, fin0]; rfl
  unfold pAl alOk
  rw [hA, hB]
  unfold vfin
  rw [fin0, ht, decide_eq_true (show cc > 1 by rw [hcc]; simp; omega), decide_eq_true (show cc ≤ 48 by rw [hcc]; simp; omega)]
  rfl
theorem unevOk8 {g t n : Nat} {cc : Int} (hn : 0 < n) (hn2 : n ≤ 48) (hp : ∀ k, k < n → PlaceOk g t cc k) : unevOk n (pX 8 one g t cc) (pY 8 one g t cc) (pZ 8 one g t cc) = true := by
  unfold unevOk
  rw [inI_yes hn hn2, bNo_no (d := unev (pX 8 one g t cc) (pY 8 one g t cc) (pZ 8 one g t cc)) hn fun k hk => (hp k hk).u]; rfl
theorem strOk8 {g t n : Nat} {cc : Int} (hn : 0 < n) (hn2 : n ≤ 48) (hp : ∀ k, k < n → PlaceOk g t cc k) : strOk n (pX 8 one g t cc) (pY 8 one g t cc) (pZ 8 one g t cc) = true := by
  unfold strOk
  rw [inI_yes hn hn2, bNo_no (d := longAt (pX 8 one g t cc) (pY 8 one g t cc) (pZ 8 one g t cc)) hn fun k hk => (hp k hk).l]; rfl
end Go.Fw.E1

/-
  The law of even fields.
-/
namespace Go.Fw.E1
open Go.Proofs
noncomputable def visz (v : V) : Bool := V.rec true (fun _ _ _ => false) false v
/-- The first field is no distance from itself. -/
noncomputable def vway0 (g t : Nat) (cc : Int) : Bool :=
  visz (vun (vA (vof .f32 (hlf g)) (vof .f32 (nhlf g)) V.zero V.zero (vpl V.zero (vof .f32 t) (vof .f32 (fofInt .f32 (Int.ofNat 0))) (vof .f32 (fofInt .f32 (IntKind.i64.wrap (cc - Int.ofNat 1))))))
    (vB (vof .f32 (hlf g)) (vof .f32 (nhlf g)) V.zero V.zero (vpl V.zero (vof .f32 t) (vof .f32 (fofInt .f32 (Int.ofNat 0))) (vof .f32 (fofInt .f32 (IntKind.i64.wrap (cc - Int.ofNat 1))))))
    (vC (vof .f32 (hlf g)) (vof .f32 (nhlf g)) V.zero V.zero (vpl V.zero (vof .f32 t) (vof .f32 (fofInt .f32 (Int.ofNat 0))) (vof .f32 (fofInt .f32 (IntKind.i64.wrap (cc - Int.ofNat 1))))))
    (vA (vof .f32 (hlf g)) (vof .f32 (nhlf g)) V.zero V.zero (vpl V.zero (vof .f32 t) (vof .f32 (fofInt .f32 (Int.ofNat 0))) (vof .f32 (fofInt .f32 (IntKind.i64.wrap (cc - Int.ofNat 1))))))
    (vB (vof .f32 (hlf g)) (vof .f32 (nhlf g)) V.zero V.zero (vpl V.zero (vof .f32 t) (vof .f32 (fofInt .f32 (Int.ofNat 0))) (vof .f32 (fofInt .f32 (IntKind.i64.wrap (cc - Int.ofNat 1))))))
    (vC (vof .f32 (hlf g)) (vof .f32 (nhlf g)) V.zero V.zero (vpl V.zero (vof .f32 t) (vof .f32 (fofInt .f32 (Int.ofNat 0))) (vof .f32 (fofInt .f32 (IntKind.i64.wrap (cc - Int.ofNat 1)))))))
set_option maxRecDepth 100000 in
theorem ways0_ok : allUpTo (fun j0 => allUpTo (fun j1 => vway0 one (toW j0) (cntZ j1)) 5) 4 = true := by decide +kernel
theorem alone0 {g t : Nat} {cc : Int} (hw : vway0 g t cc = true) (hz : alP 0 0 cc 0 = 0) : Fin .f32 (unev (pX 8 one g t cc) (pY 8 one g t cc) (pZ 8 one g t cc) 0) 0 := by
  have r0 := rep_alP (cc := cc) (k := 0) rep0 (rep_of .f32 t)
  have x0 := rep_bX (g := g) (rep_of .f32 (hlf g)) (rep_of .f32 (nhlf g)) rep0 rep0 r0
  rw [show bX g 0 0 (alP 0 t cc 0) = pX 8 one g t cc 0 by rw [pX_eq, hz]] at x0
  have y0 := rep_bY (g := g) (rep_of .f32 (hlf g)) (rep_of .f32 (nhlf g)) rep0 rep0 r0
  rw [show bY g 0 0 (alP 0 t cc 0) = pY 8 one g t cc 0 by rw [pY_eq, hz]] at y0
  have z0 := rep_bZ (g := g) (rep_of .f32 (hlf g)) (rep_of .f32 (nhlf g)) rep0 rep0 r0
  rw [show bZ g 0 0 (alP 0 t cc 0) = pZ 8 one g t cc 0 by rw [pZ_eq, hz]] at z0
  have uk := rep_quo (rep_long (rep_sub x0 x0) (rep_sub y0 y0) (rep_sub z0 z0)) (rep_long x0 y0 z0)
  unfold vway0 vun at hw
  revert hw uk
  generalize vquo _ _ = v
  intro hw uk
  cases v with
  | zero => exact uk
  | bad => cases hw
  | num b m s => cases hw
theorem cmp_lt {x y : Nat} {v w : Int} (hx : Fin .f32 x v) (hy : Fin .f32 y w) : (forder .f32 x y == some .lt) = decide (v < w) := by
  rw [Fin.order hx hy]
  show (some (compareOfLessAndEq _ _) == some Ordering.lt) = _
  unfold compareOfLessAndEq
  by_cases h : v < w
  · rw [if_pos h, decide_eq_true h]; rfl
  · rw [if_neg h, decide_eq_false h]; split <;> rfl
theorem cmp_eq {x y : Nat} {v w : Int} (hx : Fin .f32 x v) (hy : Fin .f32 y w) : (forder .f32 x y == some .eq) = decide (v = w) := by
  rw [Fin.order hx hy]
  show (some (compareOfLessAndEq _ _) == some Ordering.eq) = _
  unfold compareOfLessAndEq
  by_cases h : v < w
  · rw [if_pos h, decide_eq_false (by omega)]; rfl
  · rw [if_neg h]
    by_cases h2 : v = w
    · rw [if_pos h2, decide_eq_true h2]; rfl
    · rw [if_neg h2, decide_eq_false h2]; rfl
/-- The first least one. -/
theorem bg_min {u : Nat → Nat} {v : Nat → Int} : ∀ {n : Nat}, 0 < n → (∀ k, k < n → Fin .f32 (u k) (v k)) → ∃ i, i < n ∧ bg u n = (Int.ofNat i, u i) ∧ (∀ k, k < n → v i ≤ v k) ∧ ∀ k, k < i → v i < v k
  | 0, h, _ => absurd h (by omega)
  | 1, _, hd => ⟨0, by omega, rfl, fun k hk => by obtain rfl : k = 0 := by omega
                                                  exact Int.le_refl _, fun k hk => absurd hk (by omega)⟩
  | n + 2, _, hd => by
    obtain ⟨i, hi, e, h1, h2⟩ := bg_min (u := u) (v := v) (n := n + 1) (by omega) fun k hk => hd k (by omega)
    have hs : bg u (n + 2) = bif (bif decide ((bg u (n + 1)).1 < 0) then true else (forder .f32 (u (n + 1)) (bg u (n + 1)).2 == some .lt)) then (Int.ofNat (n + 1), u (n + 1)) else bg u (n + 1) := rfl
    rw [hs, e, decide_eq_false (show ¬ (Int.ofNat i < 0) from Int.not_lt.2 (Int.natCast_nonneg _)), cond_false, cmp_lt (hd (n + 1) (by omega)) (hd i (by omega))]
    by_cases h : v (n + 1) < v i
    · rw [decide_eq_true h]
      refine ⟨n + 1, by omega, rfl, fun k hk => ?_, fun k hk => ?_⟩
      · by_cases hk' : k = n + 1
        · subst hk'; exact Int.le_refl _
        · have := h1 k (by omega); omega
      · have := h1 k (by omega); omega
    · rw [decide_eq_false h]
      refine ⟨i, by omega, rfl, fun k hk => ?_, h2⟩
      by_cases hk' : k = n + 1
      · subst hk'; omega
      · exact h1 k (by omega)
theorem gapC_ok {u : Nat → Nat} {v : Nat → Int} {n k : Nat} (hk : k < n) (hu : ∀ k, k < n → Fin .f32 (u k) (v k)) :
    (!bif (bif (forder .f32 (u k) (bg u n).2 == some .lt) then true else bif decide (Int.ofNat k < (bg u n).1) then (forder .f32 (u k) (bg u n).2 == some .eq) else false) then true else bif (Int.ofNat k == (bg u n).1) then (forder .f32 (u k) (bg u n).2 != some .eq) else false) = true := by
  obtain ⟨i, hi, e, h1, h2⟩ := bg_min (by omega) hu
  have hn : ∀ o : Option Ordering, (o != some .eq) = !(o == some .eq) := fun o => rfl
  rw [e]
  simp only [hn, cmp_lt (hu k hk) (hu i hi), cmp_eq (hu k hk) (hu i hi)]
  have := h1 k hk
  rw [decide_eq_false (show ¬ v k < v i by omega), cond_false]
  by_cases hki : k < i
  · have h3 := h2 k hki
    rw [decide_eq_false (show ¬ v k = v i by omega)]
    have : (Int.ofNat k == Int.ofNat i) = false := beq_eq_false_iff_ne.2 fun h => by have := Int.ofNat.inj h; omega
    rw [this]
    cases decide (Int.ofNat k < Int.ofNat i) <;> rfl
  · rw [decide_eq_false (show ¬ Int.ofNat k < Int.ofNat i by simp; omega), cond_false, cond_false]
    by_cases h4 : k = i
    · subst h4; rw [decide_eq_true rfl]; cases (Int.ofNat k == Int.ofNat k) <;> rfl
    · have : (Int.ofNat k == Int.ofNat i) = false := beq_eq_false_iff_ne.2 fun h => h4 (Int.ofNat.inj h)
      rw [this]; rfl

/-! ### Bytes -/
/-- What a byte chooses. -/
def rbn (la : Nat) (b : Nat → Nat) (k n : Nat) : Nat := if la ≤ k then 0 else b k % n
theorem rbn_lt {la : Nat} {b : Nat → Nat} {k n : Nat} (hn : 0 < n) : rbn la b k n < n := by
  unfold rbn; split
  · exact hn
  · exact Nat.mod_lt _ hn
theorem rbn_eq {la : Nat} {b : Nat → Nat} {k n : Nat} (hn : 1 < n) (hb : b k < 256) : (bif bif decide ((n : Int) ≤ 1) then true else decide ((k : Int) ≥ Int.ofNat la) then 0 else (IntKind.i64.wrap (Int.ofNat (b k))).tmod n) = Int.ofNat (rbn la b k n) := by
  rw [decide_eq_false (show ¬ (n : Int) ≤ 1 by omega), cond_false]
  unfold rbn
  by_cases h : la ≤ k
  · rw [decide_eq_true (show (k : Int) ≥ Int.ofNat la by show ((la : Int) ≤ k); omega), if_pos h]; rfl
  · rw [decide_eq_false (show ¬ (k : Int) ≥ Int.ofNat la by show ¬ ((la : Int) ≤ k); omega), if_neg h, wrap_nat (by omega)]; rfl
theorem inb {la k : Nat} : (bif decide ((k : Int) ≥ Int.ofNat la) then true else decide ((k : Int) < Int.ofNat la) && true) = true := by
  by_cases h : la ≤ k
  · rw [decide_eq_true (show (k : Int) ≥ Int.ofNat la by show ((la : Int) ≤ k); omega)]; rfl
  · rw [decide_eq_false (show ¬ (k : Int) ≥ Int.ofNat la by show ¬ ((la : Int) ≤ k); omega), decide_eq_true (show (k : Int) < Int.ofNat la by show ((k : Int) < la); omega)]; rfl
theorem cntZ_eq {j : Nat} (h : j < 5) : cntZ j = Int.ofNat (2 + j) ∧ IntKind.i64.wrap (Int.ofNat (2 + j) - 1) = Int.ofNat (1 + j) := by
  match j, h with
  | 0, _ => exact ⟨by decide, by decide⟩
  | 1, _ => exact ⟨by decide, by decide⟩
  | 2, _ => exact ⟨by decide, by decide⟩
  | 3, _ => exact ⟨by decide, by decide⟩
  | 4, _ => exact ⟨by decide, by decide⟩
  | j + 5, h => exact absurd h (by omega)
end Go.Fw.E1

/-
  The law of even fields: joined.
-/
namespace Go.Fw.E1
open Go.Proofs
theorem fin_ex {x : Nat} (h : fin x = true) : ∃ v, Fin .f32 x v := by
  unfold fin at h
  rw [can0, num_sub] at h
  cases hn : num .f32 x
  · rw [hn] at h; cases h
  · obtain ⟨s, m, i, hr⟩ := num_iff.1 hn
    refine ⟨_, s, m, i, hr, ?_, rfl⟩
    rcases (read_number hr).2.1 with h1 | h1
    · omega
    · exact h1.2
theorem fin_self {x : Nat} (h : fin x = true) : (forder .f32 x x == some .eq) = true := by
  obtain ⟨v, hv⟩ := fin_ex h
  exact ord_self hv
theorem unevV_eq (n : Nat) (x y z : Nat → Nat) : unevV n x y z = (bst (unev x y z) (Int.negSucc 0) (can .f32 0) n).2 := by unfold unevV bstM; rfl
theorem strI_eq (n : Nat) (x y z : Nat → Nat) : strI n x y z = (bst (longAt x y z) (Int.negSucc 0) (can .f32 0) n).1 := by unfold strI bstI; rfl
theorem strM_eq (n : Nat) (x y z : Nat → Nat) : strM n x y z = (bst (longAt x y z) (Int.negSucc 0) (can .f32 0) n).2 := by unfold strM bstM; rfl
theorem bst_one2 {d : Nat → Nat} {n : Nat} (h0 : 0 < n) (hd : ∀ k, k < n → ∃ v, Fin .f32 (d k) v) : ∃ i, i < n ∧ (bst d (Int.negSucc 0) (can .f32 0) n).1 = Int.ofNat i ∧ (bst d (Int.negSucc 0) (can .f32 0) n).2 = d i := by
  obtain ⟨i, hi, e⟩ := bst_one h0 hd
  exact ⟨i, hi, by rw [e], by rw [e]⟩
theorem inbI (k : Int) (n : Nat) : (bif decide (k ≥ Int.ofNat n) then true else decide (k < Int.ofNat n)) = true := by
  by_cases h : k ≥ Int.ofNat n
  · rw [decide_eq_true h]; rfl
  · rw [decide_eq_false h, decide_eq_true (show k < Int.ofNat n by omega)]; rfl
theorem inbJ (k : Int) (n : Nat) (h0 : decide (0 ≤ k) = true) : (bif decide (k ≥ Int.ofNat n) then true else decide (0 ≤ k) && decide (k < Int.ofNat n)) = true := by
  by_cases h : k ≥ Int.ofNat n
  · rw [decide_eq_true h]; rfl
  · rw [decide_eq_false h, h0, decide_eq_true (show k < Int.ofNat n by omega)]; rfl
theorem dec_lo (n : Nat) : decide (0 ≤ Int.ofNat n) = true := decide_eq_true (Int.natCast_nonneg _)
theorem C3_ok {la lc : Nat} {b c : Nat → Nat} (hb : ∀ i, b i < 256) (hc : ∀ i, c i < 256) (hla : la ≤ 48) (hlc : lc ≤ 48) : C3 la b lc c (rbn la b 0 4) (rbn la b 1 5) (rbn lc c 0 8) (rbn lc c 1 8) (rbn lc c 2 8) = true := by
  have hj0 : rbn la b 0 4 < 4 := rbn_lt (by omega)
  have hj1 : rbn la b 1 5 < 5 := rbn_lt (by omega)
  have hg0 : rbn lc c 0 8 < 8 := rbn_lt (by omega)
  have hg1 : rbn lc c 1 8 < 8 := rbn_lt (by omega)
  have hg2 : rbn lc c 2 8 < 8 := rbn_lt (by omega)
  have E0 := rbn_eq (la := la) (b := b) (k := 0) (n := 4) (by omega) (hb 0)
  have E1 := rbn_eq (la := la) (b := b) (k := 1) (n := 5) (by omega) (hb 1)
  have E2 := rbn_eq (la := lc) (b := c) (k := 0) (n := 8) (by omega) (hc 0)
  have E3 := rbn_eq (la := lc) (b := c) (k := 1) (n := 8) (by omega) (hc 1)
  have E4 := rbn_eq (la := lc) (b := c) (k := 2) (n := 8) (by omega) (hc 2)
  generalize rbn la b 0 4 = j0 at *
  generalize rbn la b 1 5 = j1 at *
  generalize rbn lc c 0 8 = g0 at *
  generalize rbn lc c 1 8 = g1 at *
  generalize rbn lc c 2 8 = g2 at *
  obtain ⟨hcc, hm1⟩ := cntZ_eq hj1
  have hcc' : cntZ j1 = Int.ofNat (2 + j1) := hcc
  -- places along the way
  have w := allUpTo_iff.1 (allUpTo_iff.1 words_ok j0 hj0) j1 hj1
  simp only [Bool.and_eq_true] at w
  have hz : ∀ k, k < 2 + j1 → alP 0 0 (cntZ j1) k = 0 := fun k hk => Nat.eq_of_beq_eq_true (allUpTo_iff.1 w.1 k hk)
  have hr0 : alP 0 (toW j0) (cntZ j1) 0 = 0 := Nat.eq_of_beq_eq_true w.2.1
  have hrn : alP 0 (toW j0) (cntZ j1) (1 + j1) = toW j0 := Nat.eq_of_beq_eq_true w.2.2.1
  have hft : fin (toW j0) = true := w.2.2.2
  have hP : ∀ k, k < 2 + j1 → PlaceOk one (toW j0) (cntZ j1) k := fun k hk => place_ok (allUpTo_iff.1 (allUpTo_iff.1 ways_ok j0 hj0) j1 hj1) hz hk
  have hal := alone0 (allUpTo_iff.1 (allUpTo_iff.1 ways0_ok j0 hj0) j1 hj1) (hz 0 (by omega))
  have F1 := pairOk8 aone hone.1 hone.2
  have F2 := pAl8 hcc' (by omega) (by omega) hone.1 hone.2 hft hz hP
  have hx0 : pX 8 one one (toW j0) (cntZ j1) 0 = bX one 0 0 0 := by rw [pX_eq, hz 0 (by omega), hr0]
  have hy0 : pY 8 one one (toW j0) (cntZ j1) 0 = bY one 0 0 0 := by rw [pY_eq, hz 0 (by omega), hr0]
  have hz0 : pZ 8 one one (toW j0) (cntZ j1) 0 = bZ one 0 0 0 := by rw [pZ_eq, hz 0 (by omega), hr0]
  have hxn : pX 8 one one (toW j0) (cntZ j1) (1 + j1) = bX one 0 0 (toW j0) := by rw [pX_eq, hz _ (by omega), hrn]
  have hyn : pY 8 one one (toW j0) (cntZ j1) (1 + j1) = bY one 0 0 (toW j0) := by rw [pY_eq, hz _ (by omega), hrn]
  have hzn : pZ 8 one one (toW j0) (cntZ j1) (1 + j1) = bZ one 0 0 (toW j0) := by rw [pZ_eq, hz _ (by omega), hrn]
  have hflB : ∀ r, fin r = true → fin (bX one 0 0 r) = true → fin (bY one 0 0 r) = true → fin (bZ one 0 0 r) = true → flB one 0 0 r = true := fun r hr h1 h2 h3 => by
    have h1' : fin (faX (fun _ => 8) (fun _ => RX) (fun _ => RY) (fun i _ => pairZ one i) (fun _ => true) (fun _ => can .f32 1065353216) 0 0 r 0 2) = true := h1
    have h2' : fin (faY (fun _ => 8) (fun _ => RX) (fun _ => RY) (fun i _ => pairZ one i) (fun _ => true) (fun _ => can .f32 1065353216) 0 0 r 0 2) = true := h2
    have h3' : fin (faZ (fun _ => 8) (fun _ => RX) (fun _ => RY) (fun i _ => pairZ one i) (fun _ => true) (fun _ => can .f32 1065353216) 0 0 r 0 2) = true := h3
    unfold flB flOk fOkA vfin
    rw [areW8 hone.1 hone.2, fin0, hr, h1', h2', h3']; rfl
  have p0 := hP 0 (by omega)
  have pn := hP (1 + j1) (by omega)
  have F3 := hflB 0 fin0 (by rw [← hx0]; exact p0.x) (by rw [← hy0]; exact p0.y) (by rw [← hz0]; exact p0.z)
  have F4 := hflB (toW j0) hft (by rw [← hxn]; exact pn.x) (by rw [← hyn]; exact pn.y) (by rw [← hzn]; exact pn.z)
  have qx0 : (forder .f32 (pX 8 one one (toW j0) (cntZ j1) 0) (bX one 0 0 0) == some .eq) = true := by rw [hx0]; exact fin_self (by rw [← hx0]; exact p0.x)
  have qy0 : (forder .f32 (pY 8 one one (toW j0) (cntZ j1) 0) (bY one 0 0 0) == some .eq) = true := by rw [hy0]; exact fin_self (by rw [← hy0]; exact p0.y)
  have qz0 : (forder .f32 (pZ 8 one one (toW j0) (cntZ j1) 0) (bZ one 0 0 0) == some .eq) = true := by rw [hz0]; exact fin_self (by rw [← hz0]; exact p0.z)
  have qxn : (forder .f32 (pX 8 one one (toW j0) (cntZ j1) (1 + j1)) (bX one 0 0 (toW j0)) == some .eq) = true := by rw [hxn]; exact fin_self (by rw [← hxn]; exact pn.x)
  have qyn : (forder .f32 (pY 8 one one (toW j0) (cntZ j1) (1 + j1)) (bY one 0 0 (toW j0)) == some .eq) = true := by rw [hyn]; exact fin_self (by rw [← hyn]; exact pn.y)
  have qzn : (forder .f32 (pZ 8 one one (toW j0) (cntZ j1) (1 + j1)) (bZ one 0 0 (toW j0)) == some .eq) = true := by rw [hzn]; exact fin_self (by rw [← hzn]; exact pn.z)
  have U1 := unevOk8 (n := 1) (by omega) (by omega) fun k hk => hP k (by omega)
  have Un := unevOk8 (n := 2 + j1) (by omega) (by omega) hP
  have Sn := strOk8 (n := 2 + j1) (by omega) (by omega) hP
  -- the most uneven, the strongest
  have u1 : unevV 1 (pX 8 one one (toW j0) (cntZ j1)) (pY 8 one one (toW j0) (cntZ j1)) (pZ 8 one one (toW j0) (cntZ j1)) = unev (pX 8 one one (toW j0) (cntZ j1)) (pY 8 one one (toW j0) (cntZ j1)) (pZ 8 one one (toW j0) (cntZ j1)) 0 := by
    obtain ⟨i, hi, -, e⟩ := bst_one2 (d := unev (pX 8 one one (toW j0) (cntZ j1)) (pY 8 one one (toW j0) (cntZ j1)) (pZ 8 one one (toW j0) (cntZ j1))) (n := 1) (by omega) fun k hk => (hP k (by omega)).u
    obtain rfl : i = 0 := by omega
    rw [unevV_eq, e]
  have hn : ∀ o : Option Ordering, (o != some .eq) = !(o == some .eq) := fun o => rfl
  have K1 : (forder .f32 (unevV 1 (pX 8 one one (toW j0) (cntZ j1)) (pY 8 one one (toW j0) (cntZ j1)) (pZ 8 one one (toW j0) (cntZ j1))) (can .f32 0) != some .eq) = false := by
    rw [hn, u1, cmp_eq hal (show Fin .f32 (can .f32 0) 0 from repc0)]; rfl
  have K2 : (forder .f32 (unevV (2 + j1) (pX 8 one one (toW j0) (cntZ j1)) (pY 8 one one (toW j0) (cntZ j1)) (pZ 8 one one (toW j0) (cntZ j1))) (can .f32 0) == some .lt) = false := by
    obtain ⟨i, hi, -, e⟩ := bst_one2 (d := unev (pX 8 one one (toW j0) (cntZ j1)) (pY 8 one one (toW j0) (cntZ j1)) (pZ 8 one one (toW j0) (cntZ j1))) (n := 2 + j1) (by omega) fun k hk => (hP k hk).u
    rw [unevV_eq, e]
    exact (hP i hi).n
  obtain ⟨i, hi, es, et⟩ := bst_one2 (d := longAt (pX 8 one one (toW j0) (cntZ j1)) (pY 8 one one (toW j0) (cntZ j1)) (pZ 8 one one (toW j0) (cntZ j1))) (n := 2 + j1) (by omega) fun k hk => (hP k hk).l
  have eI : strI (2 + j1) (pX 8 one one (toW j0) (cntZ j1)) (pY 8 one one (toW j0) (cntZ j1)) (pZ 8 one one (toW j0) (cntZ j1)) = Int.ofNat i := by rw [strI_eq, es]
  have eM : strM (2 + j1) (pX 8 one one (toW j0) (cntZ j1)) (pY 8 one one (toW j0) (cntZ j1)) (pZ 8 one one (toW j0) (cntZ j1)) = long (pX 8 one one (toW j0) (cntZ j1) i) (pY 8 one one (toW j0) (cntZ j1) i) (pZ 8 one one (toW j0) (cntZ j1) i) := by rw [strM_eq, et]; rfl
  have K3 : (forder .f32 (long (pX 8 one one (toW j0) (cntZ j1) i) (pY 8 one one (toW j0) (cntZ j1) i) (pZ 8 one one (toW j0) (cntZ j1) i)) (long (pX 8 one one (toW j0) (cntZ j1) i) (pY 8 one one (toW j0) (cntZ j1) i) (pZ 8 one one (toW j0) (cntZ j1) i)) != some .eq) = false := by
    obtain ⟨v, hv⟩ := (hP i hi).l
    rw [hn, ord_self hv]; rfl
  have D1 : decide (Int.ofNat i < 0) = false := decide_eq_false (Int.not_lt.2 (Int.natCast_nonneg _))
  have D2 : decide (Int.ofNat i ≥ Int.ofNat (2 + j1)) = false := decide_eq_false (by simp; omega)
  have D3 : decide (Int.ofNat i < Int.ofNat (2 + j1)) = true := decide_eq_true (by simp; omega)
  have nn : (Int.ofNat (2 + j1) != Int.ofNat (2 + j1)) = false := bne_self_eq_false _
  -- gaps
  have zG := wordsG_ok
  simp only [Bool.and_eq_true] at zG
  have hzG : ∀ k, k < 3 → alP 0 0 3 k = 0 := fun k hk => Nat.eq_of_beq_eq_true (allUpTo_iff.1 zG.1 k hk)
  have hPG : ∀ g, g < 8 → ∀ k, k < 3 → PlaceOk (gw g) QT 3 k := fun g hg k hk => place_ok (allUpTo_iff.1 gaps_ok g hg) hzG hk
  have G1 : ∀ g, g < 8 → pairOk 8 one (gw g) one = true := fun g hg => pairOk8 (gwo hg).1 (gwo hg).2.1 (gwo hg).2.2
  have G2 : ∀ g, g < 8 → pAl 8 one (gw g) QT 3 = true := fun g hg => pAl8 (n := 3) rfl (by omega) (by omega) (gwo hg).2.1 (gwo hg).2.2 fQT hzG (hPG g hg)
  have G3 : ∀ g, g < 8 → unevOk 3 (pX 8 one (gw g) QT 3) (pY 8 one (gw g) QT 3) (pZ 8 one (gw g) QT 3) = true := fun g hg => unevOk8 (n := 3) (by omega) (by omega) (hPG g hg)
  have G4 : ∀ g, g < 8 → gapOk 8 one QT 3 (gw g) = true := fun g hg => by
    have h3 : unevOk (Int.toNat 3) (pX 8 one (gw g) QT 3) (pY 8 one (gw g) QT 3) (pZ 8 one (gw g) QT 3) = true := G3 g hg
    have h1 : pairOk 8 one (gw g) (can .f32 1065353216) = true := G1 g hg
    unfold gapOk
    rw [h1, G2 g hg, h3]; rfl
  have G5 : ∀ g, g < 8 → ∃ v, Fin .f32 (gapU 8 one QT 3 (gw g)) v := fun g hg => by
    obtain ⟨i, hi, -, e⟩ := bst_one2 (d := unev (pX 8 one (gw g) QT 3) (pY 8 one (gw g) QT 3) (pZ 8 one (gw g) QT 3)) (n := 3) (by omega) fun k hk => (hPG g hg k hk).u
    have e' : gapU 8 one QT 3 (gw g) = unevV 3 (pX 8 one (gw g) QT 3) (pY 8 one (gw g) QT 3) (pZ 8 one (gw g) QT 3) := rfl
    rw [e', unevV_eq, e]
    exact (hPG g hg i hi).u
  have G6 : allUpTo (gapOkAt 8 one QT 3 (gsF g0 g1 g2)) 3 = true := allUpTo_iff.2 fun k hk => by
    match k, hk with
    | 0, _ => exact G4 g0 hg0
    | 1, _ => exact G4 g1 hg1
    | 2, _ => exact G4 g2 hg2
  obtain ⟨v0, hv0⟩ := G5 g0 hg0
  obtain ⟨v1, hv1⟩ := G5 g1 hg1
  obtain ⟨v2, hv2⟩ := G5 g2 hg2
  have hV : ∀ k, k < 3 → Fin .f32 (gapUAt 8 one QT 3 (gsF g0 g1 g2) k) ((fun k => match k with | 0 => v0 | 1 => v1 | _ => v2 : Nat → Int) k) := fun k hk => by
    match k, hk with
    | 0, _ => exact hv0
    | 1, _ => exact hv1
    | 2, _ => exact hv2
  have C0 := gapC_ok (k := 0) (by omega) hV
  have C1 := gapC_ok (k := 1) (by omega) hV
  have C2 := gapC_ok (k := 2) (by omega) hV
  obtain ⟨ib, hib, eb, -, -⟩ := bg_min (by omega) hV
  have BB : (!bif decide ((bg (gapUAt 8 one QT 3 (gsF g0 g1 g2)) 3).1 < 0) then true else decide ((bg (gapUAt 8 one QT 3 (gsF g0 g1 g2)) 3).1 > 2)) = true := by
    rw [eb]
    show (!bif decide (Int.ofNat ib < 0) then true else decide (Int.ofNat ib > 2)) = true
    rw [decide_eq_false (show ¬ Int.ofNat ib < 0 from Int.not_lt.2 (Int.natCast_nonneg _)), decide_eq_false (show ¬ Int.ofNat ib > 2 by simp; omega)]; rfl
  have L0 : (!bif decide (Int.ofNat la > 48) then true else decide (Int.ofNat lc > 48)) = true := by
    rw [decide_eq_false (show ¬ Int.ofNat la > 48 by simp; omega), decide_eq_false (show ¬ Int.ofNat lc > 48 by simp; omega)]; rfl
  generalize hX : pX 8 one one (toW j0) (cntZ j1) = X at *
  generalize hY : pY 8 one one (toW j0) (cntZ j1) = Y at *
  generalize hZ : pZ 8 one one (toW j0) (cntZ j1) = Z at *
  have key : C3 la b lc c j0 j1 g0 g1 g2 = true := by
    unfold C3
    rw [hX, hY, hZ]
    rw [hcc'] at F2 ⊢
    have tn : (Int.ofNat (2 + j1)).toNat = 2 + j1 := rfl
    have tn1 : (Int.ofNat (1 + j1)).toNat = 1 + j1 := rfl
    have hm2 : IntKind.i64.wrap (Int.ofNat (2 + j1) - Int.ofNat 1) = Int.ofNat (1 + j1) := hm1
    have ti : (Int.ofNat i).toNat = i := rfl
    have d12 : decide (Int.ofNat (1 + j1) < Int.ofNat (2 + j1)) = true := decide_eq_true (by simp)
    have d02 : decide (0 < Int.ofNat (2 + j1)) = true := decide_eq_true (by simp; omega)
    have d1n : decide (1 ≤ Int.ofNat (2 + j1)) = true := decide_eq_true (by simp; omega)
    simp only [tn, tn1, hm1, hm2, ti, eI, eM, nn, qx0, qy0, qz0, qxn, qyn, qzn, K1, K2, K3, D1, D2, D3, d12, d02, d1n, dec_lo, Bool.and_true, Bool.true_and, Bool.true_or, Bool.not_true, Bool.not_false, cond_true, cond_false]
    simp only [Bool.and_eq_true]
    repeat' apply And.intro
    all_goals first
      | with_reducible exact L0
      | with_reducible exact F1
      | with_reducible exact F2
      | with_reducible exact F3
      | with_reducible exact F4
      | with_reducible exact U1
      | with_reducible exact Un
      | with_reducible exact Sn
      | with_reducible exact inb
      | with_reducible exact G6
      | with_reducible exact BB
      | with_reducible exact G1 _ (by assumption)
      | with_reducible exact G2 _ (by assumption)
      | with_reducible exact G3 _ (by assumption)
      | with_reducible exact decide_eq_true E0
      | with_reducible exact decide_eq_true E1
      | with_reducible exact decide_eq_true E2
      | with_reducible exact decide_eq_true E3
      | with_reducible exact decide_eq_true E4
      | with_reducible exact C0
      | with_reducible exact C1
      | with_reducible exact C2
      | with_reducible rfl
      | with_reducible exact ble_of (by omega)
      | skip
    · exact Eq.trans (by kernel_rfl) F1
    · exact inbI 0 la
    · exact Eq.trans (by kernel_rfl) (decide_eq_true E0)
    · exact inbI 1 la
    · exact Eq.trans (by kernel_rfl) (decide_eq_true E1)
    · kernel_rfl
    · kernel_rfl
    · exact inbI 0 lc
    · exact Eq.trans (by kernel_rfl) (decide_eq_true E2)
    · kernel_rfl
    · exact inbJ _ lc (by kernel_rfl)
    · exact Eq.trans (by kernel_rfl) (decide_eq_true E3)
    · kernel_rfl
    · exact inbJ _ lc (by kernel_rfl)
    · exact Eq.trans (by kernel_rfl) (decide_eq_true E4)
    · kernel_rfl
    · kernel_rfl
    · exact Eq.trans (by kernel_rfl) (G1 g0 hg0)
    · exact Eq.trans (by kernel_rfl) C0
    · kernel_rfl
    · kernel_rfl
    · kernel_rfl
    · exact Eq.trans (by kernel_rfl) (G1 g1 hg1)
    · exact Eq.trans (by kernel_rfl) C1
    · kernel_rfl
    · kernel_rfl
    · kernel_rfl
    · exact Eq.trans (by kernel_rfl) (G1 g2 hg2)
    · exact Eq.trans (by kernel_rfl) C2
    · kernel_rfl
  exact key
end Go.Fw.E1

/-
  The law of even fields: its answer; bytes that come in.
-/
namespace Go.Fw.E1
open Go.Proofs
open Go.RowKit (Below)
theorem law3 {la lc : Nat} {b c : Nat → Nat} (hb : ∀ i, b i < 256) (hc : ∀ i, c i < 256) : PureCall Try.prog 3 [.ro 1 la (.gen fun i => .int .u8 (Int.ofNat (b i))), .ro 1 lc (.gen fun i => .int .u8 (Int.ofNat (c i)))] (.bool true) := by
  by_cases h : la ≤ 48 ∧ lc ≤ 48
  · exact autoW_ok (cfgA7_ok _ _ _ _ _) Try.func3 (by kernel_rfl) (lp_none _) (walk3' la b lc c _ _ _ _ _) (C3_ok hb hc h.1 h.2)
  · refine autoW_ok cfgA6_ok Try.func3 (by kernel_rfl) (lp_none _) (long3 la b lc c) ?_
    by_cases h1 : la ≤ 48
    · rw [decide_eq_false (show ¬ Int.ofNat la > 48 by simp; omega), decide_eq_true (show Int.ofNat lc > 48 by simp; omega)]; rfl
    · rw [decide_eq_true (show Int.ofNat la > 48 by simp; omega)]; rfl
theorem own : ownKnob Try.prog.godebug = none := by kernel_rfl
theorem laidOut : laidOutB Try.prog = true := by kernel_rfl
section
variable {H : Type} {enc : TypeId × Value → H} {w : World} {spare : Nat → Bool} {held : Bool}
set_option maxRecDepth 100000 in
theorem in_bytesA {r : Reach} {base : Nat} {v : Value} {x : DataW H × List MemPlace} (hv : Value.okWide Try.prog w r base 22 v) (h : ∃ fuel, DataW.trod enc Try.prog w 0 spare held fuel 22 v.cells.toList = some x) :
    ∃ (n : Nat) (b : Nat → Nat), (∀ i, b i < 256) ∧ RelD w (fun b => b < w.heap.size) v (.ro 1 n (.gen fun i => .int .u8 (Int.ofNat (b i)))) := by
  obtain ⟨fuel, h⟩ := h
  obtain ⟨a, l, c, rfl⟩ := Go.WideShapes.okWide_slice Try.underlying22 hv
  obtain ⟨u, n, b, e, hb, hr⟩ := in_bytes Try.underlying22 Try.underlying5 (by kernel_rfl) h
  have e' : [Value.slice a l c] = [u] := e
  simp only [List.cons.injEq, and_true] at e'
  subst e'
  exact ⟨n, b, hb, hr⟩
end
end Go.Fw.E1
