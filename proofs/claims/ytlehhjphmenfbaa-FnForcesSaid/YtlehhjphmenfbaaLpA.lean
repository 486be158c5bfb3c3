/-
  The seat's tables.
-/
import Derived.Test.YtlehhjphmenfbaaFwC
import Derived.Test.YtlehhjphmenfbaaChecked
import Derived.Test.YtlehhjphmenfbaaFwD

namespace Go.Fw.E1
open Go.Proofs
def types : List Nat := [27, 49, 4, 3, 2, 126, 147, 5, 22, 31, 44, 30, 24, 99, 102, 116, 119, 41, 128]
def tab : List (Nat × TI) :=
  [(27, { bytes := 4, zero := [A.flt .f32 0], fk := some .f32 }),
    (49, { bytes := 8, zero := [A.flt .f64 0], fk := some .f64 }),
    (4, { bytes := 1, zero := [A.bool false], isBool := true }),
    (3, { bytes := 8, zero := [A.int .i64 (Int.ofNat 0)], ik := some IntKind.i64 }),
    (2, { bytes := 8, zero := [A.int .i64 (Int.ofNat 0)], ik := some IntKind.i64 }),
    (126, { bytes := 8, zero := [A.int IntKind.u64 (Int.ofNat 0)], ik := some IntKind.u64 }),
    (147, { bytes := 4, zero := [A.int IntKind.u32 (Int.ofNat 0)], ik := some IntKind.u32 }),
    (5, { bytes := 1, zero := [A.int .u8 (Int.ofNat 0)], ik := some IntKind.u8 }),
    (22, { bytes := 24, zero := [A.emp], elem := some 5 }),
    (31, { bytes := 24, zero := [A.emp], elem := some 30 }),
    (44, { agg := true, size := 3, bytes := 32, zero := [A.emp, A.bool false, A.flt .f32 0], fields := [(0, 1), (1, 1), (2, 1)] }),
    (30, { agg := true, size := 3, bytes := 12, zero := [A.flt .f32 0, A.flt .f32 0, A.flt .f32 0], fields := [(0, 1), (1, 1), (2, 1)], v3 := true }),
    (24, { bytes := 24, zero := [A.emp], elem := some 44 }),
    (99, { bytes := 24, zero := [A.emp], elem := some 102 }),
    (102, { agg := true, size := 6, bytes := 24, zero := [A.flt .f32 0, A.flt .f32 0, A.flt .f32 0, A.flt .f32 0, A.flt .f32 0, A.flt .f32 0], fields := [(0, 3), (3, 3)] }),
    (116, { bytes := 24, zero := [A.emp], elem := some 119 }),
    (119, { agg := true, size := 6, bytes := 24, zero := [A.flt .f32 0, A.flt .f32 0, A.flt .f32 0, A.flt .f32 0, A.flt .f32 0, A.flt .f32 0], fields := [(0, 3), (3, 3)] }),
    (41, { bytes := 24, zero := [A.emp], elem := some 27 }),
    (128, { agg := true, size := 3, bytes := 40, zero := [A.emp, A.int .i64 (Int.ofNat 0), A.int IntKind.u64 (Int.ofNat 0)], fields := [(0, 1), (1, 1), (2, 1)] })]
theorem tab_eq : tabOf Try.prog types = some tab := by kernel_rfl
theorem mixed : Try.prog.follows .mixedOrders = true := by kernel_rfl
end Go.Fw.E1

/-
  Numbers, conditions, searches: what the seat's texts share.
-/
namespace Go.Fw.E1
open Go.Proofs
theorem wrap_small {x : Int} (h0 : 0 ≤ x) (h : x ≤ 4611686018427387904) : IntKind.i64.wrap x = x := by
  simp [IntKind.wrap, IntKind.bits, IntKind.signed]
  omega
def xts : List (Nat × Ext) := [(121, .sqrt), (124, .bits64), (123, .from64)]
theorem xts_ok (f : Nat) (e : Ext) (h : (f, e) ∈ xts) : ∃ fn, XtOK Try.prog f e fn := by
  simp only [xts, List.mem_cons, Prod.mk.injEq, List.not_mem_nil, or_false] at h
  rcases h with ⟨rfl, rfl⟩ | ⟨rfl, rfl⟩ | ⟨rfl, rfl⟩
  · exact ⟨_, Try.func121, by kernel_rfl, by kernel_rfl, by kernel_rfl, by kernel_rfl⟩
  · exact ⟨_, Try.func124, by kernel_rfl, by kernel_rfl, by kernel_rfl, by kernel_rfl⟩
  · exact ⟨_, Try.func123, by kernel_rfl, by kernel_rfl, by kernel_rfl, by kernel_rfl⟩
theorem no_fts (P : Program) (f : Nat) (fn : Func) (h : (f, fn) ∈ ([] : List (Nat × Func))) : P.funcs[f]? = some fn ∧ (fn.name == "runtime.NumGoroutine") = false := by cases h
noncomputable def env0 : List (Nat × (List A → Option (Bool × A))) := []
theorem env0_ok : EnvOK Try.prog (look env0) := env_nil
noncomputable def cfg0 : Cfg := mkCfg tab [] xts (look env0)
theorem cfg0_ok : CfgOK Try.prog cfg0 := cfg_ok tab_eq (no_fts _) xts_ok env_nil mixed
theorem of_auto {cfg : Cfg} (hc : CfgOK Try.prog cfg) {f : Nat} {fn : Func} {lp : Nat → Option (St → T)} (hlp : LpOK Try.prog lp (bodyOf fn)) (hf : Try.prog.funcs[f]? = some fn) (hb : fn.body.isSome = true) (hn : (fn.name == "runtime.NumGoroutine") = false)
    {s : List A → Option (Bool × A)} (h : ∀ ds c r, s ds = some (c, r) → c = true → ∃ c', autoLp cfg lp fn ds = some (c', r) ∧ c' = true) : EnvAt Try.prog f s :=
  ⟨⟨fn, hf, hb, hn⟩, fun ds c r hs hct => by
    obtain ⟨c', h1, h2⟩ := h ds c r hs hct
    exact (autoLp_at hc hlp hf hb hn).2 ds c' r h1 h2⟩
theorem of_autoS {cfg : Cfg} (hc : CfgOK Try.prog cfg) {f : Nat} {fn : Func} {lp : Nat → Option (St → T)} {sel : Bool} (hlp : LpOK Try.prog lp (bodyOf fn)) (hf : Try.prog.funcs[f]? = some fn) (hb : fn.body.isSome = true) (hn : (fn.name == "runtime.NumGoroutine") = false)
    {s : List A → Option (Bool × A)} (h : ∀ ds c r, s ds = some (c, r) → c = true → ∃ c', autoS cfg lp sel fn ds = some (c', r) ∧ c' = true) : EnvAt Try.prog f s :=
  ⟨⟨fn, hf, hb, hn⟩, fun ds c r hs hct => by
    obtain ⟨c', h1, h2⟩ := h ds c r hs hct
    exact (autoS_at hc hlp hf hb hn).2 ds c' r h1 h2⟩
theorem auto_fit {x : Option (Bool × A)} {c' : Bool} {r' r : A} (h : x = some (c', r')) (h1 : r' = r) (h2 : c' = true) : ∃ c', x = some (c', r) ∧ c' = true := ⟨c', by rw [h, h1], h2⟩
theorem condT {b : Bool} {X Y : Prop} (h : b = true) (hx : X) : cond b X Y := by subst h; exact hx
theorem condE {b : Bool} {X Y : Prop} (h : b = false) (hy : Y) : cond b X Y := by subst h; exact hy
theorem wrap_succ {k : Nat} (h : k ≤ 4611686018427387000) : IntKind.i64.wrap (Int.ofNat k + Int.ofNat 1) = Int.ofNat (k + 1) := wrap_small (by simp; omega) (by simp; omega)
theorem wrap_nat {x : Nat} (h : x ≤ 4611686018427387000) : IntKind.i64.wrap (Int.ofNat x) = Int.ofNat x := wrap_small (by simp) (by simp; omega)
theorem lt_dec {k m : Nat} (h : k < m) : decide (Int.ofNat k < Int.ofNat m) = true := by simp; omega
theorem ge_dec {k m : Nat} (h : m ≤ k) : decide (Int.ofNat k < Int.ofNat m) = false := by simp; omega
theorem dec0 (x : Nat) : decide ((0 : Int) ≤ Int.ofNat x) = true := by simp
theorem ble_of {n m : Nat} (h : n ≤ m) : n.ble m = true := Nat.ble_eq_true_of_le h
def nan (x : Nat) : Bool := forder .f32 x x != some .eq
def fin (x : Nat) : Bool := forder .f32 (fop .sub .f32 x x) (can .f32 0) == some .eq
def lt0 (x : Nat) : Bool := forder .f32 x (can .f32 0) == some .lt
def gt0 (x : Nat) : Bool := forder .f32 x (can .f32 0) == some .gt
def ge0 (x : Nat) : Bool := forder .f32 x (can .f32 0) == some .gt || forder .f32 x (can .f32 0) == some .eq
def least (x : Nat) : Bool := bif fin x then ge0 x else false
def above (x : Nat) : Bool := bif fin x then gt0 x else false
def root32 (x : Nat) : Nat := fcvt .f64 .f32 (fsqrt (fcvt .f32 .f64 x))
def inn (x1 x2 x3 y1 y2 y3 : Nat) : Nat := fop .add .f32 (fop .add .f32 (fop .mul .f32 x1 y1) (fop .mul .f32 x2 y2)) (fop .mul .f32 x3 y3)
def long (x y z : Nat) : Nat := root32 (inn x y z x y z)
def vfin (x y z : Nat) : Bool := bif bif fin x then fin y else false then fin z else false
end Go.Fw.E1

/-
  The leaves: functions of numbers and vectors.
-/
namespace Go.Fw.E1
open Go.Proofs
theorem auto79 (x : Nat) : autoLp cfg0 (fun _ => none) Try.f73 [.flt .f32 x] =
    some (true, A.bool (forder .f32 (fop .sub .f32 x x) (can .f32 0) == some Ordering.eq)) := by kernel_rfl
noncomputable def s79 : List A → Option (Bool × A)
  | [.flt .f32 x] => some (true, .bool (fin x))
  | _ => none
theorem s79_at : EnvAt Try.prog 73 s79 := of_auto cfg0_ok (lp_none _) Try.func73 (by kernel_rfl) (by kernel_rfl) fun ds cc rr h hc => by
  unfold s79 at h
  split at h
  · rename_i x
    simp only [Option.some.injEq, Prod.mk.injEq] at h
    obtain ⟨rfl, rfl⟩ := h
    refine auto_fit (auto79 x) ?_ ?_
    · rfl
    · rfl
  · cases h
theorem auto136 (x : Nat) : autoLp cfg0 (fun _ => none) Try.f110 [.flt .f64 x] =
    some (true, A.flt .f64 (fsqrt x)) := by kernel_rfl
noncomputable def s136 : List A → Option (Bool × A)
  | [.flt .f64 x] => some (true, .flt .f64 (fsqrt x))
  | _ => none
theorem s136_at : EnvAt Try.prog 110 s136 := of_auto cfg0_ok (lp_none _) Try.func110 (by kernel_rfl) (by kernel_rfl) fun ds cc rr h hc => by
  unfold s136 at h
  split at h
  · rename_i x
    simp only [Option.some.injEq, Prod.mk.injEq] at h
    obtain ⟨rfl, rfl⟩ := h
    refine auto_fit (auto136 x) ?_ ?_
    · rfl
    · rfl
  · cases h
theorem auto71 (a b c x y z : Nat) : autoLp cfg0 (fun _ => none) Try.f42 [.agg [.flt .f32 a, .flt .f32 b, .flt .f32 c], .agg [.flt .f32 x, .flt .f32 y, .flt .f32 z]] =
    some (true, A.agg [A.flt .f32 (fop .sub .f32 a x), A.flt .f32 (fop .sub .f32 b y), A.flt .f32 (fop .sub .f32 c z)]) := by kernel_rfl
noncomputable def s71 : List A → Option (Bool × A)
  | [.agg [.flt .f32 a, .flt .f32 b, .flt .f32 c], .agg [.flt .f32 x, .flt .f32 y, .flt .f32 z]] => some (true, .agg [.flt .f32 (fop .sub .f32 a x), .flt .f32 (fop .sub .f32 b y), .flt .f32 (fop .sub .f32 c z)])
  | _ => none
theorem s71_at : EnvAt Try.prog 42 s71 := of_auto cfg0_ok (lp_none _) Try.func42 (by kernel_rfl) (by kernel_rfl) fun ds cc rr h hc => by
  unfold s71 at h
  split at h
  · rename_i a b c x y z
    simp only [Option.some.injEq, Prod.mk.injEq] at h
    obtain ⟨rfl, rfl⟩ := h
    refine auto_fit (auto71 a b c x y z) ?_ ?_
    · rfl
    · rfl
  · cases h
theorem auto108 (a b c x y z : Nat) : autoLp cfg0 (fun _ => none) Try.f37 [.agg [.flt .f32 a, .flt .f32 b, .flt .f32 c], .agg [.flt .f32 x, .flt .f32 y, .flt .f32 z]] =
    some (true, A.agg [A.flt .f32 (fop .add .f32 a x), A.flt .f32 (fop .add .f32 b y), A.flt .f32 (fop .add .f32 c z)]) := by kernel_rfl
noncomputable def s108 : List A → Option (Bool × A)
  | [.agg [.flt .f32 a, .flt .f32 b, .flt .f32 c], .agg [.flt .f32 x, .flt .f32 y, .flt .f32 z]] => some (true, .agg [.flt .f32 (fop .add .f32 a x), .flt .f32 (fop .add .f32 b y), .flt .f32 (fop .add .f32 c z)])
  | _ => none
theorem s108_at : EnvAt Try.prog 37 s108 := of_auto cfg0_ok (lp_none _) Try.func37 (by kernel_rfl) (by kernel_rfl) fun ds cc rr h hc => by
  unfold s108 at h
  split at h
  · rename_i a b c x y z
    simp only [Option.some.injEq, Prod.mk.injEq] at h
    obtain ⟨rfl, rfl⟩ := h
    refine auto_fit (auto108 a b c x y z) ?_ ?_
    · rfl
    · rfl
  · cases h
theorem auto109 (a b c x : Nat) : autoLp cfg0 (fun _ => none) Try.f38 [.agg [.flt .f32 a, .flt .f32 b, .flt .f32 c], .flt .f32 x] =
    some (true, A.agg [A.flt .f32 (fop .mul .f32 a x), A.flt .f32 (fop .mul .f32 b x), A.flt .f32 (fop .mul .f32 c x)]) := by kernel_rfl
noncomputable def s109 : List A → Option (Bool × A)
  | [.agg [.flt .f32 a, .flt .f32 b, .flt .f32 c], .flt .f32 x] => some (true, .agg [.flt .f32 (fop .mul .f32 a x), .flt .f32 (fop .mul .f32 b x), .flt .f32 (fop .mul .f32 c x)])
  | _ => none
theorem s109_at : EnvAt Try.prog 38 s109 := of_auto cfg0_ok (lp_none _) Try.func38 (by kernel_rfl) (by kernel_rfl) fun ds cc rr h hc => by
  unfold s109 at h
  split at h
  · rename_i a b c x
    simp only [Option.some.injEq, Prod.mk.injEq] at h
    obtain ⟨rfl, rfl⟩ := h
    refine auto_fit (auto109 a b c x) ?_ ?_
    · rfl
    · rfl
  · cases h
theorem auto107 (a b c x y z : Nat) : autoLp cfg0 (fun _ => none) Try.f44 [.agg [.flt .f32 a, .flt .f32 b, .flt .f32 c], .agg [.flt .f32 x, .flt .f32 y, .flt .f32 z]] =
    some (true, A.flt .f32 (fop .add .f32 (fop .add .f32 (fop .mul .f32 a x) (fop .mul .f32 b y)) (fop .mul .f32 c z))) := by kernel_rfl
noncomputable def s107 : List A → Option (Bool × A)
  | [.agg [.flt .f32 a, .flt .f32 b, .flt .f32 c], .agg [.flt .f32 x, .flt .f32 y, .flt .f32 z]] => some (true, .flt .f32 (inn a b c x y z))
  | _ => none
theorem s107_at : EnvAt Try.prog 44 s107 := of_auto cfg0_ok (lp_none _) Try.func44 (by kernel_rfl) (by kernel_rfl) fun ds cc rr h hc => by
  unfold s107 at h
  split at h
  · rename_i a b c x y z
    simp only [Option.some.injEq, Prod.mk.injEq] at h
    obtain ⟨rfl, rfl⟩ := h
    refine auto_fit (auto107 a b c x y z) ?_ ?_
    · rfl
    · rfl
  · cases h
theorem auto147 (a b c x y z : Nat) : autoLp cfg0 (fun _ => none) Try.f92 [.agg [.flt .f32 a, .flt .f32 b, .flt .f32 c], .agg [.flt .f32 x, .flt .f32 y, .flt .f32 z]] =
    some (true, A.agg [A.flt .f32 (fop .sub .f32 (fop .mul .f32 b z) (fop .mul .f32 c y)), A.flt .f32 (fop .sub .f32 (fop .mul .f32 c x) (fop .mul .f32 a z)), A.flt .f32 (fop .sub .f32 (fop .mul .f32 a y) (fop .mul .f32 b x))]) := by kernel_rfl
noncomputable def s147 : List A → Option (Bool × A)
  | [.agg [.flt .f32 a, .flt .f32 b, .flt .f32 c], .agg [.flt .f32 x, .flt .f32 y, .flt .f32 z]] => some (true, .agg [.flt .f32 (fop .sub .f32 (fop .mul .f32 b z) (fop .mul .f32 c y)), .flt .f32 (fop .sub .f32 (fop .mul .f32 c x) (fop .mul .f32 a z)), .flt .f32 (fop .sub .f32 (fop .mul .f32 a y) (fop .mul .f32 b x))])
  | _ => none
theorem s147_at : EnvAt Try.prog 92 s147 := of_auto cfg0_ok (lp_none _) Try.func92 (by kernel_rfl) (by kernel_rfl) fun ds cc rr h hc => by
  unfold s147 at h
  split at h
  · rename_i a b c x y z
    simp only [Option.some.injEq, Prod.mk.injEq] at h
    obtain ⟨rfl, rfl⟩ := h
    refine auto_fit (auto147 a b c x y z) ?_ ?_
    · rfl
    · rfl
  · cases h
theorem auto76 (n l h : Int) : autoLp cfg0 (fun _ => none) Try.f80 [.int .i64 n, .int .i64 l, .int .i64 h] =
    some (true, A.bool (bif decide (n ≥ l) then decide (n ≤ h) else false)) := by kernel_rfl
noncomputable def s76 : List A → Option (Bool × A)
  | [.int .i64 n, .int .i64 l, .int .i64 h] => some (true, .bool (bif decide (n ≥ l) then decide (n ≤ h) else false))
  | _ => none
theorem s76_at : EnvAt Try.prog 80 s76 := of_auto cfg0_ok (lp_none _) Try.func80 (by kernel_rfl) (by kernel_rfl) fun ds cc rr h hc => by
  unfold s76 at h
  split at h
  · rename_i n l h
    simp only [Option.some.injEq, Prod.mk.injEq] at h
    obtain ⟨rfl, rfl⟩ := h
    refine auto_fit (auto76 n l h) ?_ ?_
    · rfl
    · rfl
  · cases h
noncomputable def env1 : List (Nat × (List A → Option (Bool × A))) := (73, s79) :: (110, s136) :: (42, s71) :: (37, s108) :: (38, s109) :: (44, s107) :: (92, s147) :: (80, s76) :: env0
theorem env1_ok : EnvOK Try.prog (look env1) := (env_cons s79_at (env_cons s136_at (env_cons s71_at (env_cons s108_at (env_cons s109_at (env_cons s107_at (env_cons s147_at (env_cons s76_at env0_ok))))))))
noncomputable def cfg1 : Cfg := mkCfg tab [] xts (look env1)
theorem cfg1_ok : CfgOK Try.prog cfg1 := cfg_ok tab_eq (no_fts _) xts_ok env1_ok mixed
theorem auto110 (x : Nat) : autoLp cfg1 (fun _ => none) Try.f71 [.flt .f32 x] =
    some (fcvtOk .f64 .f32 (fsqrt (fcvt .f32 .f64 x)) && true, A.flt .f32 (fcvt .f64 .f32 (fsqrt (fcvt .f32 .f64 x)))) := by kernel_rfl
noncomputable def s110 : List A → Option (Bool × A)
  | [.flt .f32 x] => some (true, .flt .f32 (root32 x))
  | _ => none
theorem s110_at : EnvAt Try.prog 71 s110 := of_auto cfg1_ok (lp_none _) Try.func71 (by kernel_rfl) (by kernel_rfl) fun ds cc rr h hc => by
  unfold s110 at h
  split at h
  · rename_i x
    simp only [Option.some.injEq, Prod.mk.injEq] at h
    obtain ⟨rfl, rfl⟩ := h
    refine auto_fit (auto110 x) ?_ ?_
    · rfl
    · simp only [sqrt_ok, Bool.and_true]
  · cases h
theorem auto100 (a b c : Nat) : autoLp cfg1 (fun _ => none) Try.f65 [.agg [.flt .f32 a, .flt .f32 b, .flt .f32 c]] =
    some (true, A.bool (bif bif fin a then fin b else false then fin c else false)) := by kernel_rfl
noncomputable def s100 : List A → Option (Bool × A)
  | [.agg [.flt .f32 a, .flt .f32 b, .flt .f32 c]] => some (true, .bool (vfin a b c))
  | _ => none
theorem s100_at : EnvAt Try.prog 65 s100 := of_auto cfg1_ok (lp_none _) Try.func65 (by kernel_rfl) (by kernel_rfl) fun ds cc rr h hc => by
  unfold s100 at h
  split at h
  · rename_i a b c
    simp only [Option.some.injEq, Prod.mk.injEq] at h
    obtain ⟨rfl, rfl⟩ := h
    refine auto_fit (auto100 a b c) ?_ ?_
    · rfl
    · rfl
  · cases h
theorem auto92 (x : Nat) : autoLp cfg1 (fun _ => none) Try.f78 [.flt .f32 x] =
    some (bif !fin x then true else true, A.tup [A.flt .f32 (bif !fin x then can .f32 0 else x), A.bool (bif !fin x then false else true)]) := by kernel_rfl
noncomputable def s92 : List A → Option (Bool × A)
  | [.flt .f32 x] => some (true, .tup [.flt .f32 (bif fin x then x else can .f32 0), .bool (fin x)])
  | _ => none
theorem s92_at : EnvAt Try.prog 78 s92 := of_auto cfg1_ok (lp_none _) Try.func78 (by kernel_rfl) (by kernel_rfl) fun ds cc rr h hc => by
  unfold s92 at h
  split at h
  · rename_i x
    simp only [Option.some.injEq, Prod.mk.injEq] at h
    obtain ⟨rfl, rfl⟩ := h
    refine auto_fit (auto92 x) ?_ ?_
    · cases fin x <;> rfl
    · simp
  · cases h
theorem auto78 (x : Nat) : autoLp cfg1 (fun _ => none) Try.f63 [.flt .f32 x] =
    some (true, A.bool (bif fin x then forder .f32 x (can .f32 0) == some Ordering.gt else false)) := by kernel_rfl
noncomputable def s78 : List A → Option (Bool × A)
  | [.flt .f32 x] => some (true, .bool (above x))
  | _ => none
theorem s78_at : EnvAt Try.prog 63 s78 := of_auto cfg1_ok (lp_none _) Try.func63 (by kernel_rfl) (by kernel_rfl) fun ds cc rr h hc => by
  unfold s78 at h
  split at h
  · rename_i x
    simp only [Option.some.injEq, Prod.mk.injEq] at h
    obtain ⟨rfl, rfl⟩ := h
    refine auto_fit (auto78 x) ?_ ?_
    · rfl
    · rfl
  · cases h
theorem auto113 (x : Nat) : autoLp cfg1 (fun _ => none) Try.f105 [.flt .f32 x] =
    some (true, A.bool (bif fin x then forder .f32 x (can .f32 0) == some Ordering.gt || forder .f32 x (can .f32 0) == some Ordering.eq else false)) := by kernel_rfl
noncomputable def s113 : List A → Option (Bool × A)
  | [.flt .f32 x] => some (true, .bool (least x))
  | _ => none
theorem s113_at : EnvAt Try.prog 105 s113 := of_auto cfg1_ok (lp_none _) Try.func105 (by kernel_rfl) (by kernel_rfl) fun ds cc rr h hc => by
  unfold s113 at h
  split at h
  · rename_i x
    simp only [Option.some.injEq, Prod.mk.injEq] at h
    obtain ⟨rfl, rfl⟩ := h
    refine auto_fit (auto113 x) ?_ ?_
    · rfl
    · rfl
  · cases h
def inI (n l h : Int) : Bool := bif decide (n ≥ l) then decide (n ≤ h) else false
theorem auto105 (n : Int) : autoLp cfg1 (fun _ => none) Try.f103 [.int .i64 n] =
    some (true, A.bool (bif decide (n ≥ 1) then decide (n ≤ 8) else false)) := by kernel_rfl
noncomputable def s105 : List A → Option (Bool × A)
  | [.int .i64 n] => some (true, .bool (inI n 1 8))
  | _ => none
theorem s105_at : EnvAt Try.prog 103 s105 := of_auto cfg1_ok (lp_none _) Try.func103 (by kernel_rfl) (by kernel_rfl) fun ds cc rr h hc => by
  unfold s105 at h
  split at h
  · rename_i n
    simp only [Option.some.injEq, Prod.mk.injEq] at h
    obtain ⟨rfl, rfl⟩ := h
    refine auto_fit (auto105 n) ?_ ?_
    · rfl
    · rfl
  · cases h
noncomputable def env2 : List (Nat × (List A → Option (Bool × A))) := (71, s110) :: (65, s100) :: (78, s92) :: (63, s78) :: (105, s113) :: (103, s105) :: env1
theorem env2_ok : EnvOK Try.prog (look env2) := env_cons s110_at (env_cons s100_at (env_cons s92_at (env_cons s78_at (env_cons s113_at (env_cons s105_at env1_ok)))))
noncomputable def cfg2 : Cfg := mkCfg tab [] xts (look env2)
theorem cfg2_ok : CfgOK Try.prog cfg2 := cfg_ok tab_eq (no_fts _) xts_ok env2_ok mixed
theorem auto67 (a b c : Nat) : autoLp cfg2 (fun _ => none) Try.f18 [.agg [.flt .f32 a, .flt .f32 b, .flt .f32 c]] =
    some (true, A.flt .f32 (root32 (inn a b c a b c))) := by kernel_rfl
noncomputable def s67 : List A → Option (Bool × A)
  | [.agg [.flt .f32 a, .flt .f32 b, .flt .f32 c]] => some (true, .flt .f32 (long a b c))
  | _ => none
theorem s67_at : EnvAt Try.prog 18 s67 := of_auto cfg2_ok (lp_none _) Try.func18 (by kernel_rfl) (by kernel_rfl) fun ds cc rr h hc => by
  unfold s67 at h
  split at h
  · rename_i a b c
    simp only [Option.some.injEq, Prod.mk.injEq] at h
    obtain ⟨rfl, rfl⟩ := h
    refine auto_fit (auto67 a b c) ?_ ?_
    · rfl
    · rfl
  · cases h
theorem auto101 (a b c : Nat) : autoLp cfg2 (fun _ => none) Try.f76 [.agg [.flt .f32 a, .flt .f32 b, .flt .f32 c]] =
    some (bif !vfin a b c then true else true, A.tup [A.agg [A.flt .f32 (bif !vfin a b c then 0 else a), A.flt .f32 (bif !vfin a b c then 0 else b), A.flt .f32 (bif !vfin a b c then 0 else c)], A.bool (bif !vfin a b c then false else true)]) := by kernel_rfl
noncomputable def s101 : List A → Option (Bool × A)
  | [.agg [.flt .f32 a, .flt .f32 b, .flt .f32 c]] => some (true, .tup [.agg [.flt .f32 (bif vfin a b c then a else can .f32 0), .flt .f32 (bif vfin a b c then b else can .f32 0), .flt .f32 (bif vfin a b c then c else can .f32 0)], .bool (vfin a b c)])
  | _ => none
theorem s101_at : EnvAt Try.prog 76 s101 := of_auto cfg2_ok (lp_none _) Try.func76 (by kernel_rfl) (by kernel_rfl) fun ds cc rr h hc => by
  unfold s101 at h
  split at h
  · rename_i a b c
    simp only [Option.some.injEq, Prod.mk.injEq] at h
    obtain ⟨rfl, rfl⟩ := h
    refine auto_fit (auto101 a b c) ?_ ?_
    · cases vfin a b c <;> rfl
    · simp
  · cases h
noncomputable def env3 : List (Nat × (List A → Option (Bool × A))) := (18, s67) :: (76, s101) :: env2
theorem env3_ok : EnvOK Try.prog (look env3) := (env_cons s67_at (env_cons s101_at env2_ok))
noncomputable def cfg3 : Cfg := mkCfg tab [] xts (look env3)
theorem cfg3_ok : CfgOK Try.prog cfg3 := cfg_ok tab_eq (no_fts _) xts_ok env3_ok mixed
end Go.Fw.E1

/-
  What a segment makes; the laws' own functions on vectors.
-/
namespace Go.Fw.E1
open Go.Proofs
def sgD (a b c x y z : Nat) : Nat := fop .mul .f32 (fop .mul .f32 (long a b c) (long x y z)) (fop .add .f32 (fop .mul .f32 (long a b c) (long x y z)) (inn a b c x y z))
def sgQ (a b c x y z : Nat) : Nat := fop .quo .f32 (fop .add .f32 (long a b c) (long x y z)) (sgD a b c x y z)
def sgNo (a b c x y z : Nat) : Bool := bif !(forder .f32 (sgD a b c x y z) (can .f32 0) == some .gt) then true else !fin (sgQ a b c x y z)
def sgX (a b c x y z : Nat) : Nat := bif sgNo a b c x y z then can .f32 0 else fop .mul .f32 (fop .sub .f32 (fop .mul .f32 b z) (fop .mul .f32 c y)) (sgQ a b c x y z)
def sgY (a b c x y z : Nat) : Nat := bif sgNo a b c x y z then can .f32 0 else fop .mul .f32 (fop .sub .f32 (fop .mul .f32 c x) (fop .mul .f32 a z)) (sgQ a b c x y z)
def sgZ (a b c x y z : Nat) : Nat := bif sgNo a b c x y z then can .f32 0 else fop .mul .f32 (fop .sub .f32 (fop .mul .f32 a y) (fop .mul .f32 b x)) (sgQ a b c x y z)
theorem auto134 (a b c x y z p q r : Nat) : autoLp cfg3 (fun _ => none) Try.f113 [.agg [.flt .f32 a, .flt .f32 b, .flt .f32 c], .agg [.flt .f32 x, .flt .f32 y, .flt .f32 z], .agg [.flt .f32 p, .flt .f32 q, .flt .f32 r]] =
    some (bif bif !forder .f32 (fop .mul .f32 (fop .mul .f32 (long (fop .sub .f32 p a) (fop .sub .f32 q b) (fop .sub .f32 r c)) (long (fop .sub .f32 p x) (fop .sub .f32 q y) (fop .sub .f32 r z))) (fop .add .f32 (fop .mul .f32 (long (fop .sub .f32 p a) (fop .sub .f32 q b) (fop .sub .f32 r c)) (long (fop .sub .f32 p x) (fop .sub .f32 q y) (fop .sub .f32 r z))) (inn (fop .sub .f32 p a) (fop .sub .f32 q b) (fop .sub .f32 r c) (fop .sub .f32 p x) (fop .sub .f32 q y) (fop .sub .f32 r z)))) (can .f32 0) == some Ordering.gt then true else !fin (fop .quo .f32 (fop .add .f32 (long (fop .sub .f32 p a) (fop .sub .f32 q b) (fop .sub .f32 r c)) (long (fop .sub .f32 p x) (fop .sub .f32 q y) (fop .sub .f32 r z))) (fop .mul .f32 (fop .mul .f32 (long (fop .sub .f32 p a) (fop .sub .f32 q b) (fop .sub .f32 r c)) (long (fop .sub .f32 p x) (fop .sub .f32 q y) (fop .sub .f32 r z))) (fop .add .f32 (fop .mul .f32 (long (fop .sub .f32 p a) (fop .sub .f32 q b) (fop .sub .f32 r c)) (long (fop .sub .f32 p x) (fop .sub .f32 q y) (fop .sub .f32 r z))) (inn (fop .sub .f32 p a) (fop .sub .f32 q b) (fop .sub .f32 r c) (fop .sub .f32 p x) (fop .sub .f32 q y) (fop .sub .f32 r z))))) then true else true, A.agg [A.flt .f32 (bif bif !forder .f32 (fop .mul .f32 (fop .mul .f32 (long (fop .sub .f32 p a) (fop .sub .f32 q b) (fop .sub .f32 r c)) (long (fop .sub .f32 p x) (fop .sub .f32 q y) (fop .sub .f32 r z))) (fop .add .f32 (fop .mul .f32 (long (fop .sub .f32 p a) (fop .sub .f32 q b) (fop .sub .f32 r c)) (long (fop .sub .f32 p x) (fop .sub .f32 q y) (fop .sub .f32 r z))) (inn (fop .sub .f32 p a) (fop .sub .f32 q b) (fop .sub .f32 r c) (fop .sub .f32 p x) (fop .sub .f32 q y) (fop .sub .f32 r z)))) (can .f32 0) == some Ordering.gt then true else !fin (fop .quo .f32 (fop .add .f32 (long (fop .sub .f32 p a) (fop .sub .f32 q b) (fop .sub .f32 r c)) (long (fop .sub .f32 p x) (fop .sub .f32 q y) (fop .sub .f32 r z))) (fop .mul .f32 (fop .mul .f32 (long (fop .sub .f32 p a) (fop .sub .f32 q b) (fop .sub .f32 r c)) (long (fop .sub .f32 p x) (fop .sub .f32 q y) (fop .sub .f32 r z))) (fop .add .f32 (fop .mul .f32 (long (fop .sub .f32 p a) (fop .sub .f32 q b) (fop .sub .f32 r c)) (long (fop .sub .f32 p x) (fop .sub .f32 q y) (fop .sub .f32 r z))) (inn (fop .sub .f32 p a) (fop .sub .f32 q b) (fop .sub .f32 r c) (fop .sub .f32 p x) (fop .sub .f32 q y) (fop .sub .f32 r z))))) then 0 else fop .mul .f32 (fop .sub .f32 (fop .mul .f32 (fop .sub .f32 q b) (fop .sub .f32 r z)) (fop .mul .f32 (fop .sub .f32 r c) (fop .sub .f32 q y))) (fop .quo .f32 (fop .add .f32 (long (fop .sub .f32 p a) (fop .sub .f32 q b) (fop .sub .f32 r c)) (long (fop .sub .f32 p x) (fop .sub .f32 q y) (fop .sub .f32 r z))) (fop .mul .f32 (fop .mul .f32 (long (fop .sub .f32 p a) (fop .sub .f32 q b) (fop .sub .f32 r c)) (long (fop .sub .f32 p x) (fop .sub .f32 q y) (fop .sub .f32 r z))) (fop .add .f32 (fop .mul .f32 (long (fop .sub .f32 p a) (fop .sub .f32 q b) (fop .sub .f32 r c)) (long (fop .sub .f32 p x) (fop .sub .f32 q y) (fop .sub .f32 r z))) (inn (fop .sub .f32 p a) (fop .sub .f32 q b) (fop .sub .f32 r c) (fop .sub .f32 p x) (fop .sub .f32 q y) (fop .sub .f32 r z)))))), A.flt .f32 (bif bif !forder .f32 (fop .mul .f32 (fop .mul .f32 (long (fop .sub .f32 p a) (fop .sub .f32 q b) (fop .sub .f32 r c)) (long (fop .sub .f32 p x) (fop .sub .f32 q y) (fop .sub .f32 r z))) (fop .add .f32 (fop .mul .f32 (long (fop .sub .f32 p a) (fop .sub .f32 q b) (fop .sub .f32 r c)) (long (fop .sub .f32 p x) (fop .sub .f32 q y) (fop .sub .f32 r z))) (inn (fop .sub .f32 p a) (fop .sub .f32 q b) (fop .sub .f32 r c) (fop .sub .f32 p x) (fop .sub .f32 q y) (fop .sub .f32 r z)))) (can .f32 0) == some Ordering.gt then true else !fin (fop .quo .f32 (fop .add .f32 (long (fop .sub .f32 p a) (fop .sub .f32 q b) (fop .sub .f32 r c)) (long (fop .sub .f32 p x) (fop .sub .f32 q y) (fop .sub .f32 r z))) (fop .mul .f32 (fop .mul .f32 (long (fop .sub .f32 p a) (fop .sub .f32 q b) (fop .sub .f32 r c)) (long (fop .sub .f32 p x) (fop .sub .f32 q y) (fop .sub .f32 r z))) (fop .add .f32 (fop .mul .f32 (long (fop .sub .f32 p a) (fop .sub .f32 q b) (fop .sub .f32 r c)) (long (fop .sub .f32 p x) (fop .sub .f32 q y) (fop .sub .f32 r z))) (inn (fop .sub .f32 p a) (fop .sub .f32 q b) (fop .sub .f32 r c) (fop .sub .f32 p x) (fop .sub .f32 q y) (fop .sub .f32 r z))))) then 0 else fop .mul .f32 (fop .sub .f32 (fop .mul .f32 (fop .sub .f32 r c) (fop .sub .f32 p x)) (fop .mul .f32 (fop .sub .f32 p a) (fop .sub .f32 r z))) (fop .quo .f32 (fop .add .f32 (long (fop .sub .f32 p a) (fop .sub .f32 q b) (fop .sub .f32 r c)) (long (fop .sub .f32 p x) (fop .sub .f32 q y) (fop .sub .f32 r z))) (fop .mul .f32 (fop .mul .f32 (long (fop .sub .f32 p a) (fop .sub .f32 q b) (fop .sub .f32 r c)) (long (fop .sub .f32 p x) (fop .sub .f32 q y) (fop .sub .f32 r z))) (fop .add .f32 (fop .mul .f32 (long (fop .sub .f32 p a) (fop .sub .f32 q b) (fop .sub .f32 r c)) (long (fop .sub .f32 p x) (fop .sub .f32 q y) (fop .sub .f32 r z))) (inn (fop .sub .f32 p a) (fop .sub .f32 q b) (fop .sub .f32 r c) (fop .sub .f32 p x) (fop .sub .f32 q y) (fop .sub .f32 r z)))))), A.flt .f32 (bif bif !forder .f32 (fop .mul .f32 (fop .mul .f32 (long (fop .sub .f32 p a) (fop .sub .f32 q b) (fop .sub .f32 r c)) (long (fop .sub .f32 p x) (fop .sub .f32 q y) (fop .sub .f32 r z))) (fop .add .f32 (fop .mul .f32 (long (fop .sub .f32 p a) (fop .sub .f32 q b) (fop .sub .f32 r c)) (long (fop .sub .f32 p x) (fop .sub .f32 q y) (fop .sub .f32 r z))) (inn (fop .sub .f32 p a) (fop .sub .f32 q b) (fop .sub .f32 r c) (fop .sub .f32 p x) (fop .sub .f32 q y) (fop .sub .f32 r z)))) (can .f32 0) == some Ordering.gt then true else !fin (fop .quo .f32 (fop .add .f32 (long (fop .sub .f32 p a) (fop .sub .f32 q b) (fop .sub .f32 r c)) (long (fop .sub .f32 p x) (fop .sub .f32 q y) (fop .sub .f32 r z))) (fop .mul .f32 (fop .mul .f32 (long (fop .sub .f32 p a) (fop .sub .f32 q b) (fop .sub .f32 r c)) (long (fop .sub .f32 p x) (fop .sub .f32 q y) (fop .sub .f32 r z))) (fop .add .f32 (fop .mul .f32 (long (fop .sub .f32 p a) (fop .sub .f32 q b) (fop .sub .f32 r c)) (long (fop .sub .f32 p x) (fop .sub .f32 q y) (fop .sub .f32 r z))) (inn (fop .sub .f32 p a) (fop .sub .f32 q b) (fop .sub .f32 r c) (fop .sub .f32 p x) (fop .sub .f32 q y) (fop .sub .f32 r z))))) then 0 else fop .mul .f32 (fop .sub .f32 (fop .mul .f32 (fop .sub .f32 p a) (fop .sub .f32 q y)) (fop .mul .f32 (fop .sub .f32 q b) (fop .sub .f32 p x))) (fop .quo .f32 (fop .add .f32 (long (fop .sub .f32 p a) (fop .sub .f32 q b) (fop .sub .f32 r c)) (long (fop .sub .f32 p x) (fop .sub .f32 q y) (fop .sub .f32 r z))) (fop .mul .f32 (fop .mul .f32 (long (fop .sub .f32 p a) (fop .sub .f32 q b) (fop .sub .f32 r c)) (long (fop .sub .f32 p x) (fop .sub .f32 q y) (fop .sub .f32 r z))) (fop .add .f32 (fop .mul .f32 (long (fop .sub .f32 p a) (fop .sub .f32 q b) (fop .sub .f32 r c)) (long (fop .sub .f32 p x) (fop .sub .f32 q y) (fop .sub .f32 r z))) (inn (fop .sub .f32 p a) (fop .sub .f32 q b) (fop .sub .f32 r c) (fop .sub .f32 p x) (fop .sub .f32 q y) (fop .sub .f32 r z))))))]) := by kernel_rfl
noncomputable def s134 : List A → Option (Bool × A)
  | [.agg [.flt .f32 a, .flt .f32 b, .flt .f32 c], .agg [.flt .f32 x, .flt .f32 y, .flt .f32 z], .agg [.flt .f32 p, .flt .f32 q, .flt .f32 r]] => some (true, .agg [.flt .f32 (sgX (fop .sub .f32 p a) (fop .sub .f32 q b) (fop .sub .f32 r c) (fop .sub .f32 p x) (fop .sub .f32 q y) (fop .sub .f32 r z)), .flt .f32 (sgY (fop .sub .f32 p a) (fop .sub .f32 q b) (fop .sub .f32 r c) (fop .sub .f32 p x) (fop .sub .f32 q y) (fop .sub .f32 r z)), .flt .f32 (sgZ (fop .sub .f32 p a) (fop .sub .f32 q b) (fop .sub .f32 r c) (fop .sub .f32 p x) (fop .sub .f32 q y) (fop .sub .f32 r z))])
  | _ => none
theorem s134_at : EnvAt Try.prog 113 s134 := of_auto cfg3_ok (lp_none _) Try.func113 (by kernel_rfl) (by kernel_rfl) fun ds cc rr h hc => by
  unfold s134 at h
  split at h
  · rename_i a b c x y z p q r
    simp only [Option.some.injEq, Prod.mk.injEq] at h
    obtain ⟨rfl, rfl⟩ := h
    refine auto_fit (auto134 a b c x y z p q r) ?_ ?_
    · rfl
    · simp
  · cases h
noncomputable def env4 : List (Nat × (List A → Option (Bool × A))) := (113, s134) :: env3
theorem env4_ok : EnvOK Try.prog (look env4) := (env_cons s134_at env3_ok)
end Go.Fw.E1

/-
  Slices of vectors: copied, compared.
-/
namespace Go.Fw.E1
open Go.Proofs
theorem vec_at {k : FloatKind} {f1 f2 f3 g1 g2 g3 : Nat → Nat} {p : Nat} (h1 : f1 p = g1 p) (h2 : f2 p = g2 p) (h3 : f3 p = g3 p) : (Row.vecs k f1 f2 f3 : Row A).at p = (Row.vecs k g1 g2 g3 : Row A).at p := by
  simp only [Row.at, h1, h2, h3]
def z0 (_ : Nat) : Nat := 0
noncomputable def env5 : List (Nat × (List A → Option (Bool × A))) := env4
theorem env5_ok : EnvOK Try.prog (look env5) := env4_ok
end Go.Fw.E1

/-
  The greatest of some numbers; wires copied, compared.
-/
namespace Go.Fw.E1
open Go.Proofs
noncomputable def env6 : List (Nat × (List A → Option (Bool × A))) := env5
theorem env6_ok : EnvOK Try.prog (look env6) := env5_ok
noncomputable def env7 : List (Nat × (List A → Option (Bool × A))) := env6
theorem env7_ok : EnvOK Try.prog (look env7) := env6_ok
noncomputable def env8 : List (Nat × (List A → Option (Bool × A))) := env7
theorem env8_ok : EnvOK Try.prog (look env8) := env7_ok
noncomputable def cfg8 : Cfg := mkCfg tab [] xts (look env8)
theorem cfg8_ok : CfgOK Try.prog cfg8 := cfg_ok tab_eq (no_fts _) xts_ok env8_ok mixed
end Go.Fw.E1

/-
  Wires that are valid; their segments.
-/
namespace Go.Fw.E1
open Go.Proofs
def vfinAt (x y z : Nat → Nat) (i : Nat) : Bool := vfin (x i) (y i) (z i)
theorem auto145 (a b c : Nat) : autoLp cfg8 (fun _ => none) Try.f116 [.agg [.flt .f32 a, .flt .f32 b, .flt .f32 c]] =
    some (true, A.bool !vfin a b c) := by kernel_rfl
noncomputable def s145 : List A → Option (Bool × A)
  | [.agg [.flt .f32 a, .flt .f32 b, .flt .f32 c]] => some (true, .bool (!vfin a b c))
  | _ => none
theorem s145_at : EnvAt Try.prog 116 s145 := of_auto cfg8_ok (lp_none _) Try.func116 (by kernel_rfl) (by kernel_rfl) fun ds cc rr h hc => by
  unfold s145 at h
  split at h
  · rename_i a b c
    simp only [Option.some.injEq, Prod.mk.injEq] at h
    obtain ⟨rfl, rfl⟩ := h
    refine auto_fit (auto145 a b c) ?_ ?_
    · rfl
    · rfl
  · cases h
noncomputable def env9 : List (Nat × (List A → Option (Bool × A))) := (116, s145) :: env8
theorem env9_ok : EnvOK Try.prog (look env9) := (env_cons s145_at env8_ok)
noncomputable def cfg9 : Cfg := mkCfg tab [] xts (look env9)
theorem cfg9_ok : CfgOK Try.prog cfg9 := cfg_ok tab_eq (no_fts _) xts_ok env9_ok mixed
noncomputable def I151 (n : Nat) (x y z : Nat → Nat) (k : Nat) : List A := [.ro 3 n (.vecs .f32 x y z), .fn 116 [], .int .i64 (Int.ofNat 0), .int .i64 (Int.ofNat n), .int .i64 (Int.ofNat k)]
noncomputable def J151 (n : Nat) (x y z : Nat → Nat) (k : Nat) : List O := []
theorem round151 (n : Nat) (x y z : Nat → Nat) (k : Nat) (L : XK → List A → List (Option O) → Prop) :
    ((exec cfg9 (fun _ => true) (fun _ => none) 0 1000 (loopOf Try.f125 0) (litSt Try.f125.ntmps 64 [0, 1, 4, 7, 8] [] (I151 n x y z k) (J151 n x y z k))).rt [0, 1, 4, 7, 8] []).Ok L =
    bif decide (Int.ofNat k < Int.ofNat n) then
      bif decide (Int.ofNat k < Int.ofNat n) then
        bif !vfin (x k) (y k) (z k) then
          L (XK.ret) ([A.ro 3 n (Row.vecs .f32 x y z), A.fn 116 [], A.int .i64 (Int.ofNat k), A.int .i64 (Int.ofNat n), A.int .i64 (Int.ofNat k)]) ([])
        else
          L (XK.normal) ([A.ro 3 n (Row.vecs .f32 x y z), A.fn 116 [], A.int .i64 (Int.ofNat 0), A.int .i64 (Int.ofNat n), A.int .i64 (IntKind.i64.wrap (Int.ofNat k + Int.ofNat 1))]) ([])
      else
        False
    else
      L (XK.exit 0) ([A.ro 3 n (Row.vecs .f32 x y z), A.fn 116 [], A.int .i64 (Int.ofNat 0), A.int .i64 (Int.ofNat n), A.int .i64 (Int.ofNat k)]) ([]) := by kernel_rfl
noncomputable def F151 : List A → List (Option O) → Option R3
  | [.ro 3 n (.vecs .f32 x y z), .fn 116 [], .int .i64 0, .int .i64 l, .int .i64 0], [] => some (.ite (decide (l = Int.ofNat n) && Nat.ble n 4611686018427387000) (.ite (allUpTo (vfinAt x y z) (n)) (.leaf .normal (I151 n x y z (n)) (J151 n x y z (n))) (.leaf (.ret) ((fun k => [A.ro 3 n (Row.vecs .f32 x y z), A.fn 116 [], A.int .i64 (Int.ofNat k), A.int .i64 (Int.ofNat n), A.int .i64 (Int.ofNat k)]) (firstIdx (vfinAt x y z) (n))) (J151 n x y z (firstIdx (vfinAt x y z) (n))))) .fail)
  | _, _ => none
theorem loop151 : CodeOK Try.prog (fun _ σ => sumAt Try.f125.ntmps 64 [0, 1, 4, 7, 8] [] F151 σ) (.block 0 (.loop (loopOf Try.f125 0))) := by
  refine block_ok (own := fun _ => true) (lp := (fun _ => none)) (un := 0) (fuel := 1000) cfg9_ok (lp_none _) fun az os R hF hok => ?_
  unfold F151 at hF
  split at hF
  · rename_i n x y z l
    injection hF with hF
    subst hF
    have hg := hok.guard
    have hg' := hg
    simp only [Bool.and_eq_true, Nat.ble_eq, Nat.beq_eq, decide_eq_true_eq] at hg'
    obtain ⟨rfl, hn⟩ := hg'
    refine for_fact (ids := []) (vfinAt x y z) (n) (I151 n x y z) (J151 n x y z) _ (.ret) (fun k => [A.ro 3 n (Row.vecs .f32 x y z), A.fn 116 [], A.int .i64 (Int.ofNat k), A.int .i64 (Int.ofNat n), A.int .i64 (Int.ofNat k)]) (fun k => [A.ro 3 n (Row.vecs .f32 x y z), A.fn 116 [], A.int .i64 (Int.ofNat k), A.int .i64 (Int.ofNat n), A.int .i64 (Int.ofNat k)]) (I151 n x y z (n)) (J151 n x y z (n)) rfl (OSims.self _) (fun _ => rfl) (fun _ => rfl) (fun _ => ALe.self _) (fun _ => rfl) (ALe.self _) (OSims.self _) rfl (fun h => by cases h) (fun k hk L h1 h2 h3 => ?_) fun L hL => ?_
    · rw [round151]
      by_cases hkm : k < n
      · refine condT (lt_dec hkm) ?_
        rw [wrap_succ (by omega)]
        refine condT (lt_dec hkm) ?_
        show cond (!(vfinAt x y z k)) _ _
        cases hs : vfinAt x y z k
        · exact h2 hkm hs
        · exact h1 hkm hs _ trivial
      · refine condE (ge_dec (by omega)) ?_
        obtain rfl : k = n := by omega
        exact h3 rfl
    · exact ⟨fun h => (hL.1 hg).1 h, fun N hN hf hall => by
        have := (hL.1 hg).2 (allUpTo_false hN hf)
        rw [firstIdx_eq hN hf hall] at this
        exact this⟩
  · cases hF
noncomputable def idx (f : Nat → Bool) (n : Nat) : Int := bif allUpTo f n then Int.negSucc 0 else Int.ofNat (firstIdx f n)
theorem idx_ge (f : Nat → Bool) (n : Nat) : decide (idx f n ≥ 0) = !allUpTo f n := by
  unfold idx
  cases allUpTo f n
  · simp
  · rfl
noncomputable def lp151 : List (Nat × (St → T)) := [(0, sumAt Try.f125.ntmps 64 [0, 1, 4, 7, 8] [] F151)]
theorem lp151_ok : LpOK Try.prog (look lp151) (bodyOf Try.f125) := lp_loops (by kernel_rfl) (by kernel_rfl) fun p hp => by
  simp only [lp151, List.mem_cons, List.not_mem_nil, or_false] at hp
  rcases hp with rfl
  · exact loop151
theorem auto151 (n : Nat) (x y z : Nat → Nat) : autoLp cfg9 (look lp151) Try.f125 [.ro 3 n (.vecs .f32 x y z), .fn 116 []] =
    some (decide (Int.ofNat n = Int.ofNat n) && n.ble 4611686018427387000 && bif allUpTo (vfinAt x y z) n then true else true, A.int .i64 (bif allUpTo (vfinAt x y z) n then Int.negSucc 0 else Int.ofNat (Fw.firstIdx (vfinAt x y z) n))) := by kernel_rfl
noncomputable def s151 : List A → Option (Bool × A)
  | [.ro 3 n (.vecs .f32 x y z), .fn 116 []] => some (Nat.ble n 4611686018427387000, .int .i64 (idx (vfinAt x y z) n))
  | _ => none
theorem s151_at : EnvAt Try.prog 125 s151 := of_auto cfg9_ok lp151_ok Try.func125 (by kernel_rfl) (by kernel_rfl) fun ds cc rr h hc => by
  unfold s151 at h
  split at h
  · rename_i n x y z
    simp only [Option.some.injEq, Prod.mk.injEq] at h
    obtain ⟨rfl, rfl⟩ := h
    refine auto_fit (auto151 n x y z) ?_ ?_
    · rfl
    · rw [hc]; simp
  · cases h
noncomputable def env10 : List (Nat × (List A → Option (Bool × A))) := (125, s151) :: env9
theorem env10_ok : EnvOK Try.prog (look env10) := (env_cons s151_at env9_ok)
noncomputable def cfg10 : Cfg := mkCfg tab [] xts (look env10)
theorem cfg10_ok : CfgOK Try.prog cfg10 := cfg_ok tab_eq (no_fts _) xts_ok env10_ok mixed
theorem auto144 (n : Nat) (x y z : Nat → Nat) : autoLp cfg10 (fun _ => none) Try.f115 [.ro 3 n (.vecs .f32 x y z), .fn 116 []] =
    some (n.ble 4611686018427387000 && true, A.bool (decide (idx (vfinAt x y z) n ≥ 0))) := by kernel_rfl
noncomputable def s144 : List A → Option (Bool × A)
  | [.ro 3 n (.vecs .f32 x y z), .fn 116 []] => some (Nat.ble n 4611686018427387000, .bool (!allUpTo (vfinAt x y z) n))
  | _ => none
theorem s144_at : EnvAt Try.prog 115 s144 := of_auto cfg10_ok (lp_none _) Try.func115 (by kernel_rfl) (by kernel_rfl) fun ds cc rr h hc => by
  unfold s144 at h
  split at h
  · rename_i n x y z
    simp only [Option.some.injEq, Prod.mk.injEq] at h
    obtain ⟨rfl, rfl⟩ := h
    refine auto_fit (auto144 n x y z) ?_ ?_
    · rw [← idx_ge]
    · simpa using hc
  · cases h
noncomputable def env11 : List (Nat × (List A → Option (Bool × A))) := (115, s144) :: env10
theorem env11_ok : EnvOK Try.prog (look env11) := (env_cons s144_at env10_ok)
noncomputable def cfg11 : Cfg := mkCfg tab [] xts (look env11)
theorem cfg11_ok : CfgOK Try.prog cfg11 := cfg_ok tab_eq (no_fts _) xts_ok env11_ok mixed
theorem auto130 (n : Nat) (x y z : Nat → Nat) : autoLp cfg11 (fun _ => none) Try.f99 [.ro 3 n (.vecs .f32 x y z)] =
    some (n.ble 4611686018427387000 && true, A.bool !!allUpTo (vfinAt x y z) n) := by kernel_rfl
noncomputable def s130 : List A → Option (Bool × A)
  | [.ro 3 n (.vecs .f32 x y z)] => some (Nat.ble n 4611686018427387000, .bool (allUpTo (vfinAt x y z) n))
  | _ => none
theorem s130_at : EnvAt Try.prog 99 s130 := of_auto cfg11_ok (lp_none _) Try.func99 (by kernel_rfl) (by kernel_rfl) fun ds cc rr h hc => by
  unfold s130 at h
  split at h
  · rename_i n x y z
    simp only [Option.some.injEq, Prod.mk.injEq] at h
    obtain ⟨rfl, rfl⟩ := h
    refine auto_fit (auto130 n x y z) ?_ ?_
    · simp
    · simpa using hc
  · cases h
noncomputable def env12 : List (Nat × (List A → Option (Bool × A))) := (99, s130) :: env11
theorem env12_ok : EnvOK Try.prog (look env12) := (env_cons s130_at env11_ok)
noncomputable def cfg12 : Cfg := mkCfg tab [] xts (look env12)
theorem cfg12_ok : CfgOK Try.prog cfg12 := cfg_ok tab_eq (no_fts _) xts_ok env12_ok mixed
noncomputable def okW (n cur : Nat) (x y z : Nat → Nat) : Bool := decide (2 ≤ n ∧ n ≤ 48) && fin cur && allUpTo (vfinAt x y z) n
theorem okW_n {n cur : Nat} {x y z : Nat → Nat} (h : okW n cur x y z = true) : 2 ≤ n ∧ n ≤ 48 := by
  unfold okW at h
  simp only [Bool.and_eq_true, decide_eq_true_eq] at h
  exact h.1.1
theorem okW_impl (n cur : Nat) (x y z : Nat → Nat) : (bif bif bif decide (Int.ofNat n ≥ 2) then decide (Int.ofNat n ≤ 48) else false then allUpTo (vfinAt x y z) n else false then fin cur else false) = okW n cur x y z := by
  unfold okW
  by_cases h1 : n < 2
  · rw [decide_eq_false (p := Int.ofNat n ≥ 2) (by simp; omega), decide_eq_false (p := 2 ≤ n ∧ n ≤ 48) (by omega)]; rfl
  · by_cases h2 : n > 48
    · rw [decide_eq_true (p := Int.ofNat n ≥ 2) (by simp; omega), decide_eq_false (p := Int.ofNat n ≤ 48) (by simp; omega), decide_eq_false (p := 2 ≤ n ∧ n ≤ 48) (by omega)]; rfl
    · rw [decide_eq_true (p := Int.ofNat n ≥ 2) (by simp; omega), decide_eq_true (p := Int.ofNat n ≤ 48) (by simp; omega), decide_eq_true (p := 2 ≤ n ∧ n ≤ 48) (by omega)]
      cases fin cur <;> cases allUpTo (vfinAt x y z) n <;> rfl
theorem auto89 (n cur : Nat) (x y z : Nat → Nat) (cl : Bool) : autoLp cfg12 (fun _ => none) Try.f49 [.agg [.ro 3 n (.vecs .f32 x y z), .bool cl, .flt .f32 cur]] =
    some ((n.ble 4611686018427387000 || !(bif decide (Int.ofNat n ≥ 2) then decide (Int.ofNat n ≤ 48) else false) == true) && true, A.bool (bif bif bif decide (Int.ofNat n ≥ 2) then decide (Int.ofNat n ≤ 48) else false then allUpTo (vfinAt x y z) n else false then fin cur else false)) := by kernel_rfl
noncomputable def s89 : List A → Option (Bool × A)
  | [.agg [.ro 3 n (.vecs .f32 x y z), .bool cl, .flt .f32 cur]] => some (Nat.ble n 4611686018427387000, .bool (okW n cur x y z))
  | _ => none
theorem s89_at : EnvAt Try.prog 49 s89 := of_auto cfg12_ok (lp_none _) Try.func49 (by kernel_rfl) (by kernel_rfl) fun ds cc rr h hc => by
  unfold s89 at h
  split at h
  · rename_i n x y z cl cur
    simp only [Option.some.injEq, Prod.mk.injEq] at h
    obtain ⟨rfl, rfl⟩ := h
    refine auto_fit (auto89 n cur x y z cl) ?_ ?_
    · rw [← okW_impl]
    · rw [hc]; rfl
  · cases h
def cnt (n : Nat) (cl : Bool) : Nat := bif cl then n else n - 1
def nx (n j : Nat) : Nat := (j + 1) % n
end Go.Fw.E1

/-
  The segments of a wire.
-/
namespace Go.Fw.E1
open Go.Proofs
def sg (n : Nat) (x y z : Nat → Nat) (j c : Nat) : Nat :=
  match c with
  | 0 => x j | 1 => y j | 2 => z j | 3 => x (nx n j) | 4 => y (nx n j) | _ => z (nx n j)
theorem flns_at {k : FloatKind} {f g : Nat → Nat → Nat} {p : Nat} (h : ∀ c, c < 6 → f p c = g p c) : (Row.flns k 6 f : Row A).at p = (Row.flns k 6 g : Row A).at p := by
  simp only [Row.at]
  congr 1
  apply List.map_congr_left
  intro c hc
  rw [h c (by simpa using hc)]
theorem wrap_pred {k : Nat} (h : k ≤ 4611686018427387000) : IntKind.i64.wrap (Int.ofNat (k + 1) - Int.ofNat 1) = Int.ofNat k := by
  rw [show (Int.ofNat (k + 1) - Int.ofNat 1) = Int.ofNat k by simp, wrap_nat h]
theorem wrap_pred' {n : Nat} (h : 1 ≤ n) (hn : n ≤ 4611686018427387000) : IntKind.i64.wrap (Int.ofNat n - Int.ofNat 1) = Int.ofNat (n - 1) := by
  obtain ⟨m, rfl⟩ : ∃ m, n = m + 1 := ⟨n - 1, by omega⟩
  exact wrap_pred (by omega)
theorem nx_lt {n j : Nat} (h : j + 1 < n) : nx n j = j + 1 := Nat.mod_eq_of_lt h
theorem nx_end {n : Nat} (h : 1 ≤ n) : nx n (n - 1) = 0 := by unfold nx; rw [Nat.sub_add_cancel h, Nat.mod_self]
theorem sg_lit {n : Nat} {x y z : Nat → Nat} {k q : Nat} (hq : nx n k = q) (c : Nat) (hc : c < 6) : ([[x k, y k, z k, x q, y q, z q]].getD (k - k) []).getD c 0 = sg n x y z k c := by
  rw [Nat.sub_self]
  subst hq
  match c, hc with
  | 0, _ | 1, _ | 2, _ | 3, _ | 4, _ | 5, _ => rfl
  | c + 6, hc => omega
theorem sg_app {n : Nat} {x y z : Nat → Nat} {k q : Nat} (hq : nx n k = q) {p : Nat} (hp : p < k + 1) (c : Nat) (hc : c < 6) : (match (motive := Bool → Nat → Nat) decide (p < k) with | true => sg n x y z p | false => fun j_1 => ([[x k, y k, z k, x q, y q, z q]].getD (p - k) []).getD j_1 0) c = sg n x y z p c := by
  by_cases h : p < k
  · rw [decide_eq_true h]
  · rw [decide_eq_false h]
    obtain rfl : p = k := by omega
    exact sg_lit hq c hc
noncomputable def env13 : List (Nat × (List A → Option (Bool × A))) := (49, s89) :: env12
theorem env13_ok : EnvOK Try.prog (look env13) := (env_cons s89_at env12_ok)
noncomputable def cfg13 : Cfg := mkCfg tab [] xts (look env13)
theorem cfg13_ok : CfgOK Try.prog cfg13 := cfg_ok tab_eq (no_fts _) xts_ok env13_ok mixed
noncomputable def I90 (n cur : Nat) (x y z : Nat → Nat) (cl : Bool) (k : Nat) : List A := [.ptr 0 0, .sl 32 k, .int .i64 (Int.ofNat n), .int .i64 (Int.ofNat (k + 1))]
noncomputable def J90 (n cur : Nat) (x y z : Nat → Nat) (cl : Bool) (k : Nat) : List O := [.var [.ro 3 n (.vecs .f32 x y z), .bool cl, .flt .f32 cur], .row 102 6 k (.flns .f32 6 (sg n x y z))]
theorem round90 (n cur : Nat) (x y z : Nat → Nat) (cl : Bool) (k : Nat) (L : XK → List A → List (Option O) → Prop) :
    ((exec cfg13 (fun _ => true) (fun _ => none) 0 1000 (loopOf Try.f82 0) (litSt Try.f82.ntmps 144 [1, 3, 4, 5] [0, 32] (I90 n cur x y z cl k) (J90 n cur x y z cl k))).rt [1, 3, 4, 5] [0, 32]).Ok L =
    bif decide (Int.ofNat (k + 1) < Int.ofNat n) then
      bif decide (Int.ofNat (k + 1) < Int.ofNat n) && (decide (0 ≤ IntKind.i64.wrap (Int.ofNat (k + 1) - 1)) && decide (IntKind.i64.wrap (Int.ofNat (k + 1) - 1) < Int.ofNat n) && true) then
        bif decide (k + 1 ≤ 1073741824) then
          L (XK.normal) ([A.ptr 0 0, A.sl 32 (k + 1), A.int .i64 (Int.ofNat n), A.int .i64 (IntKind.i64.wrap (Int.ofNat (k + 1) + Int.ofNat 1))]) ([some (O.var [A.ro 3 n (Row.vecs .f32 x y z), A.bool cl, A.flt .f32 cur]),   some     (O.row 102 6 (k + 1)       (Row.flns .f32 6 fun j =>         match (motive := Bool → Nat → Nat) decide (j < k) with         | true => sg n x y z j         | false => fun j_1 => ([[x (IntKind.i64.wrap (Int.ofNat (k + 1) - Int.ofNat 1)).toNat, y (IntKind.i64.wrap (Int.ofNat (k + 1) - Int.ofNat 1)).toNat, z (IntKind.i64.wrap (Int.ofNat (k + 1) - Int.ofNat 1)).toNat, x (k + 1), y (k + 1), z (k + 1)]].getD (j - k) []).getD j_1 0))])
        else
          False
      else
        False
    else
      L (XK.exit 0) ([A.ptr 0 0, A.sl 32 k, A.int .i64 (Int.ofNat n), A.int .i64 (Int.ofNat (k + 1))]) ([some (O.var [A.ro 3 n (Row.vecs .f32 x y z), A.bool cl, A.flt .f32 cur]), some (O.row 102 6 k (Row.flns .f32 6 fun j => sg n x y z j))]) := by kernel_rfl
noncomputable def F90 : List A → List (Option O) → Option R3
  | [.ptr 0 0, .sl 32 0, .int .i64 l, .int .i64 1], [some (.var [.ro 3 n (.vecs .f32 x y z), .bool cl, .flt .f32 cur]), some (.row 102 6 0 gg)] => some (.ite (decide (l = Int.ofNat n) && Nat.ble 1 n && Nat.ble n 1073741824) (.leaf .normal (I90 n cur x y z cl (n - 1)) (J90 n cur x y z cl (n - 1))) .fail)
  | _, _ => none
theorem loop90 : CodeOK Try.prog (fun _ σ => sumAt Try.f82.ntmps 144 [1, 3, 4, 5] [0, 32] F90 σ) (.block 0 (.loop (loopOf Try.f82 0))) := by
  refine block_ok (own := fun _ => true) (lp := (fun _ => none)) (un := 0) (fuel := 1000) cfg13_ok (lp_none _) fun az os R hF hok => ?_
  unfold F90 at hF
  split at hF
  · rename_i l n x y z cl cur gg
    injection hF with hF
    subst hF
    have hg := hok.guard
    have hg' := hg
    simp only [Bool.and_eq_true, Nat.ble_eq, Nat.beq_eq, decide_eq_true_eq] at hg'
    obtain ⟨⟨rfl, hn1⟩, hn⟩ := hg'
    refine for_fact (ids := [0, 32]) (fun _ => true) (n - 1) (I90 n cur x y z cl) (J90 n cur x y z cl) _ (.ret) (I90 n cur x y z cl) (I90 n cur x y z cl) (I90 n cur x y z cl (n - 1)) (J90 n cur x y z cl (n - 1)) rfl (by unfold J90; exact ⟨rfl, ⟨102, _, rfl, .inr rfl, fun p hp => absurd hp (by omega)⟩, trivial⟩) (fun _ => rfl) (fun _ => rfl) (fun _ => ALe.self _) (fun _ => rfl) (ALe.self _) (OSims.self _) rfl (fun h => by cases h) (fun k hk L h1 h2 h3 => ?_) fun L hL => ?_
    · rw [round90]
      by_cases hkm : k < n - 1
      · refine condT (lt_dec (by omega)) ?_
        rw [wrap_succ (by omega), wrap_pred (by omega)]
        have e : IntKind.i64.wrap (Int.ofNat (k + 1) - 1) = Int.ofNat k := wrap_pred (by omega)
        refine condT (by rw [e, dec0, lt_dec (show k + 1 < n by omega), lt_dec (show k < n by omega)]; rfl) ?_
        refine condT (decide_eq_true (by omega)) ?_
        exact h1 hkm rfl _ ⟨rfl, ⟨102, _, rfl, .inr rfl, fun p hp => flns_at fun c hc => sg_app (nx_lt (by omega)) hp c hc⟩, trivial⟩
      · refine condE (ge_dec (by omega)) ?_
        obtain rfl : k = n - 1 := by omega
        exact h3 rfl
    · exact ⟨fun _ => hL.1 hg, fun N _ h => by cases h⟩
  · cases hF
noncomputable def lp90T : List (Nat × (St → T)) := [(0, sumAt Try.f82.ntmps 144 [1, 3, 4, 5] [0, 32] F90)]
theorem lp90T_ok : LpOK Try.prog (look lp90T) (bodyOf Try.f82) := lp_loops (by kernel_rfl) (by kernel_rfl) fun p hp => by
  simp only [lp90T, List.mem_cons, List.not_mem_nil, or_false] at hp
  rcases hp with rfl
  · exact loop90
theorem auto90T (n cur : Nat) (x y z : Nat → Nat) : autoS cfg13 (look lp90T) true Try.f82 [.agg [.ro 3 n (.vecs .f32 x y z), .bool true, .flt .f32 cur]] =
    some   (decide (Int.ofNat n = Int.ofNat n) && Nat.ble 1 n && n.ble 1073741824 && (decide (0 < Int.ofNat n) && (decide (0 ≤ IntKind.i64.wrap (Int.ofNat n - 1)) && decide (IntKind.i64.wrap (Int.ofNat n - 1) < Int.ofNat n) && true) && (decide (n - 1 + 1 ≤ 1073741824) && true)),     A.ro 6 (n - 1 + 1)       (Row.flns .f32 6 fun j =>         match (motive := Bool → Nat → Nat) decide (j < n - 1) with         | true => sg n x y z j         | false => fun j_1 => ([[x (IntKind.i64.wrap (Int.ofNat n - Int.ofNat 1)).toNat, y (IntKind.i64.wrap (Int.ofNat n - Int.ofNat 1)).toNat, z (IntKind.i64.wrap (Int.ofNat n - Int.ofNat 1)).toNat, x 0, y 0, z 0]].getD (j - (n - 1)) []).getD j_1 0)) := by kernel_rfl
noncomputable def s90T : List A → Option (Bool × A)
  | [.agg [.ro 3 n (.vecs .f32 x y z), .bool true, .flt .f32 cur]] => some (Nat.ble 1 n && Nat.ble n 1073741824, .ro 6 (n - 1 + 1) (.flns .f32 6 fun j => match decide (j < n - 1) with | true => sg n x y z j | false => fun c => ([[x (n - 1), y (n - 1), z (n - 1), x 0, y 0, z 0]].getD (j - (n - 1)) []).getD c 0))
  | _ => none
theorem s90T_at : EnvAt Try.prog 82 s90T := of_autoS cfg13_ok lp90T_ok Try.func82 (by kernel_rfl) (by kernel_rfl) fun ds cc rr h hc => by
  unfold s90T at h
  split at h
  · rename_i n x y z cur
    simp only [Option.some.injEq, Prod.mk.injEq] at h
    obtain ⟨rfl, rfl⟩ := h
    refine auto_fit (auto90T n cur x y z) ?_ ?_
    · simp only [Bool.and_eq_true, Nat.ble_eq] at hc
      rw [wrap_pred' hc.1 (by omega)]; rfl
    · simp only [Bool.and_eq_true, Nat.ble_eq] at hc
      have e : IntKind.i64.wrap (Int.ofNat n - 1) = Int.ofNat (n - 1) := wrap_pred' hc.1 (by omega)
      rw [decide_eq_true rfl, ble_of hc.1, ble_of hc.2, e, dec0, lt_dec (show n - 1 < n by omega), decide_eq_true (p := n - 1 + 1 ≤ 1073741824) (by omega), decide_eq_true (p := 0 < Int.ofNat n) (by simp; omega)]
      rfl
  · cases h
noncomputable def lp90F : List (Nat × (St → T)) := [(0, sumAt Try.f82.ntmps 144 [1, 3, 4, 5] [0, 32] F90)]
theorem lp90F_ok : LpOK Try.prog (look lp90F) (bodyOf Try.f82) := lp_loops (by kernel_rfl) (by kernel_rfl) fun p hp => by
  simp only [lp90F, List.mem_cons, List.not_mem_nil, or_false] at hp
  rcases hp with rfl
  · exact loop90
theorem auto90F (n cur : Nat) (x y z : Nat → Nat) : autoS cfg13 (look lp90F) false Try.f82 [.agg [.ro 3 n (.vecs .f32 x y z), .bool false, .flt .f32 cur]] =
    some (decide (Int.ofNat n = Int.ofNat n) && Nat.ble 1 n && n.ble 1073741824 && true, A.ro 6 (n - 1) (Row.flns .f32 6 fun j => sg n x y z j)) := by kernel_rfl
noncomputable def s90F : List A → Option (Bool × A)
  | [.agg [.ro 3 n (.vecs .f32 x y z), .bool false, .flt .f32 cur]] => some (Nat.ble 1 n && Nat.ble n 1073741824, .ro 6 (n - 1) (.flns .f32 6 (sg n x y z)))
  | _ => none
theorem s90F_at : EnvAt Try.prog 82 s90F := of_autoS cfg13_ok lp90F_ok Try.func82 (by kernel_rfl) (by kernel_rfl) fun ds cc rr h hc => by
  unfold s90F at h
  split at h
  · rename_i n x y z cur
    simp only [Option.some.injEq, Prod.mk.injEq] at h
    obtain ⟨rfl, rfl⟩ := h
    refine auto_fit (auto90F n cur x y z) ?_ ?_
    · rfl
    · simp only [Bool.and_eq_true, Nat.ble_eq] at hc
      rw [decide_eq_true rfl, ble_of hc.1, ble_of hc.2]; rfl
  · cases h
noncomputable def s90 : List A → Option (Bool × A)
  | [.agg [.ro 3 n (.vecs .f32 x y z), .bool cl, .flt .f32 cur]] => some (Nat.ble 1 n && Nat.ble n 1073741824, .ro 6 (cnt n cl) (.flns .f32 6 (sg n x y z)))
  | _ => none
theorem s90_at : EnvAt Try.prog 82 s90 := by
  refine ⟨s90T_at.1, fun ds c r h hc => ?_⟩
  unfold s90 at h
  split at h
  · rename_i n x y z cl cur
    simp only [Option.some.injEq, Prod.mk.injEq] at h
    obtain ⟨rfl, rfl⟩ := h
    have hn : 1 ≤ n := by simp only [Bool.and_eq_true, Nat.ble_eq] at hc; exact hc.1
    cases cl
    · exact s90F_at.2 _ _ _ rfl hc
    · have key := (s90T_at.2 [.agg [.ro 3 n (.vecs .f32 x y z), .bool true, .flt .f32 cur]] _ _ rfl hc).ro_congr (g' := .flns .f32 6 (sg n x y z)) fun p hp => flns_at fun c hc => by
        rw [Nat.sub_add_cancel hn] at hp
        exact sg_app (nx_end hn) (by omega) c hc
      rw [Nat.sub_add_cancel hn] at key
      exact key
  · cases h
noncomputable def env14 : List (Nat × (List A → Option (Bool × A))) := (82, s90) :: (97, auto cfg13 Try.f97) :: env13
theorem env14_ok : EnvOK Try.prog (look env14) := (env_cons s90_at (env_cons (auto_at cfg13_ok Try.func97 (by kernel_rfl) (by kernel_rfl)) env13_ok))
noncomputable def cfg14 : Cfg := mkCfg tab [] xts (look env14)
theorem cfg14_ok : CfgOK Try.prog cfg14 := cfg_ok tab_eq (no_fts _) xts_ok env14_ok mixed
end Go.Fw.E1

/-
  The length of a wire.
-/
namespace Go.Fw.E1
open Go.Proofs
theorem cnt_le (n : Nat) (cl : Bool) : cnt n cl ≤ n := by unfold cnt; cases cl <;> simp
def segLen (g : Nat → Nat → Nat) (j : Nat) : Nat := long (fop .sub .f32 (g j 3) (g j 0)) (fop .sub .f32 (g j 4) (g j 1)) (fop .sub .f32 (g j 5) (g j 2))
def lenS (g : Nat → Nat → Nat) (s : Nat) : Nat → Nat
  | 0 => s
  | k + 1 => fop .add .f32 (lenS g s k) (segLen g k)
noncomputable def I35 (m s : Nat) (gg : Nat → Nat → Nat) (k : Nat) : List A := [.sl 128 m, .int .i64 (Int.ofNat m), .int .i64 (Int.ofNat k), .flt .f32 (lenS gg s k)]
noncomputable def J35 (m s : Nat) (gg : Nat → Nat → Nat) (k : Nat) : List O := [.row 0 6 m (.flns .f32 6 gg)]
theorem round35 (m s : Nat) (gg : Nat → Nat → Nat) (k : Nat) (L : XK → List A → List (Option O) → Prop) :
    ((exec cfg14 (fun _ => true) (fun _ => none) 0 1000 (loopOf Try.f47 0) (litSt Try.f47.ntmps 176 [11, 12, 13, 4] [128] (I35 m s gg k) (J35 m s gg k))).rt [11, 12, 13, 4] [128]).Ok L =
    bif decide (Int.ofNat k < Int.ofNat m) then
      bif decide (Int.ofNat k < Int.ofNat m) then
        L (XK.normal) ([A.sl 128 m, A.int .i64 (Int.ofNat m), A.int .i64 (IntKind.i64.wrap (Int.ofNat k + Int.ofNat 1)), A.flt .f32 (fop .add .f32 (lenS gg s k) (long (fop .sub .f32 (gg k 3) (gg k 0)) (fop .sub .f32 (gg k 4) (gg k 1)) (fop .sub .f32 (gg k 5) (gg k 2))))]) ([some (O.row 0 6 m (Row.flns .f32 6 gg))])
      else
        False
    else
      L (XK.exit 0) ([A.sl 128 m, A.int .i64 (Int.ofNat m), A.int .i64 (Int.ofNat k), A.flt .f32 (lenS gg s k)]) ([some (O.row 0 6 m (Row.flns .f32 6 gg))]) := by kernel_rfl
noncomputable def F35 : List A → List (Option O) → Option R3
  | [.sl 128 m, .int .i64 l, .int .i64 0, .flt .f32 s], [some (.row 0 6 m2 (.flns .f32 6 gg))] => some (.ite (decide (l = Int.ofNat m) && Nat.beq m m2 && Nat.ble m 1073741824) (.leaf .normal (I35 m s gg (m)) (J35 m s gg (m))) .fail)
  | _, _ => none
theorem loop35 : CodeOK Try.prog (fun _ σ => sumAt Try.f47.ntmps 176 [11, 12, 13, 4] [128] F35 σ) (.block 0 (.loop (loopOf Try.f47 0))) := by
  refine block_ok (own := fun _ => true) (lp := (fun _ => none)) (un := 0) (fuel := 1000) cfg14_ok (lp_none _) fun az os R hF hok => ?_
  unfold F35 at hF
  split at hF
  · rename_i m l s m2 gg
    injection hF with hF
    subst hF
    have hg := hok.guard
    have hg' := hg
    simp only [Bool.and_eq_true, Nat.ble_eq, Nat.beq_eq, decide_eq_true_eq] at hg'
    obtain ⟨⟨rfl, rfl⟩, hm⟩ := hg'
    refine for_fact (ids := [128]) (fun _ => true) (m) (I35 m s gg) (J35 m s gg) _ (.ret) (I35 m s gg) (I35 m s gg) (I35 m s gg (m)) (J35 m s gg (m)) rfl (OSims.self _) (fun _ => rfl) (fun _ => rfl) (fun _ => ALe.self _) (fun _ => rfl) (ALe.self _) (OSims.self _) rfl (fun h => by cases h) (fun k hk L h1 h2 h3 => ?_) fun L hL => ?_
    · rw [round35]
      by_cases hkm : k < m
      · refine condT (lt_dec hkm) ?_
        rw [wrap_succ (by omega)]
        refine condT (lt_dec hkm) ?_
        exact h1 hkm rfl _ (OSims.self (J35 m s gg (k + 1)))
      · refine condE (ge_dec (by omega)) ?_
        obtain rfl : k = m := by omega
        exact h3 rfl
    · exact ⟨fun _ => hL.1 hg, fun N _ h => by cases h⟩
  · cases hF
noncomputable def lenW (n : Nat) (x y z : Nat → Nat) (cl : Bool) : Nat := lenS (sg n x y z) (can .f32 0) (cnt n cl)
noncomputable def lenOk (n cur : Nat) (x y z : Nat → Nat) (cl : Bool) : Bool := okW n cur x y z && fin (lenW n x y z cl)
noncomputable def lp35 : List (Nat × (St → T)) := [(0, sumAt Try.f47.ntmps 176 [11, 12, 13, 4] [128] F35)]
theorem lp35_ok : LpOK Try.prog (look lp35) (bodyOf Try.f47) := lp_loops (by kernel_rfl) (by kernel_rfl) fun p hp => by
  simp only [lp35, List.mem_cons, List.not_mem_nil, or_false] at hp
  rcases hp with rfl
  · exact loop35
theorem auto35 (n cur : Nat) (x y z : Nat → Nat) (cl : Bool) : autoLp cfg14 (look lp35) Try.f47 [.agg [.ro 3 n (.vecs .f32 x y z), .bool cl, .flt .f32 cur]] =
    some (n.ble 4611686018427387000 && bif !okW n cur x y z then true else Nat.ble 1 n && n.ble 1073741824 && (decide (Int.ofNat (cnt n cl) = Int.ofNat (cnt n cl)) && (cnt n cl).beq (cnt n cl) && (cnt n cl).ble 1073741824 && true), A.tup [A.flt .f32 (bif !okW n cur x y z then can .f32 0 else bif fin (lenS (sg n x y z) (can .f32 0) (cnt n cl)) then lenS (sg n x y z) (can .f32 0) (cnt n cl) else can .f32 0), A.bool (bif !okW n cur x y z then false else fin (lenS (sg n x y z) (can .f32 0) (cnt n cl)))]) := by kernel_rfl
noncomputable def s35 : List A → Option (Bool × A)
  | [.agg [.ro 3 n (.vecs .f32 x y z), .bool cl, .flt .f32 cur]] => some (Nat.ble n 1073741824, .tup [.flt .f32 (bif lenOk n cur x y z cl then lenW n x y z cl else can .f32 0), .bool (lenOk n cur x y z cl)])
  | _ => none
theorem s35_at : EnvAt Try.prog 47 s35 := of_auto cfg14_ok lp35_ok Try.func47 (by kernel_rfl) (by kernel_rfl) fun ds cc rr h hc => by
  unfold s35 at h
  split at h
  · rename_i n x y z cl cur
    simp only [Option.some.injEq, Prod.mk.injEq] at h
    obtain ⟨rfl, rfl⟩ := h
    refine auto_fit (auto35 n cur x y z cl) ?_ ?_
    · unfold lenOk
      cases okW n cur x y z
      · rfl
      · rfl
    · simp only [Nat.ble_eq] at hc
      rw [ble_of (show n ≤ 4611686018427387000 by omega)]
      cases hw : okW n cur x y z
      · rfl
      · have h2 := okW_n hw
        have h3 := cnt_le n cl
        rw [ble_of (show 1 ≤ n by omega), ble_of hc, ble_of (show cnt n cl ≤ 1073741824 by omega)]
        simp
  · cases h
noncomputable def env15 : List (Nat × (List A → Option (Bool × A))) := (47, s35) :: env14
theorem env15_ok : EnvOK Try.prog (look env15) := (env_cons s35_at env14_ok)
noncomputable def cfg15 : Cfg := mkCfg tab [] xts (look env15)
theorem cfg15_ok : CfgOK Try.prog cfg15 := cfg_ok tab_eq (no_fts _) xts_ok env15_ok mixed
end Go.Fw.E1

/-
  The field of a wire.
-/
namespace Go.Fw.E1
open Go.Proofs
def segX (g : Nat → Nat → Nat) (p q r j : Nat) : Nat := sgX (fop .sub .f32 p (g j 0)) (fop .sub .f32 q (g j 1)) (fop .sub .f32 r (g j 2)) (fop .sub .f32 p (g j 3)) (fop .sub .f32 q (g j 4)) (fop .sub .f32 r (g j 5))
def segY (g : Nat → Nat → Nat) (p q r j : Nat) : Nat := sgY (fop .sub .f32 p (g j 0)) (fop .sub .f32 q (g j 1)) (fop .sub .f32 r (g j 2)) (fop .sub .f32 p (g j 3)) (fop .sub .f32 q (g j 4)) (fop .sub .f32 r (g j 5))
def segZ (g : Nat → Nat → Nat) (p q r j : Nat) : Nat := sgZ (fop .sub .f32 p (g j 0)) (fop .sub .f32 q (g j 1)) (fop .sub .f32 r (g j 2)) (fop .sub .f32 p (g j 3)) (fop .sub .f32 q (g j 4)) (fop .sub .f32 r (g j 5))
def fX (g : Nat → Nat → Nat) (p q r s : Nat) : Nat → Nat
  | 0 => s
  | k + 1 => fop .add .f32 (fX g p q r s k) (segX g p q r k)
def fY (g : Nat → Nat → Nat) (p q r s : Nat) : Nat → Nat
  | 0 => s
  | k + 1 => fop .add .f32 (fY g p q r s k) (segY g p q r k)
def fZ (g : Nat → Nat → Nat) (p q r s : Nat) : Nat → Nat
  | 0 => s
  | k + 1 => fop .add .f32 (fZ g p q r s k) (segZ g p q r k)
noncomputable def I102 (n cur s t u s2 t2 u2 p q r m : Nat) (x y z : Nat → Nat) (cl : Bool) (gg : Nat → Nat → Nat) (k : Nat) : List A := [.ptr 0 0, .ptr 16 0, .ptr 64 0, .ptr 32 0, .sl 112 m, .int .i64 (Int.ofNat m), .int .i64 (Int.ofNat k)]
noncomputable def J102 (n cur s t u s2 t2 u2 p q r m : Nat) (x y z : Nat → Nat) (cl : Bool) (gg : Nat → Nat → Nat) (k : Nat) : List O := [.row 0 6 m (.flns .f32 6 gg), .var [.flt .f32 (fX gg p q r s k), .flt .f32 (fY gg p q r t k), .flt .f32 (fZ gg p q r u k)], .var [.flt .f32 s2, .flt .f32 t2, .flt .f32 u2], .var [.flt .f32 p, .flt .f32 q, .flt .f32 r], .var [.ro 3 n (.vecs .f32 x y z), .bool cl, .flt .f32 cur]]
theorem round102 (n cur s t u s2 t2 u2 p q r m : Nat) (x y z : Nat → Nat) (cl : Bool) (gg : Nat → Nat → Nat) (k : Nat) (L : XK → List A → List (Option O) → Prop) :
    ((exec cfg15 (fun _ => true) (fun _ => none) 0 1000 (loopOf Try.f77 0) (litSt Try.f77.ntmps 160 [2, 3, 5, 4, 10, 11, 12] [112, 64, 32, 16, 0] (I102 n cur s t u s2 t2 u2 p q r m x y z cl gg k) (J102 n cur s t u s2 t2 u2 p q r m x y z cl gg k))).rt [2, 3, 5, 4, 10, 11, 12] [112, 64, 32, 16, 0]).Ok L =
    bif decide (Int.ofNat k < Int.ofNat m) then
      bif decide (Int.ofNat k < Int.ofNat m) then
        L (XK.normal) ([A.ptr 0 0, A.ptr 16 0, A.ptr 64 0, A.ptr 32 0, A.sl 112 m, A.int .i64 (Int.ofNat m), A.int .i64 (IntKind.i64.wrap (Int.ofNat k + Int.ofNat 1))]) ([some (O.row 0 6 m (Row.flns .f32 6 gg)), some (O.var [A.flt .f32 (fop .add .f32 (fX gg p q r s k) (sgX (fop .sub .f32 p (gg k 0)) (fop .sub .f32 q (gg k 1)) (fop .sub .f32 r (gg k 2)) (fop .sub .f32 p (gg k 3)) (fop .sub .f32 q (gg k 4)) (fop .sub .f32 r (gg k 5)))), A.flt .f32 (fop .add .f32 (fY gg p q r t k) (sgY (fop .sub .f32 p (gg k 0)) (fop .sub .f32 q (gg k 1)) (fop .sub .f32 r (gg k 2)) (fop .sub .f32 p (gg k 3)) (fop .sub .f32 q (gg k 4)) (fop .sub .f32 r (gg k 5)))), A.flt .f32 (fop .add .f32 (fZ gg p q r u k) (sgZ (fop .sub .f32 p (gg k 0)) (fop .sub .f32 q (gg k 1)) (fop .sub .f32 r (gg k 2)) (fop .sub .f32 p (gg k 3)) (fop .sub .f32 q (gg k 4)) (fop .sub .f32 r (gg k 5))))]), some (O.var [A.flt .f32 s2, A.flt .f32 t2, A.flt .f32 u2]), some (O.var [A.flt .f32 p, A.flt .f32 q, A.flt .f32 r]), some (O.var [A.ro 3 n (Row.vecs .f32 x y z), A.bool cl, A.flt .f32 cur])])
      else
        False
    else
      L (XK.exit 0) ([A.ptr 0 0, A.ptr 16 0, A.ptr 64 0, A.ptr 32 0, A.sl 112 m, A.int .i64 (Int.ofNat m), A.int .i64 (Int.ofNat k)]) ([some (O.row 0 6 m (Row.flns .f32 6 gg)), some (O.var [A.flt .f32 (fX gg p q r s k), A.flt .f32 (fY gg p q r t k), A.flt .f32 (fZ gg p q r u k)]), some (O.var [A.flt .f32 s2, A.flt .f32 t2, A.flt .f32 u2]), some (O.var [A.flt .f32 p, A.flt .f32 q, A.flt .f32 r]), some (O.var [A.ro 3 n (Row.vecs .f32 x y z), A.bool cl, A.flt .f32 cur])]) := by kernel_rfl
noncomputable def F102 : List A → List (Option O) → Option R3
  | [.ptr 0 0, .ptr 16 0, .ptr 64 0, .ptr 32 0, .sl 112 m, .int .i64 l, .int .i64 0], [some (.row 0 6 m2 (.flns .f32 6 gg)), some (.var [.flt .f32 s, .flt .f32 t, .flt .f32 u]), some (.var [.flt .f32 s2, .flt .f32 t2, .flt .f32 u2]), some (.var [.flt .f32 p, .flt .f32 q, .flt .f32 r]), some (.var [.ro 3 n (.vecs .f32 x y z), .bool cl, .flt .f32 cur])] => some (.ite (decide (l = Int.ofNat m) && Nat.beq m m2 && Nat.ble m 1073741824) (.leaf .normal (I102 n cur s t u s2 t2 u2 p q r m x y z cl gg (m)) (J102 n cur s t u s2 t2 u2 p q r m x y z cl gg (m))) .fail)
  | _, _ => none
theorem loop102 : CodeOK Try.prog (fun _ σ => sumAt Try.f77.ntmps 160 [2, 3, 5, 4, 10, 11, 12] [112, 64, 32, 16, 0] F102 σ) (.block 0 (.loop (loopOf Try.f77 0))) := by
  refine block_ok (own := fun _ => true) (lp := (fun _ => none)) (un := 0) (fuel := 1000) cfg15_ok (lp_none _) fun az os R hF hok => ?_
  unfold F102 at hF
  split at hF
  · rename_i m l m2 gg s t u s2 t2 u2 p q r n x y z cl cur
    injection hF with hF
    subst hF
    have hg := hok.guard
    have hg' := hg
    simp only [Bool.and_eq_true, Nat.ble_eq, Nat.beq_eq, decide_eq_true_eq] at hg'
    obtain ⟨⟨rfl, rfl⟩, hm⟩ := hg'
    refine for_fact (ids := [112, 64, 32, 16, 0]) (fun _ => true) (m) (I102 n cur s t u s2 t2 u2 p q r m x y z cl gg) (J102 n cur s t u s2 t2 u2 p q r m x y z cl gg) _ (.ret) (I102 n cur s t u s2 t2 u2 p q r m x y z cl gg) (I102 n cur s t u s2 t2 u2 p q r m x y z cl gg) (I102 n cur s t u s2 t2 u2 p q r m x y z cl gg (m)) (J102 n cur s t u s2 t2 u2 p q r m x y z cl gg (m)) rfl (OSims.self _) (fun _ => rfl) (fun _ => rfl) (fun _ => ALe.self _) (fun _ => rfl) (ALe.self _) (OSims.self _) rfl (fun h => by cases h) (fun k hk L h1 h2 h3 => ?_) fun L hL => ?_
    · rw [round102]
      by_cases hkm : k < m
      · refine condT (lt_dec hkm) ?_
        rw [wrap_succ (by omega)]
        refine condT (lt_dec hkm) ?_
        exact h1 hkm rfl _ (OSims.self (J102 n cur s t u s2 t2 u2 p q r m x y z cl gg (k + 1)))
      · refine condE (ge_dec (by omega)) ?_
        obtain rfl : k = m := by omega
        exact h3 rfl
    · exact ⟨fun _ => hL.1 hg, fun N _ h => by cases h⟩
  · cases hF
noncomputable def fwX (n : Nat) (x y z : Nat → Nat) (cl : Bool) (cur p q r : Nat) : Nat := fop .mul .f32 (fX (sg n x y z) p q r 0 (cnt n cl)) cur
noncomputable def fwY (n : Nat) (x y z : Nat → Nat) (cl : Bool) (cur p q r : Nat) : Nat := fop .mul .f32 (fY (sg n x y z) p q r 0 (cnt n cl)) cur
noncomputable def fwZ (n : Nat) (x y z : Nat → Nat) (cl : Bool) (cur p q r : Nat) : Nat := fop .mul .f32 (fZ (sg n x y z) p q r 0 (cnt n cl)) cur
noncomputable def lp102 : List (Nat × (St → T)) := [(0, sumAt Try.f77.ntmps 160 [2, 3, 5, 4, 10, 11, 12] [112, 64, 32, 16, 0] F102)]
theorem lp102_ok : LpOK Try.prog (look lp102) (bodyOf Try.f77) := lp_loops (by kernel_rfl) (by kernel_rfl) fun p hp => by
  simp only [lp102, List.mem_cons, List.not_mem_nil, or_false] at hp
  rcases hp with rfl
  · exact loop102
theorem auto102 (n cur p q r : Nat) (x y z : Nat → Nat) (cl : Bool) : autoLp cfg15 (look lp102) Try.f77 [.agg [.ro 3 n (.vecs .f32 x y z), .bool cl, .flt .f32 cur], .agg [.flt .f32 p, .flt .f32 q, .flt .f32 r]] =
    some (Nat.ble 1 n && n.ble 1073741824 && (decide (Int.ofNat (cnt n cl) = Int.ofNat (cnt n cl)) && (cnt n cl).beq (cnt n cl) && (cnt n cl).ble 1073741824 && true), A.agg [A.flt .f32 (fop .mul .f32 (fX (sg n x y z) p q r 0 (cnt n cl)) cur), A.flt .f32 (fop .mul .f32 (fY (sg n x y z) p q r 0 (cnt n cl)) cur), A.flt .f32 (fop .mul .f32 (fZ (sg n x y z) p q r 0 (cnt n cl)) cur)]) := by kernel_rfl
noncomputable def s102 : List A → Option (Bool × A)
  | [.agg [.ro 3 n (.vecs .f32 x y z), .bool cl, .flt .f32 cur], .agg [.flt .f32 p, .flt .f32 q, .flt .f32 r]] => some (Nat.ble 1 n && Nat.ble n 1073741824, .agg [.flt .f32 (fwX n x y z cl cur p q r), .flt .f32 (fwY n x y z cl cur p q r), .flt .f32 (fwZ n x y z cl cur p q r)])
  | _ => none
theorem s102_at : EnvAt Try.prog 77 s102 := of_auto cfg15_ok lp102_ok Try.func77 (by kernel_rfl) (by kernel_rfl) fun ds cc rr h hc => by
  unfold s102 at h
  split at h
  · rename_i n x y z cl cur p q r
    simp only [Option.some.injEq, Prod.mk.injEq] at h
    obtain ⟨rfl, rfl⟩ := h
    refine auto_fit (auto102 n cur p q r x y z cl) ?_ ?_
    · rfl
    · simp only [Bool.and_eq_true, Nat.ble_eq] at hc
      have h3 := cnt_le n cl
      rw [ble_of hc.1, ble_of hc.2, ble_of (show cnt n cl ≤ 1073741824 by omega)]
      simp
  · cases h
end Go.Fw.E1

/-
  The field of a wire: the law; pieces of segments.
-/
namespace Go.Fw.E1
open Go.Proofs
noncomputable def env16 : List (Nat × (List A → Option (Bool × A))) := (77, s102) :: env15
theorem env16_ok : EnvOK Try.prog (look env16) := (env_cons s102_at env15_ok)
noncomputable def env17 : List (Nat × (List A → Option (Bool × A))) := env16
theorem env17_ok : EnvOK Try.prog (look env17) := env16_ok
noncomputable def cfg17 : Cfg := mkCfg tab [] xts (look env17)
theorem cfg17_ok : CfgOK Try.prog cfg17 := cfg_ok tab_eq (no_fts _) xts_ok env17_ok mixed
def inv (pp : Nat) : Nat := fop .quo .f32 (can .f32 1065353216) (fofInt .f32 (Int.ofNat pp))
def mid (k pp : Nat) : Nat := fop .quo .f32 (fop .add .f32 (fofInt .f32 (Int.ofNat k)) (can .f32 1056964608)) (fofInt .f32 (Int.ofNat pp))
def pcS (a b c u v w pp k d : Nat) : Nat :=
  match d with
  | 0 => fop .mul .f32 (fop .sub .f32 u a) (inv pp)
  | 1 => fop .mul .f32 (fop .sub .f32 v b) (inv pp)
  | 2 => fop .mul .f32 (fop .sub .f32 w c) (inv pp)
  | 3 => fop .add .f32 a (fop .mul .f32 (fop .sub .f32 u a) (mid k pp))
  | 4 => fop .add .f32 b (fop .mul .f32 (fop .sub .f32 v b) (mid k pp))
  | _ => fop .add .f32 c (fop .mul .f32 (fop .sub .f32 w c) (mid k pp))
def pc (g : Nat → Nat → Nat) (pp j d : Nat) : Nat := pcS (g (j / pp) 0) (g (j / pp) 1) (g (j / pp) 2) (g (j / pp) 3) (g (j / pp) 4) (g (j / pp) 5) pp (j % pp) d
theorem auto126 (a b c u v w pp : Nat) : autoLp cfg17 (fun _ => none) Try.f84 [.agg [.flt .f32 a, .flt .f32 b, .flt .f32 c, .flt .f32 u, .flt .f32 v, .flt .f32 w], .int .i64 (.ofNat pp)] =
    some (true, A.agg [A.flt .f32 (fop .mul .f32 (fop .sub .f32 u a) (fop .quo .f32 (can .f32 1065353216) (fofInt .f32 (Int.ofNat pp)))), A.flt .f32 (fop .mul .f32 (fop .sub .f32 v b) (fop .quo .f32 (can .f32 1065353216) (fofInt .f32 (Int.ofNat pp)))), A.flt .f32 (fop .mul .f32 (fop .sub .f32 w c) (fop .quo .f32 (can .f32 1065353216) (fofInt .f32 (Int.ofNat pp))))]) := by kernel_rfl
noncomputable def s126 : List A → Option (Bool × A)
  | [.agg [.flt .f32 a, .flt .f32 b, .flt .f32 c, .flt .f32 u, .flt .f32 v, .flt .f32 w], .int .i64 (.ofNat pp)] => some (true, .agg [.flt .f32 (pcS a b c u v w pp 0 0), .flt .f32 (pcS a b c u v w pp 0 1), .flt .f32 (pcS a b c u v w pp 0 2)])
  | _ => none
theorem s126_at : EnvAt Try.prog 84 s126 := of_auto cfg17_ok (lp_none _) Try.func84 (by kernel_rfl) (by kernel_rfl) fun ds cc rr h hc => by
  unfold s126 at h
  split at h
  · rename_i a b c u v w pp
    simp only [Option.some.injEq, Prod.mk.injEq] at h
    obtain ⟨rfl, rfl⟩ := h
    refine auto_fit (auto126 a b c u v w pp) ?_ ?_
    · rfl
    · rfl
  · cases h
theorem auto125 (a b c u v w pp k : Nat) : autoLp cfg17 (fun _ => none) Try.f83 [.agg [.flt .f32 a, .flt .f32 b, .flt .f32 c, .flt .f32 u, .flt .f32 v, .flt .f32 w], .int .i64 (.ofNat k), .int .i64 (.ofNat pp)] =
    some (true, A.agg [A.flt .f32 (fop .add .f32 a (fop .mul .f32 (fop .sub .f32 u a) (fop .quo .f32 (fop .add .f32 (fofInt .f32 (Int.ofNat k)) (can .f32 1056964608)) (fofInt .f32 (Int.ofNat pp))))), A.flt .f32 (fop .add .f32 b (fop .mul .f32 (fop .sub .f32 v b) (fop .quo .f32 (fop .add .f32 (fofInt .f32 (Int.ofNat k)) (can .f32 1056964608)) (fofInt .f32 (Int.ofNat pp))))), A.flt .f32 (fop .add .f32 c (fop .mul .f32 (fop .sub .f32 w c) (fop .quo .f32 (fop .add .f32 (fofInt .f32 (Int.ofNat k)) (can .f32 1056964608)) (fofInt .f32 (Int.ofNat pp)))))]) := by kernel_rfl
noncomputable def s125 : List A → Option (Bool × A)
  | [.agg [.flt .f32 a, .flt .f32 b, .flt .f32 c, .flt .f32 u, .flt .f32 v, .flt .f32 w], .int .i64 (.ofNat k), .int .i64 (.ofNat pp)] => some (true, .agg [.flt .f32 (pcS a b c u v w pp k 3), .flt .f32 (pcS a b c u v w pp k 4), .flt .f32 (pcS a b c u v w pp k 5)])
  | _ => none
theorem s125_at : EnvAt Try.prog 83 s125 := of_auto cfg17_ok (lp_none _) Try.func83 (by kernel_rfl) (by kernel_rfl) fun ds cc rr h hc => by
  unfold s125 at h
  split at h
  · rename_i a b c u v w k pp
    simp only [Option.some.injEq, Prod.mk.injEq] at h
    obtain ⟨rfl, rfl⟩ := h
    refine auto_fit (auto125 a b c u v w pp k) ?_ ?_
    · rfl
    · rfl
  · cases h
noncomputable def env18 : List (Nat × (List A → Option (Bool × A))) := (84, s126) :: (83, s125) :: env17
theorem env18_ok : EnvOK Try.prog (look env18) := (env_cons s126_at (env_cons s125_at env17_ok))
noncomputable def cfg18 : Cfg := mkCfg tab [] xts (look env18)
theorem cfg18_ok : CfgOK Try.prog cfg18 := cfg_ok tab_eq (no_fts _) xts_ok env18_ok mixed
end Go.Fw.E1

/-
  The pieces of wires.
-/
namespace Go.Fw.E1
open Go.Proofs
def jn (l : Nat) (u v : Nat → Nat) (p : Nat) : Nat := match decide (p < l) with | true => u p | false => v (p - l)
def jnR (l : Nat) (hh f : Nat → Nat → Nat) (p c : Nat) : Nat := match decide (p < l) with | true => hh p c | false => f (p - l) c
theorem jnR_app {l k : Nat} {hh f y : Nat → Nat → Nat} {p : Nat} (hp : p < l + k + 1) {c : Nat} (hy : y 0 c = f k c) : (match (motive := Bool → Nat → Nat) decide (p < l + k) with | true => jnR l hh f p | false => fun c => y (p - (l + k)) c) c = jnR l hh f p c := by
  by_cases h : p < l + k
  · rw [decide_eq_true h]
  · rw [decide_eq_false h]
    obtain rfl : p = l + k := by omega
    unfold jnR
    rw [decide_eq_false (by omega), show l + k - l = k by omega]
    show y (l + k - (l + k)) c = _
    rw [Nat.sub_self, hy]
theorem jnR_lit {l k : Nat} {hh f : Nat → Nat → Nat} {x0 x1 x2 x3 x4 x5 p : Nat} (hp : p < l + k + 1) {c : Nat} (h : [x0, x1, x2, x3, x4, x5].getD c 0 = f k c) : (match (motive := Bool → Nat → Nat) decide (p < l + k) with | true => jnR l hh f p | false => fun c => ([[x0, x1, x2, x3, x4, x5]].getD (p - (l + k)) []).getD c 0) c = jnR l hh f p c :=
  jnR_app (y := fun t c => ([[x0, x1, x2, x3, x4, x5]].getD t []).getD c 0) hp h
theorem jnR_zero {l : Nat} {hh f : Nat → Nat → Nat} {p : Nat} (hp : p < l) (c : Nat) : hh p c = jnR l hh f p c := by unfold jnR; rw [decide_eq_true hp]
theorem ix_div {i k n : Nat} (hk : k < n) : (n * i + k) / n = i := by
  rw [Nat.mul_add_div (by omega), Nat.div_eq_of_lt hk, Nat.add_zero]
theorem ix_mod {i k n : Nat} (hk : k < n) : (n * i + k) % n = k := by
  rw [Nat.mul_add_mod, Nat.mod_eq_of_lt hk]
theorem pc_at {g : Nat → Nat → Nat} {pp i k : Nat} (hk : k < pp) (c : Nat) : pc g pp (pp * i + k) c = pcS (g i 0) (g i 1) (g i 2) (g i 3) (g i 4) (g i 5) pp k c := by
  unfold pc; rw [ix_div hk, ix_mod hk]
theorem pc_step {g : Nat → Nat → Nat} {pp i : Nat} {p : Nat} (hp : p < pp * i + pp) (c : Nat) : jnR (pp * i) (pc g pp) (fun t => pcS (g i 0) (g i 1) (g i 2) (g i 3) (g i 4) (g i 5) pp t) p c = pc g pp p c := by
  unfold jnR
  rcases Nat.lt_or_ge p (pp * i) with h | h
  · rw [decide_eq_true h]
  · rw [decide_eq_false (by omega)]
    obtain ⟨s, rfl⟩ : ∃ s, p = pp * i + s := ⟨p - pp * i, by omega⟩
    rw [pc_at (show s < pp by omega), show pp * i + s - pp * i = s by omega]
noncomputable def I106k (m l pp a b c u v w : Nat) (p1 p2 : Int) (gg hh : Nat → Nat → Nat) (k : Nat) : List A := [.int .i64 (.ofNat pp), .sl 32 (l + k), .ptr 176 0, .sl 80 m, .int .i64 p1, .int .i64 p2, .int .i64 (Int.ofNat pp), .int .i64 (Int.ofNat k)]
noncomputable def J106k (m l pp a b c u v w : Nat) (p1 p2 : Int) (gg hh : Nat → Nat → Nat) (k : Nat) : List O := [.var [.flt .f32 a, .flt .f32 b, .flt .f32 c, .flt .f32 u, .flt .f32 v, .flt .f32 w], .row 0 6 m (.flns .f32 6 gg), .row 119 6 (l + k) (.flns .f32 6 (jnR l hh fun t => pcS a b c u v w pp t))]
theorem round106k (m l pp a b c u v w : Nat) (p1 p2 : Int) (gg hh : Nat → Nat → Nat) (k : Nat) (L : XK → List A → List (Option O) → Prop) :
    ((exec cfg18 (fun _ => true) (fun _ => none) 0 1000 (loopOf Try.f104 2) (litSt Try.f104.ntmps 240 [1, 5, 7, 11, 12, 13, 17, 18] [176, 80, 32] (I106k m l pp a b c u v w p1 p2 gg hh k) (J106k m l pp a b c u v w p1 p2 gg hh k))).rt [1, 5, 7, 11, 12, 13, 17, 18] [176, 80, 32]).Ok L =
    bif decide (Int.ofNat k < Int.ofNat pp) then
      bif decide (l + k + 1 ≤ 1073741824) then
        L (XK.normal) ([A.int .i64 (Int.ofNat pp), A.sl 32 (l + k + 1), A.ptr 176 0, A.sl 80 m, A.int .i64 p1, A.int .i64 p2, A.int .i64 (Int.ofNat pp), A.int .i64 (IntKind.i64.wrap (Int.ofNat k + Int.ofNat 1))]) ([some (O.var [A.flt .f32 a, A.flt .f32 b, A.flt .f32 c, A.flt .f32 u, A.flt .f32 v, A.flt .f32 w]), some (O.row 0 6 m (Row.flns .f32 6 gg)),   some     (O.row 119 6 (l + k + 1)       (Row.flns .f32 6 fun j =>         match (motive := Bool → Nat → Nat) decide (j < l + k) with         | true => jnR l hh (fun t => pcS a b c u v w pp t) j         | false => fun j_1 => ([[pcS a b c u v w pp 0 0, pcS a b c u v w pp 0 1, pcS a b c u v w pp 0 2, pcS a b c u v w pp k 3, pcS a b c u v w pp k 4, pcS a b c u v w pp k 5]].getD (j - (l + k)) []).getD j_1 0))])
      else
        False
    else
      L (XK.exit 2) ([A.int .i64 (Int.ofNat pp), A.sl 32 (l + k), A.ptr 176 0, A.sl 80 m, A.int .i64 p1, A.int .i64 p2, A.int .i64 (Int.ofNat pp), A.int .i64 (Int.ofNat k)]) ([some (O.var [A.flt .f32 a, A.flt .f32 b, A.flt .f32 c, A.flt .f32 u, A.flt .f32 v, A.flt .f32 w]), some (O.row 0 6 m (Row.flns .f32 6 gg)), some (O.row 119 6 (l + k) (Row.flns .f32 6 fun p => jnR l hh (fun t => pcS a b c u v w pp t) p))]) := by kernel_rfl
noncomputable def F106k : List A → List (Option O) → Option R3
  | [.int .i64 (.ofNat pp), .sl 32 l, .ptr 176 0, .sl 80 m, .int .i64 p1, .int .i64 p2, .int .i64 q, .int .i64 0], [some (.var [.flt .f32 a, .flt .f32 b, .flt .f32 c, .flt .f32 u, .flt .f32 v, .flt .f32 w]), some (.row 0 6 m2 (.flns .f32 6 gg)), some (.row 119 6 l2 (.flns .f32 6 hh))] => some (.ite (decide (q = Int.ofNat pp) && Nat.beq m m2 && Nat.beq l l2 && Nat.ble pp 32 && Nat.ble l 100000) (.leaf .normal (I106k m l pp a b c u v w p1 p2 gg hh (pp)) (J106k m l pp a b c u v w p1 p2 gg hh (pp))) .fail)
  | _, _ => none
theorem loop106k : CodeOK Try.prog (fun _ σ => sumAt Try.f104.ntmps 240 [1, 5, 7, 11, 12, 13, 17, 18] [176, 80, 32] F106k σ) (.block 2 (.loop (loopOf Try.f104 2))) := by
  refine block_ok (own := fun _ => true) (lp := (fun _ => none)) (un := 0) (fuel := 1000) cfg18_ok (lp_none _) fun az os R hF hok => ?_
  unfold F106k at hF
  split at hF
  · rename_i pp l m p1 p2 q a b c u v w m2 gg l2 hh
    injection hF with hF
    subst hF
    have hg := hok.guard
    have hg' := hg
    simp only [Bool.and_eq_true, Nat.ble_eq, Nat.beq_eq, decide_eq_true_eq] at hg'
    obtain ⟨⟨⟨⟨rfl, rfl⟩, rfl⟩, hpp⟩, hl⟩ := hg'
    refine for_fact (ids := [176, 80, 32]) (fun _ => true) (pp) (I106k m l pp a b c u v w p1 p2 gg hh) (J106k m l pp a b c u v w p1 p2 gg hh) _ (.ret) (I106k m l pp a b c u v w p1 p2 gg hh) (I106k m l pp a b c u v w p1 p2 gg hh) (I106k m l pp a b c u v w p1 p2 gg hh (pp)) (J106k m l pp a b c u v w p1 p2 gg hh (pp)) rfl (by unfold J106k; exact ⟨rfl, ⟨0, _, rfl, .inr rfl, fun _ _ => rfl⟩, ⟨119, _, rfl, .inr rfl, fun p hp => flns_at fun d _ => jnR_zero hp d⟩, trivial⟩) (fun _ => rfl) (fun _ => rfl) (fun _ => ALe.self _) (fun _ => rfl) (ALe.self _) (OSims.self _) rfl (fun h => by cases h) (fun k hk L h1 h2 h3 => ?_) fun L hL => ?_
    · rw [round106k]
      by_cases hkm : k < pp
      · refine condT (lt_dec hkm) ?_
        rw [wrap_succ (by omega)]
        refine condT (decide_eq_true (by omega)) ?_
        exact h1 hkm rfl _ ⟨rfl, ⟨0, _, rfl, .inr rfl, fun _ _ => rfl⟩, ⟨119, _, rfl, .inr rfl, fun p hp => flns_at fun d hd => jnR_lit hp (by
          match d, hd with
          | 0, _ | 1, _ | 2, _ | 3, _ | 4, _ | 5, _ => rfl
          | d + 6, hd => omega)⟩, trivial⟩
      · refine condE (ge_dec (by omega)) ?_
        obtain rfl : k = pp := by omega
        exact h3 rfl
    · exact ⟨fun _ => hL.1 hg, fun N _ h => by cases h⟩
  · cases hF
noncomputable def lpi106i : List (Nat × (St → T)) := [(2, sumAt Try.f104.ntmps 240 [1, 5, 7, 11, 12, 13, 17, 18] [176, 80, 32] F106k)]
theorem lpi106i_ok : LpOK Try.prog (look lpi106i) (loopOf Try.f104 0) := lp_in (lp_loops (by kernel_rfl) (by kernel_rfl) fun p hp => by
  simp only [lpi106i, List.mem_cons, List.not_mem_nil, or_false] at hp
  rcases hp with rfl
  · exact loop106k) _
noncomputable def I106i (m pp : Nat) (gg : Nat → Nat → Nat) (k : Nat) : List A := [.int .i64 (.ofNat pp), .sl 32 (pp * k), .sl 80 m, .int .i64 (Int.ofNat m), .int .i64 (Int.ofNat k)]
noncomputable def J106i (m pp : Nat) (gg : Nat → Nat → Nat) (k : Nat) : List O := [.row 0 6 m (.flns .f32 6 gg), .row 119 6 (pp * k) (.flns .f32 6 (pc gg pp))]
theorem round106i (m pp : Nat) (gg : Nat → Nat → Nat) (k : Nat) (L : XK → List A → List (Option O) → Prop) :
    ((exec cfg18 (fun _ => true) (look lpi106i) 0 1000 (loopOf Try.f104 0) (litSt Try.f104.ntmps 128 [1, 5, 11, 12, 13] [80, 32] (I106i m pp gg k) (J106i m pp gg k))).rt [1, 5, 11, 12, 13] [80, 32]).Ok L =
    bif decide (Int.ofNat k < Int.ofNat m) then
      bif decide (Int.ofNat k < Int.ofNat m) then
        bif decide (Int.ofNat pp = Int.ofNat pp) && m.beq m && (pp * k).beq (pp * k) && pp.ble 32 && (pp * k).ble 100000 then
          L (XK.normal) ([A.int .i64 (Int.ofNat pp), A.sl 32 (pp * k + pp), A.sl 80 m, A.int .i64 (Int.ofNat m), A.int .i64 (IntKind.i64.wrap (Int.ofNat k + Int.ofNat 1))]) ([some (O.row 0 6 m (Row.flns .f32 6 gg)), some (O.row 119 6 (pp * k + pp) (Row.flns .f32 6 fun p => jnR (pp * k) (pc gg pp) (fun t => pcS (gg k 0) (gg k 1) (gg k 2) (gg k 3) (gg k 4) (gg k 5) pp t) p))])
        else
          False
      else
        False
    else
      L (XK.exit 0) ([A.int .i64 (Int.ofNat pp), A.sl 32 (pp * k), A.sl 80 m, A.int .i64 (Int.ofNat m), A.int .i64 (Int.ofNat k)]) ([some (O.row 0 6 m (Row.flns .f32 6 gg)), some (O.row 119 6 (pp * k) (Row.flns .f32 6 fun j => pc gg pp j))]) := by kernel_rfl
noncomputable def F106i : List A → List (Option O) → Option R3
  | [.int .i64 (.ofNat pp), .sl 32 0, .sl 80 m, .int .i64 q, .int .i64 0], [some (.row 0 6 m2 (.flns .f32 6 gg)), some (.row 119 6 0 g1)] => some (.ite (decide (q = Int.ofNat m) && Nat.beq m m2 && Nat.ble pp 32 && Nat.ble m 1000) (.leaf .normal (I106i m pp gg (m)) (J106i m pp gg (m))) .fail)
  | _, _ => none
theorem loop106i : CodeOK Try.prog (fun _ σ => sumAt Try.f104.ntmps 128 [1, 5, 11, 12, 13] [80, 32] F106i σ) (.block 0 (.loop (loopOf Try.f104 0))) := by
  refine block_ok (own := fun _ => true) (lp := (look lpi106i)) (un := 0) (fuel := 1000) cfg18_ok lpi106i_ok fun az os R hF hok => ?_
  unfold F106i at hF
  split at hF
  · rename_i pp m q m2 gg g1
    injection hF with hF
    subst hF
    have hg := hok.guard
    have hg' := hg
    simp only [Bool.and_eq_true, Nat.ble_eq, Nat.beq_eq, decide_eq_true_eq] at hg'
    obtain ⟨⟨⟨rfl, rfl⟩, hpp⟩, hm⟩ := hg'
    refine for_fact (ids := [80, 32]) (fun _ => true) (m) (I106i m pp gg) (J106i m pp gg) _ (.ret) (I106i m pp gg) (I106i m pp gg) (I106i m pp gg (m)) (J106i m pp gg (m)) rfl (by unfold J106i; exact ⟨⟨0, _, rfl, .inr rfl, fun _ _ => rfl⟩, ⟨119, _, rfl, .inr rfl, fun p hp => absurd hp (by omega)⟩, trivial⟩) (fun _ => rfl) (fun _ => rfl) (fun _ => ALe.self _) (fun _ => rfl) (ALe.self _) (OSims.self _) rfl (fun h => by cases h) (fun k hk L h1 h2 h3 => ?_) fun L hL => ?_
    · rw [round106i]
      by_cases hkm : k < m
      · refine condT (lt_dec hkm) ?_
        have hmul : pp * k ≤ 32 * 1000 := Nat.mul_le_mul hpp (by omega)
        rw [wrap_succ (by omega)]
        refine condT (lt_dec hkm) ?_
        refine condT (by rw [decide_eq_true rfl, Nat.beq_refl, Nat.beq_refl, ble_of hpp, ble_of (show pp * k ≤ 100000 by omega)]; rfl) ?_
        exact h1 hkm rfl _ (by
          unfold J106i
          exact ⟨⟨0, _, rfl, .inr rfl, fun _ _ => rfl⟩, ⟨119, _, rfl, .inr rfl, fun p hp => flns_at fun d _ => pc_step hp d⟩, trivial⟩)
      · refine condE (ge_dec (by omega)) ?_
        obtain rfl : k = m := by omega
        exact h3 rfl
    · exact ⟨fun _ => hL.1 hg, fun N _ h => by cases h⟩
  · cases hF
noncomputable def lp106 : List (Nat × (St → T)) := [(0, sumAt Try.f104.ntmps 128 [1, 5, 11, 12, 13] [80, 32] F106i)]
theorem lp106_ok : LpOK Try.prog (look lp106) (bodyOf Try.f104) := lp_loops (by kernel_rfl) (by kernel_rfl) fun p hp => by
  simp only [lp106, List.mem_cons, List.not_mem_nil, or_false] at hp
  rcases hp with rfl
  · exact loop106i
theorem auto106 (n cur pp : Nat) (x y z : Nat → Nat) (cl : Bool) : autoLp cfg18 (look lp106) Try.f104 [.agg [.ro 3 n (.vecs .f32 x y z), .bool cl, .flt .f32 cur], .int .i64 (.ofNat pp)] =
    some (Nat.ble 1 n && n.ble 1073741824 && (decide (Int.ofNat (cnt n cl) = Int.ofNat (cnt n cl)) && (cnt n cl).beq (cnt n cl) && pp.ble 32 && (cnt n cl).ble 1000 && true), A.ro 6 (pp * cnt n cl) (Row.flns .f32 6 fun j => pc (sg n x y z) pp j)) := by kernel_rfl
noncomputable def s106 : List A → Option (Bool × A)
  | [.agg [.ro 3 n (.vecs .f32 x y z), .bool cl, .flt .f32 cur], .int .i64 (.ofNat pp)] => some (Nat.ble 1 n && Nat.ble n 1000 && Nat.ble pp 32, .ro 6 (pp * cnt n cl) (.flns .f32 6 (pc (sg n x y z) pp)))
  | _ => none
theorem s106_at : EnvAt Try.prog 104 s106 := of_auto cfg18_ok lp106_ok Try.func104 (by kernel_rfl) (by kernel_rfl) fun ds cc rr h hc => by
  unfold s106 at h
  split at h
  · rename_i n x y z cl cur pp
    simp only [Option.some.injEq, Prod.mk.injEq] at h
    obtain ⟨rfl, rfl⟩ := h
    refine auto_fit (auto106 n cur pp x y z cl) ?_ ?_
    · rfl
    · simp only [Bool.and_eq_true, Nat.ble_eq] at hc
      have h3 := cnt_le n cl
      rw [ble_of hc.1.1, ble_of (show n ≤ 1073741824 by omega), decide_eq_true rfl, Nat.beq_refl, ble_of hc.2, ble_of (show cnt n cl ≤ 1000 by omega)]; rfl
  · cases h
end Go.Fw.E1

/-
  The pieces of wires, as the reference has them; sums of pairs.
-/
namespace Go.Fw.E1
open Go.Proofs
noncomputable def env19 : List (Nat × (List A → Option (Bool × A))) := (104, s106) :: env18
theorem env19_ok : EnvOK Try.prog (look env19) := (env_cons s106_at env18_ok)
noncomputable def cfg19 : Cfg := mkCfg tab [] xts (look env19)
theorem cfg19_ok : CfgOK Try.prog cfg19 := cfg_ok tab_eq (no_fts _) xts_ok env19_ok mixed
end Go.Fw.E1

/-
  Sums over all pairs of pieces.
-/
namespace Go.Fw.E1
open Go.Proofs
def psR (u v w : Nat) (q : Nat → Nat → Nat) (th j : Nat) : Nat := root32 (fop .add .f32 (inn (fop .sub .f32 u (q j 3)) (fop .sub .f32 v (q j 4)) (fop .sub .f32 w (q j 5)) (fop .sub .f32 u (q j 3)) (fop .sub .f32 v (q j 4)) (fop .sub .f32 w (q j 5))) (fop .mul .f32 th th))
def psC (u v w : Nat) (q : Nat → Nat → Nat) (th j : Nat) : Bool := forder .f32 (psR u v w q th j) (can .f32 0) == some .gt
def psA (a b c u v w : Nat) (q : Nat → Nat → Nat) (th j s : Nat) : Nat := fop .add .f32 s (fop .quo .f32 (inn a b c (q j 0) (q j 1) (q j 2)) (psR u v w q th j))
def psIn (a b c u v w : Nat) (q : Nat → Nat → Nat) (th s : Nat) : Nat → Nat
  | 0 => s
  | k + 1 => bif psC u v w q th k then psA a b c u v w q th k (psIn a b c u v w q th s k) else psIn a b c u v w q th s k
theorem psIn_t {a b c u v w : Nat} {q : Nat → Nat → Nat} {th s k : Nat} (h : psC u v w q th k = true) : psIn a b c u v w q th s (k + 1) = psA a b c u v w q th k (psIn a b c u v w q th s k) := by simp only [psIn, h, cond_true]
theorem psIn_f {a b c u v w : Nat} {q : Nat → Nat → Nat} {th s k : Nat} (h : psC u v w q th k = false) : psIn a b c u v w q th s (k + 1) = psIn a b c u v w q th s k := by simp only [psIn, h, cond_false]
def psOut (p q : Nat → Nat → Nat) (th lq s : Nat) : Nat → Nat
  | 0 => s
  | k + 1 => psIn (p k 0) (p k 1) (p k 2) (p k 3) (p k 4) (p k 5) q th (psOut p q th lq s k) lq
noncomputable def I114j (lp lq th s a b c u v w : Nat) (p1 p2 : Int) (gg hh : Nat → Nat → Nat) (k : Nat) : List A := [.flt .f32 th, .flt .f32 (psIn a b c u v w hh th s k), .sl 96 lq, .ptr 256 0, .sl 160 lp, .int .i64 p1, .int .i64 p2, .sl 96 lq, .int .i64 (Int.ofNat lq), .int .i64 (Int.ofNat k)]
noncomputable def J114j (lp lq th s a b c u v w : Nat) (p1 p2 : Int) (gg hh : Nat → Nat → Nat) (k : Nat) : List O := [.var [.flt .f32 a, .flt .f32 b, .flt .f32 c, .flt .f32 u, .flt .f32 v, .flt .f32 w], .row 0 6 lp (.flns .f32 6 gg), .row 0 6 lq (.flns .f32 6 hh)]
theorem round114j (lp lq th s a b c u v w : Nat) (p1 p2 : Int) (gg hh : Nat → Nat → Nat) (k : Nat) (L : XK → List A → List (Option O) → Prop) :
    ((exec cfg19 (fun _ => true) (fun _ => none) 0 1000 (loopOf Try.f106 2) (litSt Try.f106.ntmps 336 [2, 9, 10, 12, 22, 23, 24, 28, 29, 30] [256, 160, 96] (I114j lp lq th s a b c u v w p1 p2 gg hh k) (J114j lp lq th s a b c u v w p1 p2 gg hh k))).rt [2, 9, 10, 12, 22, 23, 24, 28, 29, 30] [256, 160, 96]).Ok L =
    bif decide (Int.ofNat k < Int.ofNat lq) then
      bif decide (Int.ofNat k < Int.ofNat lq) then
        bif forder .f32 (root32 (fop .add .f32 (inn (fop .sub .f32 u (hh k 3)) (fop .sub .f32 v (hh k 4)) (fop .sub .f32 w (hh k 5)) (fop .sub .f32 u (hh k 3)) (fop .sub .f32 v (hh k 4)) (fop .sub .f32 w (hh k 5))) (fop .mul .f32 th th))) (can .f32 0) == some Ordering.gt then
          L (XK.normal) ([A.flt .f32 th, A.flt .f32 (fop .add .f32 (psIn a b c u v w hh th s k) (fop .quo .f32 (inn a b c (hh k 0) (hh k 1) (hh k 2)) (root32 (fop .add .f32 (inn (fop .sub .f32 u (hh k 3)) (fop .sub .f32 v (hh k 4)) (fop .sub .f32 w (hh k 5)) (fop .sub .f32 u (hh k 3)) (fop .sub .f32 v (hh k 4)) (fop .sub .f32 w (hh k 5))) (fop .mul .f32 th th))))), A.sl 96 lq, A.ptr 256 0, A.sl 160 lp, A.int .i64 p1, A.int .i64 p2, A.sl 96 lq, A.int .i64 (Int.ofNat lq), A.int .i64 (IntKind.i64.wrap (Int.ofNat k + Int.ofNat 1))]) ([some (O.var [A.flt .f32 a, A.flt .f32 b, A.flt .f32 c, A.flt .f32 u, A.flt .f32 v, A.flt .f32 w]), some (O.row 0 6 lp (Row.flns .f32 6 gg)), some (O.row 0 6 lq (Row.flns .f32 6 hh))])
        else
          L (XK.normal) ([A.flt .f32 th, A.flt .f32 (psIn a b c u v w hh th s k), A.sl 96 lq, A.ptr 256 0, A.sl 160 lp, A.int .i64 p1, A.int .i64 p2, A.sl 96 lq, A.int .i64 (Int.ofNat lq), A.int .i64 (IntKind.i64.wrap (Int.ofNat k + Int.ofNat 1))]) ([some (O.var [A.flt .f32 a, A.flt .f32 b, A.flt .f32 c, A.flt .f32 u, A.flt .f32 v, A.flt .f32 w]), some (O.row 0 6 lp (Row.flns .f32 6 gg)), some (O.row 0 6 lq (Row.flns .f32 6 hh))])
      else
        False
    else
      L (XK.exit 2) ([A.flt .f32 th, A.flt .f32 (psIn a b c u v w hh th s k), A.sl 96 lq, A.ptr 256 0, A.sl 160 lp, A.int .i64 p1, A.int .i64 p2, A.sl 96 lq, A.int .i64 (Int.ofNat lq), A.int .i64 (Int.ofNat k)]) ([some (O.var [A.flt .f32 a, A.flt .f32 b, A.flt .f32 c, A.flt .f32 u, A.flt .f32 v, A.flt .f32 w]), some (O.row 0 6 lp (Row.flns .f32 6 gg)), some (O.row 0 6 lq (Row.flns .f32 6 hh))]) := by kernel_rfl
noncomputable def F114j : List A → List (Option O) → Option R3
  | [.flt .f32 th, .flt .f32 s, .sl 96 lq, .ptr 256 0, .sl 160 lp, .int .i64 p1, .int .i64 p2, .sl 96 lq3, .int .i64 q, .int .i64 0], [some (.var [.flt .f32 a, .flt .f32 b, .flt .f32 c, .flt .f32 u, .flt .f32 v, .flt .f32 w]), some (.row 0 6 lp2 (.flns .f32 6 gg)), some (.row 0 6 lq2 (.flns .f32 6 hh))] => some (.ite (decide (q = Int.ofNat lq) && Nat.beq lp lp2 && Nat.beq lq lq2 && Nat.beq lq lq3 && Nat.ble lq 100000) (.leaf .normal (I114j lp lq th s a b c u v w p1 p2 gg hh (lq)) (J114j lp lq th s a b c u v w p1 p2 gg hh (lq))) .fail)
  | _, _ => none
theorem loop114j : CodeOK Try.prog (fun _ σ => sumAt Try.f106.ntmps 336 [2, 9, 10, 12, 22, 23, 24, 28, 29, 30] [256, 160, 96] F114j σ) (.block 2 (.loop (loopOf Try.f106 2))) := by
  refine block_ok (own := fun _ => true) (lp := (fun _ => none)) (un := 0) (fuel := 1000) cfg19_ok (lp_none _) fun az os R hF hok => ?_
  unfold F114j at hF
  split at hF
  · rename_i th s lq lp p1 p2 lq3 q a b c u v w lp2 gg lq2 hh
    injection hF with hF
    subst hF
    have hg := hok.guard
    have hg' := hg
    simp only [Bool.and_eq_true, Nat.ble_eq, Nat.beq_eq, decide_eq_true_eq] at hg'
    obtain ⟨⟨⟨⟨rfl, rfl⟩, rfl⟩, rfl⟩, hlq⟩ := hg'
    refine for_fact (ids := [256, 160, 96]) (fun _ => true) (lq) (I114j lp lq th s a b c u v w p1 p2 gg hh) (J114j lp lq th s a b c u v w p1 p2 gg hh) _ (.ret) (I114j lp lq th s a b c u v w p1 p2 gg hh) (I114j lp lq th s a b c u v w p1 p2 gg hh) (I114j lp lq th s a b c u v w p1 p2 gg hh (lq)) (J114j lp lq th s a b c u v w p1 p2 gg hh (lq)) rfl (OSims.self _) (fun _ => rfl) (fun _ => rfl) (fun _ => ALe.self _) (fun _ => rfl) (ALe.self _) (OSims.self _) rfl (fun h => by cases h) (fun k hk L h1 h2 h3 => ?_) fun L hL => ?_
    · rw [round114j]
      by_cases hkm : k < lq
      · refine condT (lt_dec hkm) ?_
        rw [wrap_succ (by omega)]
        refine condT (lt_dec hkm) ?_
        show cond (psC u v w hh th k) _ _
        have h := h1 hkm rfl _ (OSims.self (J114j lp lq th s a b c u v w p1 p2 gg hh (k + 1)))
        cases hs : psC u v w hh th k
        · simp only [I114j, psIn_f hs] at h; exact h
        · simp only [I114j, psIn_t hs] at h; exact h
      · refine condE (ge_dec (by omega)) ?_
        obtain rfl : k = lq := by omega
        exact h3 rfl
    · exact ⟨fun _ => hL.1 hg, fun N _ h => by cases h⟩
  · cases hF
noncomputable def lpi114i : List (Nat × (St → T)) := [(2, sumAt Try.f106.ntmps 336 [2, 9, 10, 12, 22, 23, 24, 28, 29, 30] [256, 160, 96] F114j)]
theorem lpi114i_ok : LpOK Try.prog (look lpi114i) (loopOf Try.f106 0) := lp_in (lp_loops (by kernel_rfl) (by kernel_rfl) fun p hp => by
  simp only [lpi114i, List.mem_cons, List.not_mem_nil, or_false] at hp
  rcases hp with rfl
  · exact loop114j) _
noncomputable def I114i (lp lq th s : Nat) (gg hh : Nat → Nat → Nat) (k : Nat) : List A := [.flt .f32 th, .flt .f32 (psOut gg hh th lq s k), .sl 96 lq, .sl 160 lp, .int .i64 (Int.ofNat lp), .int .i64 (Int.ofNat k)]
noncomputable def J114i (lp lq th s : Nat) (gg hh : Nat → Nat → Nat) (k : Nat) : List O := [.row 0 6 lp (.flns .f32 6 gg), .row 0 6 lq (.flns .f32 6 hh)]
theorem round114i (lp lq th s : Nat) (gg hh : Nat → Nat → Nat) (k : Nat) (L : XK → List A → List (Option O) → Prop) :
    ((exec cfg19 (fun _ => true) (look lpi114i) 0 1000 (loopOf Try.f106 0) (litSt Try.f106.ntmps 208 [2, 9, 10, 22, 23, 24] [160, 96] (I114i lp lq th s gg hh k) (J114i lp lq th s gg hh k))).rt [2, 9, 10, 22, 23, 24] [160, 96]).Ok L =
    bif decide (Int.ofNat k < Int.ofNat lp) then
      bif decide (Int.ofNat k < Int.ofNat lp) then
        bif decide (Int.ofNat lq = Int.ofNat lq) && lp.beq lp && lq.beq lq && lq.beq lq && lq.ble 100000 then
          L (XK.normal) ([A.flt .f32 th, A.flt .f32 (psIn (gg k 0) (gg k 1) (gg k 2) (gg k 3) (gg k 4) (gg k 5) hh th (psOut gg hh th lq s k) lq), A.sl 96 lq, A.sl 160 lp, A.int .i64 (Int.ofNat lp), A.int .i64 (IntKind.i64.wrap (Int.ofNat k + Int.ofNat 1))]) ([some (O.row 0 6 lp (Row.flns .f32 6 gg)), some (O.row 0 6 lq (Row.flns .f32 6 hh))])
        else
          False
      else
        False
    else
      L (XK.exit 0) ([A.flt .f32 th, A.flt .f32 (psOut gg hh th lq s k), A.sl 96 lq, A.sl 160 lp, A.int .i64 (Int.ofNat lp), A.int .i64 (Int.ofNat k)]) ([some (O.row 0 6 lp (Row.flns .f32 6 gg)), some (O.row 0 6 lq (Row.flns .f32 6 hh))]) := by kernel_rfl
noncomputable def F114i : List A → List (Option O) → Option R3
  | [.flt .f32 th, .flt .f32 s, .sl 96 lq, .sl 160 lp, .int .i64 q, .int .i64 0], [some (.row 0 6 lp2 (.flns .f32 6 gg)), some (.row 0 6 lq2 (.flns .f32 6 hh))] => some (.ite (decide (q = Int.ofNat lp) && Nat.beq lp lp2 && Nat.beq lq lq2 && Nat.ble lp 100000 && Nat.ble lq 100000) (.leaf .normal (I114i lp lq th s gg hh (lp)) (J114i lp lq th s gg hh (lp))) .fail)
  | _, _ => none
theorem loop114i : CodeOK Try.prog (fun _ σ => sumAt Try.f106.ntmps 208 [2, 9, 10, 22, 23, 24] [160, 96] F114i σ) (.block 0 (.loop (loopOf Try.f106 0))) := by
  refine block_ok (own := fun _ => true) (lp := (look lpi114i)) (un := 0) (fuel := 1000) cfg19_ok lpi114i_ok fun az os R hF hok => ?_
  unfold F114i at hF
  split at hF
  · rename_i th s lq lp q lp2 gg lq2 hh
    injection hF with hF
    subst hF
    have hg := hok.guard
    have hg' := hg
    simp only [Bool.and_eq_true, Nat.ble_eq, Nat.beq_eq, decide_eq_true_eq] at hg'
    obtain ⟨⟨⟨⟨rfl, rfl⟩, rfl⟩, hlp⟩, hlq⟩ := hg'
    refine for_fact (ids := [160, 96]) (fun _ => true) (lp) (I114i lp lq th s gg hh) (J114i lp lq th s gg hh) _ (.ret) (I114i lp lq th s gg hh) (I114i lp lq th s gg hh) (I114i lp lq th s gg hh (lp)) (J114i lp lq th s gg hh (lp)) rfl (OSims.self _) (fun _ => rfl) (fun _ => rfl) (fun _ => ALe.self _) (fun _ => rfl) (ALe.self _) (OSims.self _) rfl (fun h => by cases h) (fun k hk L h1 h2 h3 => ?_) fun L hL => ?_
    · rw [round114i]
      by_cases hkm : k < lp
      · refine condT (lt_dec hkm) ?_
        rw [wrap_succ (by omega)]
        refine condT (lt_dec hkm) ?_
        refine condT (by rw [decide_eq_true rfl, Nat.beq_refl, Nat.beq_refl, ble_of hlq]; rfl) ?_
        exact h1 hkm rfl _ (OSims.self (J114i lp lq th s gg hh (k + 1)))
      · refine condE (ge_dec (by omega)) ?_
        obtain rfl : k = lp := by omega
        exact h3 rfl
    · exact ⟨fun _ => hL.1 hg, fun N _ h => by cases h⟩
  · cases hF
noncomputable def psW (n : Nat) (x y z : Nat → Nat) (cl : Bool) (n2 : Nat) (x2 y2 z2 : Nat → Nat) (cl2 : Bool) (th pp : Nat) : Nat := psOut (pc (sg n x y z) pp) (pc (sg n2 x2 y2 z2) pp) th (pp * cnt n2 cl2) (can .f32 0) (pp * cnt n cl)
theorem pcnt_le {n pp : Nat} {cl : Bool} (hn : n ≤ 1000) (hpp : pp ≤ 32) : pp * cnt n cl ≤ 100000 := by
  have h1 := cnt_le n cl
  have h2 : pp * cnt n cl ≤ 32 * 1000 := Nat.mul_le_mul hpp (by omega)
  omega
noncomputable def lp114 : List (Nat × (St → T)) := [(0, sumAt Try.f106.ntmps 208 [2, 9, 10, 22, 23, 24] [160, 96] F114i)]
theorem lp114_ok : LpOK Try.prog (look lp114) (bodyOf Try.f106) := lp_loops (by kernel_rfl) (by kernel_rfl) fun p hp => by
  simp only [lp114, List.mem_cons, List.not_mem_nil, or_false] at hp
  rcases hp with rfl
  · exact loop114i
theorem auto114 (n cur n2 cur2 th pp : Nat) (x y z x2 y2 z2 : Nat → Nat) (cl cl2 : Bool) : autoLp cfg19 (look lp114) Try.f106 [.agg [.ro 3 n (.vecs .f32 x y z), .bool cl, .flt .f32 cur], .agg [.ro 3 n2 (.vecs .f32 x2 y2 z2), .bool cl2, .flt .f32 cur2], .flt .f32 th, .int .i64 (.ofNat pp)] =
    some (Nat.ble 1 n2 && n2.ble 1000 && pp.ble 32 && (Nat.ble 1 n && n.ble 1000 && pp.ble 32 && (decide (Int.ofNat (pp * cnt n cl) = Int.ofNat (pp * cnt n cl)) && (pp * cnt n cl).beq (pp * cnt n cl) && (pp * cnt n2 cl2).beq (pp * cnt n2 cl2) && (pp * cnt n cl).ble 100000 && (pp * cnt n2 cl2).ble 100000 && true)), A.flt .f32 (psOut (pc (sg n x y z) pp) (pc (sg n2 x2 y2 z2) pp) th (pp * cnt n2 cl2) (can .f32 0) (pp * cnt n cl))) := by kernel_rfl
noncomputable def s114 : List A → Option (Bool × A)
  | [.agg [.ro 3 n (.vecs .f32 x y z), .bool cl, .flt .f32 cur], .agg [.ro 3 n2 (.vecs .f32 x2 y2 z2), .bool cl2, .flt .f32 cur2], .flt .f32 th, .int .i64 (.ofNat pp)] => some (Nat.ble 1 n && Nat.ble n 1000 && Nat.ble 1 n2 && Nat.ble n2 1000 && Nat.ble pp 32, .flt .f32 (psW n x y z cl n2 x2 y2 z2 cl2 th pp))
  | _ => none
theorem s114_at : EnvAt Try.prog 106 s114 := of_auto cfg19_ok lp114_ok Try.func106 (by kernel_rfl) (by kernel_rfl) fun ds cc rr h hc => by
  unfold s114 at h
  split at h
  · rename_i n x y z cl cur n2 x2 y2 z2 cl2 cur2 th pp
    simp only [Option.some.injEq, Prod.mk.injEq] at h
    obtain ⟨rfl, rfl⟩ := h
    refine auto_fit (auto114 n cur n2 cur2 th pp x y z x2 y2 z2 cl cl2) ?_ ?_
    · rfl
    · simp only [Bool.and_eq_true, Nat.ble_eq] at hc
      obtain ⟨⟨⟨⟨k1, k2⟩, k3⟩, k4⟩, k5⟩ := hc
      rw [ble_of k1, ble_of k2, ble_of k3, ble_of k4, ble_of k5, decide_eq_true rfl, Nat.beq_refl, Nat.beq_refl, ble_of (pcnt_le (cl := cl) k2 k5), ble_of (pcnt_le (cl := cl2) k4 k5)]; rfl
  · cases h
end Go.Fw.E1

/-
  The sum over pairs of pieces of two wires: the law.
-/
namespace Go.Fw.E1
open Go.Proofs
noncomputable def env20 : List (Nat × (List A → Option (Bool × A))) := (106, s114) :: env19
theorem env20_ok : EnvOK Try.prog (look env20) := (env_cons s114_at env19_ok)
noncomputable def two (n cur : Nat) (x y z : Nat → Nat) (n2 cur2 : Nat) (x2 y2 z2 : Nat → Nat) (th : Nat) (p : Int) : Bool := bif bif bif okW n cur x y z then okW n2 cur2 x2 y2 z2 else false then least th else false then inI p 1 8 else false
noncomputable def env21 : List (Nat × (List A → Option (Bool × A))) := env20
theorem env21_ok : EnvOK Try.prog (look env21) := env20_ok
noncomputable def env22 : List (Nat × (List A → Option (Bool × A))) := env21
theorem env22_ok : EnvOK Try.prog (look env22) := env21_ok
noncomputable def cfg22 : Cfg := mkCfg tab [] xts (look env22)
theorem cfg22_ok : CfgOK Try.prog cfg22 := cfg_ok tab_eq (no_fts _) xts_ok env22_ok mixed
end Go.Fw.E1

/-
  Forces between wires: sums over all pairs of pieces.
-/
namespace Go.Fw.E1
open Go.Proofs
def fbQ (u v w : Nat) (q : Nat → Nat → Nat) (j : Nat) : Nat := inn (fop .sub .f32 u (q j 3)) (fop .sub .f32 v (q j 4)) (fop .sub .f32 w (q j 5)) (fop .sub .f32 u (q j 3)) (fop .sub .f32 v (q j 4)) (fop .sub .f32 w (q j 5))
def fbC (u v w : Nat) (q : Nat → Nat → Nat) (j : Nat) : Bool := forder .f32 (fbQ u v w q j) (can .f32 0) == some .gt
def fbF (a b c u v w : Nat) (q : Nat → Nat → Nat) (j : Nat) : Nat := fop .quo .f32 (fneg .f32 (inn a b c (q j 0) (q j 1) (q j 2))) (fop .mul .f32 (fbQ u v w q j) (root32 (fbQ u v w q j)))
def fbX (a b c u v w : Nat) (q : Nat → Nat → Nat) (s : Nat) : Nat → Nat
  | 0 => s
  | k + 1 => bif fbC u v w q k then fop .add .f32 (fbX a b c u v w q s k) (fop .mul .f32 (fop .sub .f32 u (q k 3)) (fbF a b c u v w q k)) else fbX a b c u v w q s k
theorem fbX_t {a b c u v w : Nat} {q : Nat → Nat → Nat} {s k : Nat} (h : fbC u v w q k = true) : fbX a b c u v w q s (k + 1) = fop .add .f32 (fbX a b c u v w q s k) (fop .mul .f32 (fop .sub .f32 u (q k 3)) (fbF a b c u v w q k)) := by simp only [fbX, h, cond_true]
theorem fbX_f {a b c u v w : Nat} {q : Nat → Nat → Nat} {s k : Nat} (h : fbC u v w q k = false) : fbX a b c u v w q s (k + 1) = fbX a b c u v w q s k := by simp only [fbX, h, cond_false]
def foX (p q : Nat → Nat → Nat) (lq s : Nat) : Nat → Nat
  | 0 => s
  | k + 1 => fbX (p k 0) (p k 1) (p k 2) (p k 3) (p k 4) (p k 5) q (foX p q lq s k) lq
def fbY (a b c u v w : Nat) (q : Nat → Nat → Nat) (s : Nat) : Nat → Nat
  | 0 => s
  | k + 1 => bif fbC u v w q k then fop .add .f32 (fbY a b c u v w q s k) (fop .mul .f32 (fop .sub .f32 v (q k 4)) (fbF a b c u v w q k)) else fbY a b c u v w q s k
theorem fbY_t {a b c u v w : Nat} {q : Nat → Nat → Nat} {s k : Nat} (h : fbC u v w q k = true) : fbY a b c u v w q s (k + 1) = fop .add .f32 (fbY a b c u v w q s k) (fop .mul .f32 (fop .sub .f32 v (q k 4)) (fbF a b c u v w q k)) := by simp only [fbY, h, cond_true]
theorem fbY_f {a b c u v w : Nat} {q : Nat → Nat → Nat} {s k : Nat} (h : fbC u v w q k = false) : fbY a b c u v w q s (k + 1) = fbY a b c u v w q s k := by simp only [fbY, h, cond_false]
def foY (p q : Nat → Nat → Nat) (lq s : Nat) : Nat → Nat
  | 0 => s
  | k + 1 => fbY (p k 0) (p k 1) (p k 2) (p k 3) (p k 4) (p k 5) q (foY p q lq s k) lq
def fbZ (a b c u v w : Nat) (q : Nat → Nat → Nat) (s : Nat) : Nat → Nat
  | 0 => s
  | k + 1 => bif fbC u v w q k then fop .add .f32 (fbZ a b c u v w q s k) (fop .mul .f32 (fop .sub .f32 w (q k 5)) (fbF a b c u v w q k)) else fbZ a b c u v w q s k
theorem fbZ_t {a b c u v w : Nat} {q : Nat → Nat → Nat} {s k : Nat} (h : fbC u v w q k = true) : fbZ a b c u v w q s (k + 1) = fop .add .f32 (fbZ a b c u v w q s k) (fop .mul .f32 (fop .sub .f32 w (q k 5)) (fbF a b c u v w q k)) := by simp only [fbZ, h, cond_true]
theorem fbZ_f {a b c u v w : Nat} {q : Nat → Nat → Nat} {s k : Nat} (h : fbC u v w q k = false) : fbZ a b c u v w q s (k + 1) = fbZ a b c u v w q s k := by simp only [fbZ, h, cond_false]
def foZ (p q : Nat → Nat → Nat) (lq s : Nat) : Nat → Nat
  | 0 => s
  | k + 1 => fbZ (p k 0) (p k 1) (p k 2) (p k 3) (p k 4) (p k 5) q (foZ p q lq s k) lq
noncomputable def I48j (lp lq s t r a b c u v w : Nat) (p1 p2 : Int) (gg hh : Nat → Nat → Nat) (n cur n2 cur2 : Nat) (x y z x2 y2 z2 : Nat → Nat) (cl cl2 : Bool) (k : Nat) : List A := [.ptr 0 0, .ptr 16 0, .ptr 32 0, .bool false, .ptr 288 0, .sl 352 lq, .ptr 512 0, .sl 416 lp, .int .i64 p1, .int .i64 p2, .sl 352 lq, .int .i64 (Int.ofNat lq), .int .i64 (Int.ofNat k)]
noncomputable def J48j (lp lq s t r a b c u v w : Nat) (p1 p2 : Int) (gg hh : Nat → Nat → Nat) (n cur n2 cur2 : Nat) (x y z x2 y2 z2 : Nat → Nat) (cl cl2 : Bool) (k : Nat) : List O := [.var [.flt .f32 a, .flt .f32 b, .flt .f32 c, .flt .f32 u, .flt .f32 v, .flt .f32 w], .var [.flt .f32 (fbX a b c u v w hh s k), .flt .f32 (fbY a b c u v w hh t k), .flt .f32 (fbZ a b c u v w hh r k)], .row 0 6 lq (.flns .f32 6 hh), .row 0 6 lp (.flns .f32 6 gg), .var [.flt .f32 0, .flt .f32 0, .flt .f32 0], .var [.ro 3 n2 (.vecs .f32 x2 y2 z2), .bool cl2, .flt .f32 cur2], .var [.ro 3 n (.vecs .f32 x y z), .bool cl, .flt .f32 cur]]
theorem round48j (lp lq s t r a b c u v w : Nat) (p1 p2 : Int) (gg hh : Nat → Nat → Nat) (n cur n2 cur2 : Nat) (x y z x2 y2 z2 : Nat → Nat) (cl cl2 : Bool) (k : Nat) (L : XK → List A → List (Option O) → Prop) :
    ((exec cfg22 (fun _ => true) (fun _ => none) 0 1000 (loopOf Try.f53 2) (litSt Try.f53.ntmps 592 [3, 4, 6, 7, 8, 9, 11, 36, 37, 38, 42, 43, 44] [512, 288, 352, 416, 32, 16, 0] (I48j lp lq s t r a b c u v w p1 p2 gg hh n cur n2 cur2 x y z x2 y2 z2 cl cl2 k) (J48j lp lq s t r a b c u v w p1 p2 gg hh n cur n2 cur2 x y z x2 y2 z2 cl cl2 k))).rt [3, 4, 6, 7, 8, 9, 11, 36, 37, 38, 42, 43, 44] [512, 288, 352, 416, 32, 16, 0]).Ok L =
    bif decide (Int.ofNat k < Int.ofNat lq) then
      bif decide (Int.ofNat k < Int.ofNat lq) then
        bif forder .f32 (inn (fop .sub .f32 u (hh k 3)) (fop .sub .f32 v (hh k 4)) (fop .sub .f32 w (hh k 5)) (fop .sub .f32 u (hh k 3)) (fop .sub .f32 v (hh k 4)) (fop .sub .f32 w (hh k 5))) (can .f32 0) == some Ordering.gt then
          L (XK.normal) ([A.ptr 0 0, A.ptr 16 0, A.ptr 32 0, A.bool false, A.ptr 288 0, A.sl 352 lq, A.ptr 512 0, A.sl 416 lp, A.int .i64 p1, A.int .i64 p2, A.sl 352 lq, A.int .i64 (Int.ofNat lq), A.int .i64 (IntKind.i64.wrap (Int.ofNat k + Int.ofNat 1))]) ([some (O.var [A.flt .f32 a, A.flt .f32 b, A.flt .f32 c, A.flt .f32 u, A.flt .f32 v, A.flt .f32 w]), some (O.var [A.flt .f32 (fop .add .f32 (fbX a b c u v w hh s k) (fop .mul .f32 (fop .sub .f32 u (hh k 3)) (fop .quo .f32 (fneg .f32 (inn a b c (hh k 0) (hh k 1) (hh k 2))) (fop .mul .f32 (inn (fop .sub .f32 u (hh k 3)) (fop .sub .f32 v (hh k 4)) (fop .sub .f32 w (hh k 5)) (fop .sub .f32 u (hh k 3)) (fop .sub .f32 v (hh k 4)) (fop .sub .f32 w (hh k 5))) (root32 (inn (fop .sub .f32 u (hh k 3)) (fop .sub .f32 v (hh k 4)) (fop .sub .f32 w (hh k 5)) (fop .sub .f32 u (hh k 3)) (fop .sub .f32 v (hh k 4)) (fop .sub .f32 w (hh k 5)))))))), A.flt .f32 (fop .add .f32 (fbY a b c u v w hh t k) (fop .mul .f32 (fop .sub .f32 v (hh k 4)) (fop .quo .f32 (fneg .f32 (inn a b c (hh k 0) (hh k 1) (hh k 2))) (fop .mul .f32 (inn (fop .sub .f32 u (hh k 3)) (fop .sub .f32 v (hh k 4)) (fop .sub .f32 w (hh k 5)) (fop .sub .f32 u (hh k 3)) (fop .sub .f32 v (hh k 4)) (fop .sub .f32 w (hh k 5))) (root32 (inn (fop .sub .f32 u (hh k 3)) (fop .sub .f32 v (hh k 4)) (fop .sub .f32 w (hh k 5)) (fop .sub .f32 u (hh k 3)) (fop .sub .f32 v (hh k 4)) (fop .sub .f32 w (hh k 5)))))))), A.flt .f32 (fop .add .f32 (fbZ a b c u v w hh r k) (fop .mul .f32 (fop .sub .f32 w (hh k 5)) (fop .quo .f32 (fneg .f32 (inn a b c (hh k 0) (hh k 1) (hh k 2))) (fop .mul .f32 (inn (fop .sub .f32 u (hh k 3)) (fop .sub .f32 v (hh k 4)) (fop .sub .f32 w (hh k 5)) (fop .sub .f32 u (hh k 3)) (fop .sub .f32 v (hh k 4)) (fop .sub .f32 w (hh k 5))) (root32 (inn (fop .sub .f32 u (hh k 3)) (fop .sub .f32 v (hh k 4)) (fop .sub .f32 w (hh k 5)) (fop .sub .f32 u (hh k 3)) (fop .sub .f32 v (hh k 4)) (fop .sub .f32 w (hh k 5))))))))]), some (O.row 0 6 lq (Row.flns .f32 6 hh)), some (O.row 0 6 lp (Row.flns .f32 6 gg)), some (O.var [A.flt .f32 0, A.flt .f32 0, A.flt .f32 0]), some (O.var [A.ro 3 n2 (Row.vecs .f32 x2 y2 z2), A.bool cl2, A.flt .f32 cur2]), some (O.var [A.ro 3 n (Row.vecs .f32 x y z), A.bool cl, A.flt .f32 cur])])
        else
          L (XK.normal) ([A.ptr 0 0, A.ptr 16 0, A.ptr 32 0, A.bool false, A.ptr 288 0, A.sl 352 lq, A.ptr 512 0, A.sl 416 lp, A.int .i64 p1, A.int .i64 p2, A.sl 352 lq, A.int .i64 (Int.ofNat lq), A.int .i64 (IntKind.i64.wrap (Int.ofNat k + Int.ofNat 1))]) ([some (O.var [A.flt .f32 a, A.flt .f32 b, A.flt .f32 c, A.flt .f32 u, A.flt .f32 v, A.flt .f32 w]), some (O.var [A.flt .f32 (fbX a b c u v w hh s k), A.flt .f32 (fbY a b c u v w hh t k), A.flt .f32 (fbZ a b c u v w hh r k)]), some (O.row 0 6 lq (Row.flns .f32 6 hh)), some (O.row 0 6 lp (Row.flns .f32 6 gg)), some (O.var [A.flt .f32 0, A.flt .f32 0, A.flt .f32 0]), some (O.var [A.ro 3 n2 (Row.vecs .f32 x2 y2 z2), A.bool cl2, A.flt .f32 cur2]), some (O.var [A.ro 3 n (Row.vecs .f32 x y z), A.bool cl, A.flt .f32 cur])])
      else
        False
    else
      L (XK.exit 2) ([A.ptr 0 0, A.ptr 16 0, A.ptr 32 0, A.bool false, A.ptr 288 0, A.sl 352 lq, A.ptr 512 0, A.sl 416 lp, A.int .i64 p1, A.int .i64 p2, A.sl 352 lq, A.int .i64 (Int.ofNat lq), A.int .i64 (Int.ofNat k)]) ([some (O.var [A.flt .f32 a, A.flt .f32 b, A.flt .f32 c, A.flt .f32 u, A.flt .f32 v, A.flt .f32 w]), some (O.var [A.flt .f32 (fbX a b c u v w hh s k), A.flt .f32 (fbY a b c u v w hh t k), A.flt .f32 (fbZ a b c u v w hh r k)]), some (O.row 0 6 lq (Row.flns .f32 6 hh)), some (O.row 0 6 lp (Row.flns .f32 6 gg)), some (O.var [A.flt .f32 0, A.flt .f32 0, A.flt .f32 0]), some (O.var [A.ro 3 n2 (Row.vecs .f32 x2 y2 z2), A.bool cl2, A.flt .f32 cur2]), some (O.var [A.ro 3 n (Row.vecs .f32 x y z), A.bool cl, A.flt .f32 cur])]) := by kernel_rfl
noncomputable def F48j : List A → List (Option O) → Option R3
  | [.ptr 0 0, .ptr 16 0, .ptr 32 0, .bool false, .ptr 288 0, .sl 352 lq, .ptr 512 0, .sl 416 lp, .int .i64 p1, .int .i64 p2, .sl 352 lq3, .int .i64 q, .int .i64 0], [some (.var [.flt .f32 a, .flt .f32 b, .flt .f32 c, .flt .f32 u, .flt .f32 v, .flt .f32 w]), some (.var [.flt .f32 s, .flt .f32 t, .flt .f32 r]), some (.row 0 6 lq2 (.flns .f32 6 hh)), some (.row 0 6 lp2 (.flns .f32 6 gg)), some (.var [.flt .f32 0, .flt .f32 0, .flt .f32 0]), some (.var [.ro 3 n2 (.vecs .f32 x2 y2 z2), .bool cl2, .flt .f32 cur2]), some (.var [.ro 3 n (.vecs .f32 x y z), .bool cl, .flt .f32 cur])] => some (.ite (decide (q = Int.ofNat lq) && Nat.beq lp lp2 && Nat.beq lq lq2 && Nat.beq lq lq3 && Nat.ble lq 100000) (.leaf .normal (I48j lp lq s t r a b c u v w p1 p2 gg hh n cur n2 cur2 x y z x2 y2 z2 cl cl2 (lq)) (J48j lp lq s t r a b c u v w p1 p2 gg hh n cur n2 cur2 x y z x2 y2 z2 cl cl2 (lq))) .fail)
  | _, _ => none
theorem loop48j : CodeOK Try.prog (fun _ σ => sumAt Try.f53.ntmps 592 [3, 4, 6, 7, 8, 9, 11, 36, 37, 38, 42, 43, 44] [512, 288, 352, 416, 32, 16, 0] F48j σ) (.block 2 (.loop (loopOf Try.f53 2))) := by
  refine block_ok (own := fun _ => true) (lp := (fun _ => none)) (un := 0) (fuel := 1000) cfg22_ok (lp_none _) fun az os R hF hok => ?_
  unfold F48j at hF
  split at hF
  · rename_i lq lp p1 p2 lq3 q a b c u v w s t r lq2 hh lp2 gg n2 x2 y2 z2 cl2 cur2 n x y z cl cur
    injection hF with hF
    subst hF
    have hg := hok.guard
    have hg' := hg
    simp only [Bool.and_eq_true, Nat.ble_eq, Nat.beq_eq, decide_eq_true_eq] at hg'
    obtain ⟨⟨⟨⟨rfl, rfl⟩, rfl⟩, rfl⟩, hlq⟩ := hg'
    refine for_fact (ids := [512, 288, 352, 416, 32, 16, 0]) (fun _ => true) (lq) (I48j lp lq s t r a b c u v w p1 p2 gg hh n cur n2 cur2 x y z x2 y2 z2 cl cl2) (J48j lp lq s t r a b c u v w p1 p2 gg hh n cur n2 cur2 x y z x2 y2 z2 cl cl2) _ (.ret) (I48j lp lq s t r a b c u v w p1 p2 gg hh n cur n2 cur2 x y z x2 y2 z2 cl cl2) (I48j lp lq s t r a b c u v w p1 p2 gg hh n cur n2 cur2 x y z x2 y2 z2 cl cl2) (I48j lp lq s t r a b c u v w p1 p2 gg hh n cur n2 cur2 x y z x2 y2 z2 cl cl2 (lq)) (J48j lp lq s t r a b c u v w p1 p2 gg hh n cur n2 cur2 x y z x2 y2 z2 cl cl2 (lq)) rfl (OSims.self _) (fun _ => rfl) (fun _ => rfl) (fun _ => ALe.self _) (fun _ => rfl) (ALe.self _) (OSims.self _) rfl (fun h => by cases h) (fun k hk L h1 h2 h3 => ?_) fun L hL => ?_
    · rw [round48j]
      by_cases hkm : k < lq
      · refine condT (lt_dec hkm) ?_
        rw [wrap_succ (by omega)]
        refine condT (lt_dec hkm) ?_
        show cond (fbC u v w hh k) _ _
        cases hs : fbC u v w hh k
        · exact h1 hkm rfl _ (by unfold J48j; rw [fbX_f hs, fbY_f hs, fbZ_f hs]; exact OSims.self [_, _, _, _, _, _, _])
        · exact h1 hkm rfl _ (by unfold J48j; rw [fbX_t hs, fbY_t hs, fbZ_t hs]; exact OSims.self [_, _, _, _, _, _, _])
      · refine condE (ge_dec (by omega)) ?_
        obtain rfl : k = lq := by omega
        exact h3 rfl
    · exact ⟨fun _ => hL.1 hg, fun N _ h => by cases h⟩
  · cases hF
noncomputable def lpi48i : List (Nat × (St → T)) := [(2, sumAt Try.f53.ntmps 592 [3, 4, 6, 7, 8, 9, 11, 36, 37, 38, 42, 43, 44] [512, 288, 352, 416, 32, 16, 0] F48j)]
theorem lpi48i_ok : LpOK Try.prog (look lpi48i) (loopOf Try.f53 0) := lp_in (lp_loops (by kernel_rfl) (by kernel_rfl) fun p hp => by
  simp only [lpi48i, List.mem_cons, List.not_mem_nil, or_false] at hp
  rcases hp with rfl
  · exact loop48j) _
noncomputable def I48i (lp lq s t r : Nat) (gg hh : Nat → Nat → Nat) (n cur n2 cur2 : Nat) (x y z x2 y2 z2 : Nat → Nat) (cl cl2 : Bool) (k : Nat) : List A := [.ptr 0 0, .ptr 16 0, .ptr 32 0, .bool false, .ptr 288 0, .sl 352 lq, .sl 416 lp, .int .i64 (Int.ofNat lp), .int .i64 (Int.ofNat k)]
noncomputable def J48i (lp lq s t r : Nat) (gg hh : Nat → Nat → Nat) (n cur n2 cur2 : Nat) (x y z x2 y2 z2 : Nat → Nat) (cl cl2 : Bool) (k : Nat) : List O := [.var [.flt .f32 (foX gg hh lq s k), .flt .f32 (foY gg hh lq t k), .flt .f32 (foZ gg hh lq r k)], .row 0 6 lq (.flns .f32 6 hh), .row 0 6 lp (.flns .f32 6 gg), .var [.flt .f32 0, .flt .f32 0, .flt .f32 0], .var [.ro 3 n2 (.vecs .f32 x2 y2 z2), .bool cl2, .flt .f32 cur2], .var [.ro 3 n (.vecs .f32 x y z), .bool cl, .flt .f32 cur]]
theorem round48i (lp lq s t r : Nat) (gg hh : Nat → Nat → Nat) (n cur n2 cur2 : Nat) (x y z x2 y2 z2 : Nat → Nat) (cl cl2 : Bool) (k : Nat) (L : XK → List A → List (Option O) → Prop) :
    ((exec cfg22 (fun _ => true) (look lpi48i) 0 1000 (loopOf Try.f53 0) (litSt Try.f53.ntmps 464 [3, 4, 6, 7, 8, 9, 36, 37, 38] [288, 352, 416, 32, 16, 0] (I48i lp lq s t r gg hh n cur n2 cur2 x y z x2 y2 z2 cl cl2 k) (J48i lp lq s t r gg hh n cur n2 cur2 x y z x2 y2 z2 cl cl2 k))).rt [3, 4, 6, 7, 8, 9, 36, 37, 38] [288, 352, 416, 32, 16, 0]).Ok L =
    bif decide (Int.ofNat k < Int.ofNat lp) then
      bif decide (Int.ofNat k < Int.ofNat lp) then
        bif decide (Int.ofNat lq = Int.ofNat lq) && lp.beq lp && lq.beq lq && lq.beq lq && lq.ble 100000 then
          L (XK.normal) ([A.ptr 0 0, A.ptr 16 0, A.ptr 32 0, A.bool false, A.ptr 288 0, A.sl 352 lq, A.sl 416 lp, A.int .i64 (Int.ofNat lp), A.int .i64 (IntKind.i64.wrap (Int.ofNat k + Int.ofNat 1))]) ([some (O.var [A.flt .f32 (fbX (gg k 0) (gg k 1) (gg k 2) (gg k 3) (gg k 4) (gg k 5) hh (foX gg hh lq s k) lq), A.flt .f32 (fbY (gg k 0) (gg k 1) (gg k 2) (gg k 3) (gg k 4) (gg k 5) hh (foY gg hh lq t k) lq), A.flt .f32 (fbZ (gg k 0) (gg k 1) (gg k 2) (gg k 3) (gg k 4) (gg k 5) hh (foZ gg hh lq r k) lq)]), some (O.row 0 6 lq (Row.flns .f32 6 hh)), some (O.row 0 6 lp (Row.flns .f32 6 gg)), some (O.var [A.flt .f32 0, A.flt .f32 0, A.flt .f32 0]), some (O.var [A.ro 3 n2 (Row.vecs .f32 x2 y2 z2), A.bool cl2, A.flt .f32 cur2]), some (O.var [A.ro 3 n (Row.vecs .f32 x y z), A.bool cl, A.flt .f32 cur])])
        else
          False
      else
        False
    else
      L (XK.exit 0) ([A.ptr 0 0, A.ptr 16 0, A.ptr 32 0, A.bool false, A.ptr 288 0, A.sl 352 lq, A.sl 416 lp, A.int .i64 (Int.ofNat lp), A.int .i64 (Int.ofNat k)]) ([some (O.var [A.flt .f32 (foX gg hh lq s k), A.flt .f32 (foY gg hh lq t k), A.flt .f32 (foZ gg hh lq r k)]), some (O.row 0 6 lq (Row.flns .f32 6 hh)), some (O.row 0 6 lp (Row.flns .f32 6 gg)), some (O.var [A.flt .f32 0, A.flt .f32 0, A.flt .f32 0]), some (O.var [A.ro 3 n2 (Row.vecs .f32 x2 y2 z2), A.bool cl2, A.flt .f32 cur2]), some (O.var [A.ro 3 n (Row.vecs .f32 x y z), A.bool cl, A.flt .f32 cur])]) := by kernel_rfl
noncomputable def F48i : List A → List (Option O) → Option R3
  | [.ptr 0 0, .ptr 16 0, .ptr 32 0, .bool false, .ptr 288 0, .sl 352 lq, .sl 416 lp, .int .i64 q, .int .i64 0], [some (.var [.flt .f32 s, .flt .f32 t, .flt .f32 r]), some (.row 0 6 lq2 (.flns .f32 6 hh)), some (.row 0 6 lp2 (.flns .f32 6 gg)), some (.var [.flt .f32 0, .flt .f32 0, .flt .f32 0]), some (.var [.ro 3 n2 (.vecs .f32 x2 y2 z2), .bool cl2, .flt .f32 cur2]), some (.var [.ro 3 n (.vecs .f32 x y z), .bool cl, .flt .f32 cur])] => some (.ite (decide (q = Int.ofNat lp) && Nat.beq lp lp2 && Nat.beq lq lq2 && Nat.ble lq 100000 && Nat.ble lp 100000) (.leaf .normal (I48i lp lq s t r gg hh n cur n2 cur2 x y z x2 y2 z2 cl cl2 (lp)) (J48i lp lq s t r gg hh n cur n2 cur2 x y z x2 y2 z2 cl cl2 (lp))) .fail)
  | _, _ => none
theorem loop48i : CodeOK Try.prog (fun _ σ => sumAt Try.f53.ntmps 464 [3, 4, 6, 7, 8, 9, 36, 37, 38] [288, 352, 416, 32, 16, 0] F48i σ) (.block 0 (.loop (loopOf Try.f53 0))) := by
  refine block_ok (own := fun _ => true) (lp := (look lpi48i)) (un := 0) (fuel := 1000) cfg22_ok lpi48i_ok fun az os R hF hok => ?_
  unfold F48i at hF
  split at hF
  · rename_i lq lp q s t r lq2 hh lp2 gg n2 x2 y2 z2 cl2 cur2 n x y z cl cur
    injection hF with hF
    subst hF
    have hg := hok.guard
    have hg' := hg
    simp only [Bool.and_eq_true, Nat.ble_eq, Nat.beq_eq, decide_eq_true_eq] at hg'
    obtain ⟨⟨⟨⟨rfl, rfl⟩, rfl⟩, hlq⟩, hlp⟩ := hg'
    refine for_fact (ids := [288, 352, 416, 32, 16, 0]) (fun _ => true) (lp) (I48i lp lq s t r gg hh n cur n2 cur2 x y z x2 y2 z2 cl cl2) (J48i lp lq s t r gg hh n cur n2 cur2 x y z x2 y2 z2 cl cl2) _ (.ret) (I48i lp lq s t r gg hh n cur n2 cur2 x y z x2 y2 z2 cl cl2) (I48i lp lq s t r gg hh n cur n2 cur2 x y z x2 y2 z2 cl cl2) (I48i lp lq s t r gg hh n cur n2 cur2 x y z x2 y2 z2 cl cl2 (lp)) (J48i lp lq s t r gg hh n cur n2 cur2 x y z x2 y2 z2 cl cl2 (lp)) rfl (OSims.self _) (fun _ => rfl) (fun _ => rfl) (fun _ => ALe.self _) (fun _ => rfl) (ALe.self _) (OSims.self _) rfl (fun h => by cases h) (fun k hk L h1 h2 h3 => ?_) fun L hL => ?_
    · rw [round48i]
      by_cases hkm : k < lp
      · refine condT (lt_dec hkm) ?_
        rw [wrap_succ (by omega)]
        refine condT (lt_dec hkm) ?_
        refine condT (by rw [decide_eq_true rfl, Nat.beq_refl, Nat.beq_refl, ble_of hlq]; rfl) ?_
        exact h1 hkm rfl _ (OSims.self (J48i lp lq s t r gg hh n cur n2 cur2 x y z x2 y2 z2 cl cl2 (k + 1)))
      · refine condE (ge_dec (by omega)) ?_
        obtain rfl : k = lp := by omega
        exact h3 rfl
    · exact ⟨fun _ => hL.1 hg, fun N _ h => by cases h⟩
  · cases hF
end Go.Fw.E1

/-
  Forces between wires: the law.
-/
namespace Go.Fw.E1
open Go.Proofs
noncomputable def two3 (n cur : Nat) (x y z : Nat → Nat) (n2 cur2 : Nat) (x2 y2 z2 : Nat → Nat) (p : Int) : Bool := bif bif okW n cur x y z then okW n2 cur2 x2 y2 z2 else false then inI p 1 8 else false
theorem two3_ok {n cur : Nat} {x y z : Nat → Nat} {n2 cur2 : Nat} {x2 y2 z2 : Nat → Nat} {p : Int} (h : two3 n cur x y z n2 cur2 x2 y2 z2 p = true) : (2 ≤ n ∧ n ≤ 48) ∧ (2 ≤ n2 ∧ n2 ≤ 48) ∧ 1 ≤ p ∧ p ≤ 8 := by
  unfold two3 at h
  cases h1 : okW n cur x y z
  · rw [h1] at h; cases h
  cases h2 : okW n2 cur2 x2 y2 z2
  · rw [h1, h2] at h; cases h
  rw [h1, h2] at h
  have h4 : inI p 1 8 = true := h
  unfold inI at h4
  cases h5 : decide (p ≥ 1)
  · rw [h5] at h4; cases h4
  · rw [h5] at h4
    exact ⟨okW_n h1, okW_n h2, of_decide_eq_true h5, of_decide_eq_true h4⟩
theorem not_two3 (n cur : Nat) (x y z : Nat → Nat) (n2 cur2 : Nat) (x2 y2 z2 : Nat → Nat) (p : Int) : (bif bif !okW n cur x y z then true else !okW n2 cur2 x2 y2 z2 then true else !inI p (Int.ofNat 1) (Int.ofNat 8)) = !two3 n cur x y z n2 cur2 x2 y2 z2 p := by
  show (bif bif !okW n cur x y z then true else !okW n2 cur2 x2 y2 z2 then true else !inI p 1 8) = _
  unfold two3
  cases okW n cur x y z <;> cases okW n2 cur2 x2 y2 z2 <;> cases inI p 1 8 <;> rfl
theorem two3_neg (n cur : Nat) (x y z : Nat → Nat) (n2 cur2 : Nat) (x2 y2 z2 : Nat → Nat) (pp : Nat) : two3 n cur x y z n2 cur2 x2 y2 z2 (Int.negSucc pp) = false := by
  cases h : two3 n cur x y z n2 cur2 x2 y2 z2 (Int.negSucc pp)
  · rfl
  · have := (two3_ok h).2.2.1; omega
noncomputable def fwXb (n cur : Nat) (x y z : Nat → Nat) (cl : Bool) (n2 cur2 : Nat) (x2 y2 z2 : Nat → Nat) (cl2 : Bool) (pp : Nat) : Nat := fop .mul .f32 (foX (pc (sg n x y z) pp) (pc (sg n2 x2 y2 z2) pp) (pp * cnt n2 cl2) 0 (pp * cnt n cl)) (fop .mul .f32 cur cur2)
noncomputable def fwYb (n cur : Nat) (x y z : Nat → Nat) (cl : Bool) (n2 cur2 : Nat) (x2 y2 z2 : Nat → Nat) (cl2 : Bool) (pp : Nat) : Nat := fop .mul .f32 (foY (pc (sg n x y z) pp) (pc (sg n2 x2 y2 z2) pp) (pp * cnt n2 cl2) 0 (pp * cnt n cl)) (fop .mul .f32 cur cur2)
noncomputable def fwZb (n cur : Nat) (x y z : Nat → Nat) (cl : Bool) (n2 cur2 : Nat) (x2 y2 z2 : Nat → Nat) (cl2 : Bool) (pp : Nat) : Nat := fop .mul .f32 (foZ (pc (sg n x y z) pp) (pc (sg n2 x2 y2 z2) pp) (pp * cnt n2 cl2) 0 (pp * cnt n cl)) (fop .mul .f32 cur cur2)
noncomputable def fbOk (n cur : Nat) (x y z : Nat → Nat) (cl : Bool) (n2 cur2 : Nat) (x2 y2 z2 : Nat → Nat) (cl2 : Bool) (pp : Nat) : Bool := two3 n cur x y z n2 cur2 x2 y2 z2 (Int.ofNat pp) && vfin (fwXb n cur x y z cl n2 cur2 x2 y2 z2 cl2 pp) (fwYb n cur x y z cl n2 cur2 x2 y2 z2 cl2 pp) (fwZb n cur x y z cl n2 cur2 x2 y2 z2 cl2 pp)
noncomputable def env23 : List (Nat × (List A → Option (Bool × A))) := env22
theorem env23_ok : EnvOK Try.prog (look env23) := env22_ok
noncomputable def cfg23 : Cfg := mkCfg tab [] xts (look env23)
theorem cfg23_ok : CfgOK Try.prog cfg23 := cfg_ok tab_eq (no_fts _) xts_ok env23_ok mixed
noncomputable def lp48a : List (Nat × (St → T)) := [(0, sumAt Try.f53.ntmps 464 [3, 4, 6, 7, 8, 9, 36, 37, 38] [288, 352, 416, 32, 16, 0] F48i)]
theorem lp48a_ok : LpOK Try.prog (look lp48a) (bodyOf Try.f53) := lp_loops (by kernel_rfl) (by kernel_rfl) fun p hp => by
  simp only [lp48a, List.mem_cons, List.not_mem_nil, or_false] at hp
  rcases hp with rfl
  · exact loop48i
theorem auto48a (n cur n2 cur2 pp : Nat) (x y z x2 y2 z2 : Nat → Nat) (cl cl2 : Bool) : autoLp cfg23 (look lp48a) Try.f53 [.agg [.ro 3 n (.vecs .f32 x y z), .bool cl, .flt .f32 cur], .agg [.ro 3 n2 (.vecs .f32 x2 y2 z2), .bool cl2, .flt .f32 cur2], .int .i64 (.ofNat pp)] =
    some (n.ble 4611686018427387000 && ((n2.ble 4611686018427387000 || !(!okW n cur x y z) == false) && bif bif bif !okW n cur x y z then true else !okW n2 cur2 x2 y2 z2 then true else !inI (Int.ofNat pp) (Int.ofNat 1) (Int.ofNat 8) then true else Nat.ble 1 n2 && n2.ble 1000 && pp.ble 32 && (Nat.ble 1 n && n.ble 1000 && pp.ble 32 && (decide (Int.ofNat (pp * cnt n cl) = Int.ofNat (pp * cnt n cl)) && (pp * cnt n cl).beq (pp * cnt n cl) && (pp * cnt n2 cl2).beq (pp * cnt n2 cl2) && (pp * cnt n2 cl2).ble 100000 && (pp * cnt n cl).ble 100000 && true))), A.tup [A.agg [A.flt .f32 (bif bif bif !okW n cur x y z then true else !okW n2 cur2 x2 y2 z2 then true else !inI (Int.ofNat pp) (Int.ofNat 1) (Int.ofNat 8) then 0 else bif vfin (fop .mul .f32 (foX (pc (sg n x y z) pp) (pc (sg n2 x2 y2 z2) pp) (pp * cnt n2 cl2) 0 (pp * cnt n cl)) (fop .mul .f32 cur cur2)) (fop .mul .f32 (foY (pc (sg n x y z) pp) (pc (sg n2 x2 y2 z2) pp) (pp * cnt n2 cl2) 0 (pp * cnt n cl)) (fop .mul .f32 cur cur2)) (fop .mul .f32 (foZ (pc (sg n x y z) pp) (pc (sg n2 x2 y2 z2) pp) (pp * cnt n2 cl2) 0 (pp * cnt n cl)) (fop .mul .f32 cur cur2)) then fop .mul .f32 (foX (pc (sg n x y z) pp) (pc (sg n2 x2 y2 z2) pp) (pp * cnt n2 cl2) 0 (pp * cnt n cl)) (fop .mul .f32 cur cur2) else can .f32 0), A.flt .f32 (bif bif bif !okW n cur x y z then true else !okW n2 cur2 x2 y2 z2 then true else !inI (Int.ofNat pp) (Int.ofNat 1) (Int.ofNat 8) then 0 else bif vfin (fop .mul .f32 (foX (pc (sg n x y z) pp) (pc (sg n2 x2 y2 z2) pp) (pp * cnt n2 cl2) 0 (pp * cnt n cl)) (fop .mul .f32 cur cur2)) (fop .mul .f32 (foY (pc (sg n x y z) pp) (pc (sg n2 x2 y2 z2) pp) (pp * cnt n2 cl2) 0 (pp * cnt n cl)) (fop .mul .f32 cur cur2)) (fop .mul .f32 (foZ (pc (sg n x y z) pp) (pc (sg n2 x2 y2 z2) pp) (pp * cnt n2 cl2) 0 (pp * cnt n cl)) (fop .mul .f32 cur cur2)) then fop .mul .f32 (foY (pc (sg n x y z) pp) (pc (sg n2 x2 y2 z2) pp) (pp * cnt n2 cl2) 0 (pp * cnt n cl)) (fop .mul .f32 cur cur2) else can .f32 0), A.flt .f32 (bif bif bif !okW n cur x y z then true else !okW n2 cur2 x2 y2 z2 then true else !inI (Int.ofNat pp) (Int.ofNat 1) (Int.ofNat 8) then 0 else bif vfin (fop .mul .f32 (foX (pc (sg n x y z) pp) (pc (sg n2 x2 y2 z2) pp) (pp * cnt n2 cl2) 0 (pp * cnt n cl)) (fop .mul .f32 cur cur2)) (fop .mul .f32 (foY (pc (sg n x y z) pp) (pc (sg n2 x2 y2 z2) pp) (pp * cnt n2 cl2) 0 (pp * cnt n cl)) (fop .mul .f32 cur cur2)) (fop .mul .f32 (foZ (pc (sg n x y z) pp) (pc (sg n2 x2 y2 z2) pp) (pp * cnt n2 cl2) 0 (pp * cnt n cl)) (fop .mul .f32 cur cur2)) then fop .mul .f32 (foZ (pc (sg n x y z) pp) (pc (sg n2 x2 y2 z2) pp) (pp * cnt n2 cl2) 0 (pp * cnt n cl)) (fop .mul .f32 cur cur2) else can .f32 0)], A.bool (bif bif bif !okW n cur x y z then true else !okW n2 cur2 x2 y2 z2 then true else !inI (Int.ofNat pp) (Int.ofNat 1) (Int.ofNat 8) then false else vfin (fop .mul .f32 (foX (pc (sg n x y z) pp) (pc (sg n2 x2 y2 z2) pp) (pp * cnt n2 cl2) 0 (pp * cnt n cl)) (fop .mul .f32 cur cur2)) (fop .mul .f32 (foY (pc (sg n x y z) pp) (pc (sg n2 x2 y2 z2) pp) (pp * cnt n2 cl2) 0 (pp * cnt n cl)) (fop .mul .f32 cur cur2)) (fop .mul .f32 (foZ (pc (sg n x y z) pp) (pc (sg n2 x2 y2 z2) pp) (pp * cnt n2 cl2) 0 (pp * cnt n cl)) (fop .mul .f32 cur cur2)))]) := by kernel_rfl
noncomputable def s48a : List A → Option (Bool × A)
  | [.agg [.ro 3 n (.vecs .f32 x y z), .bool cl, .flt .f32 cur], .agg [.ro 3 n2 (.vecs .f32 x2 y2 z2), .bool cl2, .flt .f32 cur2], .int .i64 (.ofNat pp)] => some (Nat.ble n 1048576 && Nat.ble n2 1048576, .tup [.agg [.flt .f32 (bif fbOk n cur x y z cl n2 cur2 x2 y2 z2 cl2 pp then fwXb n cur x y z cl n2 cur2 x2 y2 z2 cl2 pp else 0), .flt .f32 (bif fbOk n cur x y z cl n2 cur2 x2 y2 z2 cl2 pp then fwYb n cur x y z cl n2 cur2 x2 y2 z2 cl2 pp else 0), .flt .f32 (bif fbOk n cur x y z cl n2 cur2 x2 y2 z2 cl2 pp then fwZb n cur x y z cl n2 cur2 x2 y2 z2 cl2 pp else 0)], .bool (fbOk n cur x y z cl n2 cur2 x2 y2 z2 cl2 pp)])
  | _ => none
theorem s48a_at : EnvAt Try.prog 53 s48a := of_auto cfg23_ok lp48a_ok Try.func53 (by kernel_rfl) (by kernel_rfl) fun ds cc rr h hc => by
  unfold s48a at h
  split at h
  · rename_i n x y z cl cur n2 x2 y2 z2 cl2 cur2 pp
    simp only [Option.some.injEq, Prod.mk.injEq] at h
    obtain ⟨rfl, rfl⟩ := h
    refine auto_fit (auto48a n cur n2 cur2 pp x y z x2 y2 z2 cl cl2) ?_ ?_
    · rw [not_two3]
      unfold fbOk
      cases two3 n cur x y z n2 cur2 x2 y2 z2 (Int.ofNat pp) <;> rfl
    · simp only [Bool.and_eq_true, Nat.ble_eq] at hc
      rw [ble_of (show n ≤ 4611686018427387000 by omega), ble_of (show n2 ≤ 4611686018427387000 by omega), not_two3]
      cases ht : two3 n cur x y z n2 cur2 x2 y2 z2 (Int.ofNat pp)
      · simp
      · obtain ⟨k1, k2, k3, k4⟩ := two3_ok ht
        simp at k4
        rw [ble_of (show 1 ≤ n by omega), ble_of (show n ≤ 1000 by omega), ble_of (show 1 ≤ n2 by omega), ble_of (show n2 ≤ 1000 by omega), ble_of (show pp ≤ 32 by omega), decide_eq_true rfl, Nat.beq_refl, Nat.beq_refl, ble_of (pcnt_le (cl := cl) (show n ≤ 1000 by omega) (show pp ≤ 32 by omega)), ble_of (pcnt_le (cl := cl2) (show n2 ≤ 1000 by omega) (show pp ≤ 32 by omega))]
        simp
  · cases h
noncomputable def lp48b : List (Nat × (St → T)) := [(0, sumAt Try.f53.ntmps 464 [3, 4, 6, 7, 8, 9, 36, 37, 38] [288, 352, 416, 32, 16, 0] F48i)]
theorem lp48b_ok : LpOK Try.prog (look lp48b) (bodyOf Try.f53) := lp_loops (by kernel_rfl) (by kernel_rfl) fun p hp => by
  simp only [lp48b, List.mem_cons, List.not_mem_nil, or_false] at hp
  rcases hp with rfl
  · exact loop48i
theorem auto48b (n cur n2 cur2 pp : Nat) (x y z x2 y2 z2 : Nat → Nat) (cl cl2 : Bool) : autoS cfg23 (look lp48b) true Try.f53 [.agg [.ro 3 n (.vecs .f32 x y z), .bool cl, .flt .f32 cur], .agg [.ro 3 n2 (.vecs .f32 x2 y2 z2), .bool cl2, .flt .f32 cur2], .int .i64 (.negSucc pp)] =
    some (n.ble 4611686018427387000 && ((n2.ble 4611686018427387000 || !(!okW n cur x y z) == false) && ((bif bif !okW n cur x y z then true else !okW n2 cur2 x2 y2 z2 then true else !inI (Int.negSucc pp) (Int.ofNat 1) (Int.ofNat 8)) && true)), A.tup [A.agg [A.flt .f32 0, A.flt .f32 0, A.flt .f32 0], A.bool false]) := by kernel_rfl
noncomputable def s48b : List A → Option (Bool × A)
  | [.agg [.ro 3 n (.vecs .f32 x y z), .bool cl, .flt .f32 cur], .agg [.ro 3 n2 (.vecs .f32 x2 y2 z2), .bool cl2, .flt .f32 cur2], .int .i64 (.negSucc pp)] => some (Nat.ble n 1048576 && Nat.ble n2 1048576, .tup [.agg [.flt .f32 0, .flt .f32 0, .flt .f32 0], .bool false])
  | _ => none
theorem s48b_at : EnvAt Try.prog 53 s48b := of_autoS cfg23_ok lp48b_ok Try.func53 (by kernel_rfl) (by kernel_rfl) fun ds cc rr h hc => by
  unfold s48b at h
  split at h
  · rename_i n x y z cl cur n2 x2 y2 z2 cl2 cur2 pp
    simp only [Option.some.injEq, Prod.mk.injEq] at h
    obtain ⟨rfl, rfl⟩ := h
    refine auto_fit (auto48b n cur n2 cur2 pp x y z x2 y2 z2 cl cl2) ?_ ?_
    · rfl
    · simp only [Bool.and_eq_true, Nat.ble_eq] at hc
      rw [ble_of (show n ≤ 4611686018427387000 by omega), ble_of (show n2 ≤ 4611686018427387000 by omega), not_two3, two3_neg]
      simp
  · cases h
noncomputable def s48 : List A → Option (Bool × A)
  | [a, b, .int .i64 (.ofNat pp)] => s48a [a, b, .int .i64 (.ofNat pp)]
  | ds => s48b ds
theorem s48_at : EnvAt Try.prog 53 s48 := by
  refine ⟨s48a_at.1, fun ds c r h hc => ?_⟩
  unfold s48 at h
  split at h
  · exact s48a_at.2 _ _ _ h hc
  · exact s48b_at.2 _ _ _ h hc
noncomputable def env24 : List (Nat × (List A → Option (Bool × A))) := (53, s48) :: env23
theorem env24_ok : EnvOK Try.prog (look env24) := (env_cons s48_at env23_ok)
noncomputable def cfg24 : Cfg := mkCfg tab [] xts (look env24)
theorem cfg24_ok : CfgOK Try.prog cfg24 := cfg_ok tab_eq (no_fts _) xts_ok env24_ok mixed
end Go.Fw.E1

/-
  Lists of wires: fields.
-/
namespace Go.Fw.E1
open Go.Proofs
noncomputable def okAt (n : Nat → Nat) (x y z : Nat → Nat → Nat) (cur : Nat → Nat) (i : Nat) : Bool := okW (n i) (cur i) (x i) (y i) (z i)
theorem W.at_ok {m : Nat} {f : Nat → Bool} (h : allUpTo f m = true) {k : Nat} (hk : k < m) : f k = true := allUpTo_iff.1 h k hk
def smallW (n : Nat → Nat) (i : Nat) : Bool := Nat.ble 1 (n i) && Nat.ble (n i) 1000
theorem smallW_ok {n : Nat → Nat} {k : Nat} (h : smallW n k = true) : 1 ≤ n k ∧ n k ≤ 1000 := by
  unfold smallW at h
  simp only [Bool.and_eq_true, Nat.ble_eq] at h
  exact h
noncomputable def faX (n : Nat → Nat) (x y z : Nat → Nat → Nat) (cl : Nat → Bool) (cur : Nat → Nat) (p q r s : Nat) : Nat → Nat
  | 0 => s
  | k + 1 => fop .add .f32 (faX n x y z cl cur p q r s k) (fwX (n k) (x k) (y k) (z k) (cl k) (cur k) p q r)
noncomputable def faY (n : Nat → Nat) (x y z : Nat → Nat → Nat) (cl : Nat → Bool) (cur : Nat → Nat) (p q r s : Nat) : Nat → Nat
  | 0 => s
  | k + 1 => fop .add .f32 (faY n x y z cl cur p q r s k) (fwY (n k) (x k) (y k) (z k) (cl k) (cur k) p q r)
noncomputable def faZ (n : Nat → Nat) (x y z : Nat → Nat → Nat) (cl : Nat → Bool) (cur : Nat → Nat) (p q r s : Nat) : Nat → Nat
  | 0 => s
  | k + 1 => fop .add .f32 (faZ n x y z cl cur p q r s k) (fwZ (n k) (x k) (y k) (z k) (cl k) (cur k) p q r)
noncomputable def I118 (m : Nat) (n : Nat → Nat) (x y z : Nat → Nat → Nat) (cl : Nat → Bool) (cur : Nat → Nat) (p q r s t u s2 t2 u2 : Nat) (k : Nat) : List A := [.ptr 0 0, .ptr 16 0, .bool false, .ptr 64 0, .ro 3 m (.wires n x y z cl cur), .int .i64 (Int.ofNat m), .int .i64 (Int.ofNat k)]
noncomputable def J118 (m : Nat) (n : Nat → Nat) (x y z : Nat → Nat → Nat) (cl : Nat → Bool) (cur : Nat → Nat) (p q r s t u s2 t2 u2 : Nat) (k : Nat) : List O := [.var [.flt .f32 (faX n x y z cl cur p q r s k), .flt .f32 (faY n x y z cl cur p q r t k), .flt .f32 (faZ n x y z cl cur p q r u k)], .var [.flt .f32 s2, .flt .f32 t2, .flt .f32 u2], .var [.flt .f32 p, .flt .f32 q, .flt .f32 r]]
theorem round118 (m : Nat) (n : Nat → Nat) (x y z : Nat → Nat → Nat) (cl : Nat → Bool) (cur : Nat → Nat) (p q r s t u s2 t2 u2 : Nat) (k : Nat) (L : XK → List A → List (Option O) → Prop) :
    ((exec cfg24 (fun _ => true) (fun _ => none) 0 1000 (loopOf Try.f67 0) (litSt Try.f67.ntmps 144 [3, 4, 5, 6, 10, 11, 12] [64, 16, 0] (I118 m n x y z cl cur p q r s t u s2 t2 u2 k) (J118 m n x y z cl cur p q r s t u s2 t2 u2 k))).rt [3, 4, 5, 6, 10, 11, 12] [64, 16, 0]).Ok L =
    bif decide (Int.ofNat k < Int.ofNat m) then
      bif decide (Int.ofNat k < Int.ofNat m) then
        bif Nat.ble 1 (n k) && (n k).ble 1073741824 && true then
          L (XK.normal) ([A.ptr 0 0, A.ptr 16 0, A.bool false, A.ptr 64 0, A.ro 3 m (Row.wires n x y z cl cur), A.int .i64 (Int.ofNat m), A.int .i64 (IntKind.i64.wrap (Int.ofNat k + Int.ofNat 1))]) ([some (O.var [A.flt .f32 (fop .add .f32 (faX n x y z cl cur p q r s k) (fwX (n k) (x (Int.ofNat k).toNat) (y (Int.ofNat k).toNat) (z (Int.ofNat k).toNat) (cl k) (cur k) p q r)), A.flt .f32 (fop .add .f32 (faY n x y z cl cur p q r t k) (fwY (n k) (x (Int.ofNat k).toNat) (y (Int.ofNat k).toNat) (z (Int.ofNat k).toNat) (cl k) (cur k) p q r)), A.flt .f32 (fop .add .f32 (faZ n x y z cl cur p q r u k) (fwZ (n k) (x (Int.ofNat k).toNat) (y (Int.ofNat k).toNat) (z (Int.ofNat k).toNat) (cl k) (cur k) p q r))]), some (O.var [A.flt .f32 s2, A.flt .f32 t2, A.flt .f32 u2]), some (O.var [A.flt .f32 p, A.flt .f32 q, A.flt .f32 r])])
        else
          False
      else
        False
    else
      L (XK.exit 0) ([A.ptr 0 0, A.ptr 16 0, A.bool false, A.ptr 64 0, A.ro 3 m (Row.wires n x y z cl cur), A.int .i64 (Int.ofNat m), A.int .i64 (Int.ofNat k)]) ([some (O.var [A.flt .f32 (faX n x y z cl cur p q r s k), A.flt .f32 (faY n x y z cl cur p q r t k), A.flt .f32 (faZ n x y z cl cur p q r u k)]), some (O.var [A.flt .f32 s2, A.flt .f32 t2, A.flt .f32 u2]), some (O.var [A.flt .f32 p, A.flt .f32 q, A.flt .f32 r])]) := by kernel_rfl
noncomputable def F118 : List A → List (Option O) → Option R3
  | [.ptr 0 0, .ptr 16 0, .bool false, .ptr 64 0, .ro 3 m (.wires n x y z cl cur), .int .i64 l, .int .i64 0], [some (.var [.flt .f32 s, .flt .f32 t, .flt .f32 u]), some (.var [.flt .f32 s2, .flt .f32 t2, .flt .f32 u2]), some (.var [.flt .f32 p, .flt .f32 q, .flt .f32 r])] => some (.ite (decide (l = Int.ofNat m) && Nat.ble m 1048576 && allUpTo (smallW n) m) (.leaf .normal (I118 m n x y z cl cur p q r s t u s2 t2 u2 (m)) (J118 m n x y z cl cur p q r s t u s2 t2 u2 (m))) .fail)
  | _, _ => none
theorem loop118 : CodeOK Try.prog (fun _ σ => sumAt Try.f67.ntmps 144 [3, 4, 5, 6, 10, 11, 12] [64, 16, 0] F118 σ) (.block 0 (.loop (loopOf Try.f67 0))) := by
  refine block_ok (own := fun _ => true) (lp := (fun _ => none)) (un := 0) (fuel := 1000) cfg24_ok (lp_none _) fun az os R hF hok => ?_
  unfold F118 at hF
  split at hF
  · rename_i m n x y z cl cur l s t u s2 t2 u2 p q r
    injection hF with hF
    subst hF
    have hg := hok.guard
    have hg' := hg
    simp only [Bool.and_eq_true, Nat.ble_eq, Nat.beq_eq, decide_eq_true_eq] at hg'
    obtain ⟨⟨rfl, hm⟩, hsm⟩ := hg'
    refine for_fact (ids := [64, 16, 0]) (fun _ => true) (m) (I118 m n x y z cl cur p q r s t u s2 t2 u2) (J118 m n x y z cl cur p q r s t u s2 t2 u2) _ (.ret) (I118 m n x y z cl cur p q r s t u s2 t2 u2) (I118 m n x y z cl cur p q r s t u s2 t2 u2) (I118 m n x y z cl cur p q r s t u s2 t2 u2 (m)) (J118 m n x y z cl cur p q r s t u s2 t2 u2 (m)) rfl (OSims.self _) (fun _ => rfl) (fun _ => rfl) (fun _ => ALe.self _) (fun _ => rfl) (ALe.self _) (OSims.self _) rfl (fun h => by cases h) (fun k hk L h1 h2 h3 => ?_) fun L hL => ?_
    · rw [round118]
      by_cases hkm : k < m
      · refine condT (lt_dec hkm) ?_
        obtain ⟨k1, k2⟩ := smallW_ok (W.at_ok hsm hkm)
        rw [wrap_succ (by omega)]
        refine condT (lt_dec hkm) ?_
        refine condT (by rw [ble_of k1, ble_of (show n k ≤ 1073741824 by omega)]; rfl) ?_
        exact h1 hkm rfl _ (OSims.self (J118 m n x y z cl cur p q r s t u s2 t2 u2 (k + 1)))
      · refine condE (ge_dec (by omega)) ?_
        obtain rfl : k = m := by omega
        exact h3 rfl
    · exact ⟨fun _ => hL.1 hg, fun N _ h => by cases h⟩
  · cases hF
noncomputable def fOkA (m : Nat) (n : Nat → Nat) (x y z : Nat → Nat → Nat) (cl : Nat → Bool) (cur : Nat → Nat) (p q r : Nat) : Bool := vfin (faX n x y z cl cur p q r 0 m) (faY n x y z cl cur p q r 0 m) (faZ n x y z cl cur p q r 0 m)
noncomputable def lp118 : List (Nat × (St → T)) := [(0, sumAt Try.f67.ntmps 144 [3, 4, 5, 6, 10, 11, 12] [64, 16, 0] F118)]
theorem lp118_ok : LpOK Try.prog (look lp118) (bodyOf Try.f67) := lp_loops (by kernel_rfl) (by kernel_rfl) fun p hp => by
  simp only [lp118, List.mem_cons, List.not_mem_nil, or_false] at hp
  rcases hp with rfl
  · exact loop118
theorem auto118 (m : Nat) (n : Nat → Nat) (x y z : Nat → Nat → Nat) (cl : Nat → Bool) (cur : Nat → Nat) (p q r : Nat) : autoLp cfg24 (look lp118) Try.f67 [.ro 3 m (.wires n x y z cl cur), .agg [.flt .f32 p, .flt .f32 q, .flt .f32 r]] =
    some (decide (Int.ofNat m = Int.ofNat m) && m.ble 1048576 && allUpTo (smallW n) m && true, A.tup [A.agg [A.flt .f32 (faX n x y z cl cur p q r 0 m), A.flt .f32 (faY n x y z cl cur p q r 0 m), A.flt .f32 (faZ n x y z cl cur p q r 0 m)], A.bool (bif vfin p q r then vfin (faX n x y z cl cur p q r 0 m) (faY n x y z cl cur p q r 0 m) (faZ n x y z cl cur p q r 0 m) else false)]) := by kernel_rfl
noncomputable def s118 : List A → Option (Bool × A)
  | [.ro 3 m (.wires n x y z cl cur), .agg [.flt .f32 p, .flt .f32 q, .flt .f32 r]] => some (Nat.ble m 1048576 && allUpTo (smallW n) m, .tup [.agg [.flt .f32 (faX n x y z cl cur p q r 0 m), .flt .f32 (faY n x y z cl cur p q r 0 m), .flt .f32 (faZ n x y z cl cur p q r 0 m)], .bool (bif vfin p q r then fOkA m n x y z cl cur p q r else false)])
  | _ => none
theorem s118_at : EnvAt Try.prog 67 s118 := of_auto cfg24_ok lp118_ok Try.func67 (by kernel_rfl) (by kernel_rfl) fun ds cc rr h hc => by
  unfold s118 at h
  split at h
  · rename_i m n x y z cl cur p q r
    simp only [Option.some.injEq, Prod.mk.injEq] at h
    obtain ⟨rfl, rfl⟩ := h
    refine auto_fit (auto118 m n x y z cl cur p q r) ?_ ?_
    · rfl
    · simp only [Bool.and_eq_true] at hc; rw [hc.1, hc.2, decide_eq_true rfl]; simp
  · cases h
theorem auto139 (n cur : Nat) (x y z : Nat → Nat) (cl : Bool) : autoLp cfg24 (fun _ => none) Try.f109 [.agg [.ro 3 n (.vecs .f32 x y z), .bool cl, .flt .f32 cur]] =
    some (n.ble 4611686018427387000 && true, A.bool !okW n cur x y z) := by kernel_rfl
noncomputable def s139 : List A → Option (Bool × A)
  | [.agg [.ro 3 n (.vecs .f32 x y z), .bool cl, .flt .f32 cur]] => some (Nat.ble n 4611686018427387000, .bool (!okW n cur x y z))
  | _ => none
theorem s139_at : EnvAt Try.prog 109 s139 := of_auto cfg24_ok (lp_none _) Try.func109 (by kernel_rfl) (by kernel_rfl) fun ds cc rr h hc => by
  unfold s139 at h
  split at h
  · rename_i n x y z cl cur
    simp only [Option.some.injEq, Prod.mk.injEq] at h
    obtain ⟨rfl, rfl⟩ := h
    refine auto_fit (auto139 n cur x y z cl) ?_ ?_
    · rfl
    · rw [hc]; rfl
  · cases h
noncomputable def env25 : List (Nat × (List A → Option (Bool × A))) := (67, s118) :: (109, s139) :: env24
theorem env25_ok : EnvOK Try.prog (look env25) := (env_cons s118_at (env_cons s139_at env24_ok))
noncomputable def cfg25 : Cfg := mkCfg tab [] xts (look env25)
theorem cfg25_ok : CfgOK Try.prog cfg25 := cfg_ok tab_eq (no_fts _) xts_ok env25_ok mixed
def shortW (n : Nat → Nat) (i : Nat) : Bool := Nat.ble (n i) 1048576
theorem shortW_ok {n : Nat → Nat} {k : Nat} (h : shortW n k = true) : n k ≤ 1048576 := by unfold shortW at h; simpa using h
noncomputable def I150 (m : Nat) (n : Nat → Nat) (x y z : Nat → Nat → Nat) (cl : Nat → Bool) (cur : Nat → Nat) (k : Nat) : List A := [.ro 3 m (.wires n x y z cl cur), .fn 109 [], .int .i64 (Int.ofNat 0), .int .i64 (Int.ofNat m), .int .i64 (Int.ofNat k)]
noncomputable def J150 (m : Nat) (n : Nat → Nat) (x y z : Nat → Nat → Nat) (cl : Nat → Bool) (cur : Nat → Nat) (k : Nat) : List O := []
theorem round150 (m : Nat) (n : Nat → Nat) (x y z : Nat → Nat → Nat) (cl : Nat → Bool) (cur : Nat → Nat) (k : Nat) (L : XK → List A → List (Option O) → Prop) :
    ((exec cfg25 (fun _ => true) (fun _ => none) 0 1000 (loopOf Try.f120 0) (litSt Try.f120.ntmps 64 [0, 1, 4, 7, 8] [] (I150 m n x y z cl cur k) (J150 m n x y z cl cur k))).rt [0, 1, 4, 7, 8] []).Ok L =
    bif decide (Int.ofNat k < Int.ofNat m) then
      bif decide (Int.ofNat k < Int.ofNat m) then
        bif (n k).ble 4611686018427387000 then
          bif !okW (n k) (cur k) (x (Int.ofNat k).toNat) (y (Int.ofNat k).toNat) (z (Int.ofNat k).toNat) then
            L (XK.ret) ([A.ro 3 m (Row.wires n x y z cl cur), A.fn 109 [], A.int .i64 (Int.ofNat k), A.int .i64 (Int.ofNat m), A.int .i64 (Int.ofNat k)]) ([])
          else
            L (XK.normal) ([A.ro 3 m (Row.wires n x y z cl cur), A.fn 109 [], A.int .i64 (Int.ofNat 0), A.int .i64 (Int.ofNat m), A.int .i64 (IntKind.i64.wrap (Int.ofNat k + Int.ofNat 1))]) ([])
        else
          False
      else
        False
    else
      L (XK.exit 0) ([A.ro 3 m (Row.wires n x y z cl cur), A.fn 109 [], A.int .i64 (Int.ofNat 0), A.int .i64 (Int.ofNat m), A.int .i64 (Int.ofNat k)]) ([]) := by kernel_rfl
noncomputable def F150 : List A → List (Option O) → Option R3
  | [.ro 3 m (.wires n x y z cl cur), .fn 109 [], .int .i64 0, .int .i64 l, .int .i64 0], [] => some (.ite (decide (l = Int.ofNat m) && Nat.ble m 1048576 && allUpTo (shortW n) m) (.ite (allUpTo (okAt n x y z cur) (m)) (.leaf .normal (I150 m n x y z cl cur (m)) (J150 m n x y z cl cur (m))) (.leaf (.ret) ((fun k => [.ro 3 m (.wires n x y z cl cur), A.fn 109 [], A.int .i64 (Int.ofNat k), A.int .i64 (Int.ofNat m), A.int .i64 (Int.ofNat k)]) (firstIdx (okAt n x y z cur) (m))) (J150 m n x y z cl cur (firstIdx (okAt n x y z cur) (m))))) .fail)
  | _, _ => none
theorem loop150 : CodeOK Try.prog (fun _ σ => sumAt Try.f120.ntmps 64 [0, 1, 4, 7, 8] [] F150 σ) (.block 0 (.loop (loopOf Try.f120 0))) := by
  refine block_ok (own := fun _ => true) (lp := (fun _ => none)) (un := 0) (fuel := 1000) cfg25_ok (lp_none _) fun az os R hF hok => ?_
  unfold F150 at hF
  split at hF
  · rename_i m n x y z cl cur l
    injection hF with hF
    subst hF
    have hg := hok.guard
    have hg' := hg
    simp only [Bool.and_eq_true, Nat.ble_eq, Nat.beq_eq, decide_eq_true_eq] at hg'
    obtain ⟨⟨rfl, hm⟩, hsm⟩ := hg'
    refine for_fact (ids := []) (okAt n x y z cur) (m) (I150 m n x y z cl cur) (J150 m n x y z cl cur) _ (.ret) (fun k => [.ro 3 m (.wires n x y z cl cur), A.fn 109 [], A.int .i64 (Int.ofNat k), A.int .i64 (Int.ofNat m), A.int .i64 (Int.ofNat k)]) (fun k => [.ro 3 m (.wires n x y z cl cur), A.fn 109 [], A.int .i64 (Int.ofNat k), A.int .i64 (Int.ofNat m), A.int .i64 (Int.ofNat k)]) (I150 m n x y z cl cur (m)) (J150 m n x y z cl cur (m)) rfl (OSims.self _) (fun _ => rfl) (fun _ => rfl) (fun _ => ALe.self _) (fun _ => rfl) (ALe.self _) (OSims.self _) rfl (fun h => by cases h) (fun k hk L h1 h2 h3 => ?_) fun L hL => ?_
    · rw [round150]
      by_cases hkm : k < m
      · refine condT (lt_dec hkm) ?_
        have k1 := shortW_ok (W.at_ok hsm hkm)
        rw [wrap_succ (by omega)]
        refine condT (lt_dec hkm) ?_
        refine condT (ble_of (show n k ≤ 4611686018427387000 by omega)) ?_
        show cond (!(okAt n x y z cur k)) _ _
        cases hs : okAt n x y z cur k
        · exact h2 hkm hs
        · exact h1 hkm hs _ trivial
      · refine condE (ge_dec (by omega)) ?_
        obtain rfl : k = m := by omega
        exact h3 rfl
    · exact ⟨fun h => (hL.1 hg).1 h, fun N hN hf hall => by
        have := (hL.1 hg).2 (allUpTo_false hN hf)
        rw [firstIdx_eq hN hf hall] at this
        exact this⟩
  · cases hF
noncomputable def lp150 : List (Nat × (St → T)) := [(0, sumAt Try.f120.ntmps 64 [0, 1, 4, 7, 8] [] F150)]
theorem lp150_ok : LpOK Try.prog (look lp150) (bodyOf Try.f120) := lp_loops (by kernel_rfl) (by kernel_rfl) fun p hp => by
  simp only [lp150, List.mem_cons, List.not_mem_nil, or_false] at hp
  rcases hp with rfl
  · exact loop150
theorem auto150 (m : Nat) (n : Nat → Nat) (x y z : Nat → Nat → Nat) (cl : Nat → Bool) (cur : Nat → Nat) : autoLp cfg25 (look lp150) Try.f120 [.ro 3 m (.wires n x y z cl cur), .fn 109 []] =
    some (decide (Int.ofNat m = Int.ofNat m) && m.ble 1048576 && allUpTo (shortW n) m && bif allUpTo (okAt n x y z cur) m then true else true, A.int .i64 (bif allUpTo (okAt n x y z cur) m then Int.negSucc 0 else Int.ofNat (Fw.firstIdx (okAt n x y z cur) m))) := by kernel_rfl
noncomputable def s150 : List A → Option (Bool × A)
  | [.ro 3 m (.wires n x y z cl cur), .fn 109 []] => some (Nat.ble m 1048576 && allUpTo (shortW n) m, .int .i64 (idx (okAt n x y z cur) m))
  | _ => none
theorem s150_at : EnvAt Try.prog 120 s150 := of_auto cfg25_ok lp150_ok Try.func120 (by kernel_rfl) (by kernel_rfl) fun ds cc rr h hc => by
  unfold s150 at h
  split at h
  · rename_i m n x y z cl cur
    simp only [Option.some.injEq, Prod.mk.injEq] at h
    obtain ⟨rfl, rfl⟩ := h
    refine auto_fit (auto150 m n x y z cl cur) ?_ ?_
    · rfl
    · simp only [Bool.and_eq_true] at hc; rw [hc.1, hc.2]; simp
  · cases h
noncomputable def env26 : List (Nat × (List A → Option (Bool × A))) := (120, s150) :: env25
theorem env26_ok : EnvOK Try.prog (look env26) := (env_cons s150_at env25_ok)
noncomputable def cfg26 : Cfg := mkCfg tab [] xts (look env26)
theorem cfg26_ok : CfgOK Try.prog cfg26 := cfg_ok tab_eq (no_fts _) xts_ok env26_ok mixed
theorem auto138 (m : Nat) (n : Nat → Nat) (x y z : Nat → Nat → Nat) (cl : Nat → Bool) (cur : Nat → Nat) : autoLp cfg26 (fun _ => none) Try.f108 [.ro 3 m (.wires n x y z cl cur), .fn 109 []] =
    some (m.ble 1048576 && allUpTo (shortW n) m && true, A.bool (decide (idx (okAt n x y z cur) m ≥ 0))) := by kernel_rfl
noncomputable def s138 : List A → Option (Bool × A)
  | [.ro 3 m (.wires n x y z cl cur), .fn 109 []] => some (Nat.ble m 1048576 && allUpTo (shortW n) m, .bool (!allUpTo (okAt n x y z cur) m))
  | _ => none
theorem s138_at : EnvAt Try.prog 108 s138 := of_auto cfg26_ok (lp_none _) Try.func108 (by kernel_rfl) (by kernel_rfl) fun ds cc rr h hc => by
  unfold s138 at h
  split at h
  · rename_i m n x y z cl cur
    simp only [Option.some.injEq, Prod.mk.injEq] at h
    obtain ⟨rfl, rfl⟩ := h
    refine auto_fit (auto138 m n x y z cl cur) ?_ ?_
    · rw [← idx_ge]
    · simpa using hc
  · cases h
noncomputable def env27 : List (Nat × (List A → Option (Bool × A))) := (108, s138) :: env26
theorem env27_ok : EnvOK Try.prog (look env27) := (env_cons s138_at env26_ok)
noncomputable def cfg27 : Cfg := mkCfg tab [] xts (look env27)
theorem cfg27_ok : CfgOK Try.prog cfg27 := cfg_ok tab_eq (no_fts _) xts_ok env27_ok mixed
noncomputable def areW (m : Nat) (n : Nat → Nat) (x y z : Nat → Nat → Nat) (cur : Nat → Nat) : Bool := decide (m ≤ 8) && allUpTo (okAt n x y z cur) m
theorem auto117 (m : Nat) (n : Nat → Nat) (x y z : Nat → Nat → Nat) (cl : Nat → Bool) (cur : Nat → Nat) : autoLp cfg27 (fun _ => none) Try.f64 [.ro 3 m (.wires n x y z cl cur)] =
    some ((m.ble 1048576 && allUpTo (shortW n) m || !decide (Int.ofNat m ≤ 8) == true) && true, A.bool (bif decide (Int.ofNat m ≤ 8) then !!allUpTo (okAt n x y z cur) m else false)) := by kernel_rfl
noncomputable def s117 : List A → Option (Bool × A)
  | [.ro 3 m (.wires n x y z cl cur)] => some (Nat.ble m 1048576 && allUpTo (shortW n) m, .bool (areW m n x y z cur))
  | _ => none
theorem s117_at : EnvAt Try.prog 64 s117 := of_auto cfg27_ok (lp_none _) Try.func64 (by kernel_rfl) (by kernel_rfl) fun ds cc rr h hc => by
  unfold s117 at h
  split at h
  · rename_i m n x y z cl cur
    simp only [Option.some.injEq, Prod.mk.injEq] at h
    obtain ⟨rfl, rfl⟩ := h
    refine auto_fit (auto117 m n x y z cl cur) ?_ ?_
    · unfold areW
      by_cases h : m ≤ 8
      · rw [decide_eq_true h, decide_eq_true (p := Int.ofNat m ≤ 8) (by simp; omega)]; simp
      · rw [decide_eq_false h, decide_eq_false (p := Int.ofNat m ≤ 8) (by simp; omega)]; rfl
    · rw [hc]; rfl
  · cases h
noncomputable def env28 : List (Nat × (List A → Option (Bool × A))) := (64, s117) :: env27
theorem env28_ok : EnvOK Try.prog (look env28) := (env_cons s117_at env27_ok)
end Go.Fw.E1

/-
  Lists of wires: measured, copied, compared.
-/
namespace Go.Fw.E1
open Go.Proofs
noncomputable def env29 : List (Nat × (List A → Option (Bool × A))) := env28
theorem env29_ok : EnvOK Try.prog (look env29) := env28_ok
end Go.Fw.E1

/-
  The sine of turns: what it calls.
-/
namespace Go.Fw.E1
open Go.Proofs
noncomputable def env30 : List (Nat × (List A → Option (Bool × A))) := env29
theorem env30_ok : EnvOK Try.prog (look env30) := env29_ok
noncomputable def env31 : List (Nat × (List A → Option (Bool × A))) := env30
theorem env31_ok : EnvOK Try.prog (look env31) := env30_ok
end Go.Fw.E1

/-
  The sine of turns: its eight steps.
-/
namespace Go.Fw.E1
open Go.Proofs
end Go.Fw.E1

/-
  The sine of turns: contracts.
-/
namespace Go.Fw.E1
open Go.Proofs
noncomputable def env32 : List (Nat × (List A → Option (Bool × A))) := env31
theorem env32_ok : EnvOK Try.prog (look env32) := env31_ok
noncomputable def env33 : List (Nat × (List A → Option (Bool × A))) := env32
theorem env33_ok : EnvOK Try.prog (look env33) := env32_ok
end Go.Fw.E1

/-
  Points of a ring: the loops.
-/
namespace Go.Fw.E1
open Go.Proofs
theorem app3 {k j p : Nat} {u : Nat → Nat} {x : List Nat} (hx : x.getD j 0 = u k) (hp : p < k + 1) : (match decide (p < k) with | true => u p | false => ([x].getD (p - k) []).getD j 0) = u p := by
  by_cases h : p < k
  · rw [decide_eq_true h]
  · rw [decide_eq_false h]
    obtain rfl : p = k := by omega
    rw [Nat.sub_self]; exact hx
noncomputable def env34 : List (Nat × (List A → Option (Bool × A))) := env33
theorem env34_ok : EnvOK Try.prog (look env34) := env33_ok
end Go.Fw.E1

/-
  Points of a helix: the loops; rings as wires.
-/
namespace Go.Fw.E1
open Go.Proofs
end Go.Fw.E1

/-
  Rings and helices as wires.
-/
namespace Go.Fw.E1
open Go.Proofs
noncomputable def env35 : List (Nat × (List A → Option (Bool × A))) := env34
theorem env35_ok : EnvOK Try.prog (look env35) := env34_ok
noncomputable def cfg35 : Cfg := mkCfg tab [] xts (look env35)
theorem cfg35_ok : CfgOK Try.prog cfg35 := cfg_ok tab_eq (no_fts _) xts_ok env35_ok mixed
noncomputable def fts75 : List (Nat × Func) := [(75, Try.f75)]
theorem fts75_ok (f : Nat) (fn : Func) (h : (f, fn) ∈ fts75) : Try.prog.funcs[f]? = some fn ∧ (fn.name == "runtime.NumGoroutine") = false := by
  simp only [fts75, List.mem_cons, Prod.mk.injEq, List.not_mem_nil, or_false] at h
  obtain ⟨rfl, rfl⟩ := h
  exact ⟨Try.func75, by kernel_rfl⟩
end Go.Fw.E1

/-
  Rings as wires: contracts.
-/
namespace Go.Fw.E1
open Go.Proofs
end Go.Fw.E1

/-
  Helices as wires: contracts.
-/
namespace Go.Fw.E1
open Go.Proofs
end Go.Fw.E1

/-
  Wires that are turned: tables.
-/
namespace Go.Fw.E1
open Go.Proofs
end Go.Fw.E1

/-
  A wire that is turned: the reference's loop.
-/
namespace Go.Fw.E1
open Go.Proofs
end Go.Fw.E1

/-
  A wire that is turned: the reference.
-/
namespace Go.Fw.E1
open Go.Proofs
noncomputable def sT (t : Nat) : Nat := fcvt .f64 .f32 (sineW (fcvt .f32 .f64 t))
noncomputable def cT (t : Nat) : Nat := fcvt .f64 .f32 (sineW (fcvt .f32 .f64 (fop .add .f32 t (can .f32 1048576000))))
end Go.Fw.E1

/-
  A wire that is turned: the program's point.
-/
namespace Go.Fw.E1
open Go.Proofs
end Go.Fw.E1

/-
  A wire that is turned: the program.
-/
namespace Go.Fw.E1
open Go.Proofs
end Go.Fw.E1

/-
  Wires that are moved: tables.
-/
namespace Go.Fw.E1
open Go.Proofs
theorem auto140 (x y z a b c : Nat) : autoLp cfg35 (fun _ => none) Try.f86 [.agg [.flt .f32 x, .flt .f32 y, .flt .f32 z], .rop (.agg [.flt .f32 a, .flt .f32 b, .flt .f32 c]) 0] =
    some (true, A.agg [A.flt .f32 (fop .add .f32 x a), A.flt .f32 (fop .add .f32 y b), A.flt .f32 (fop .add .f32 z c)]) := by kernel_rfl
noncomputable def s140 : List A → Option (Bool × A)
  | [.agg [.flt .f32 x, .flt .f32 y, .flt .f32 z], .rop (.agg [.flt .f32 a, .flt .f32 b, .flt .f32 c]) 0] => some (true, .agg [.flt .f32 (fop .add .f32 x a), .flt .f32 (fop .add .f32 y b), .flt .f32 (fop .add .f32 z c)])
  | _ => none
theorem s140_at : EnvAt Try.prog 86 s140 := of_auto cfg35_ok (lp_none _) Try.func86 (by kernel_rfl) (by kernel_rfl) fun ds cc rr h hc => by
  unfold s140 at h
  split at h
  · rename_i x y z a b c
    simp only [Option.some.injEq, Prod.mk.injEq] at h
    obtain ⟨rfl, rfl⟩ := h
    refine auto_fit (auto140 x y z a b c) ?_ ?_
    · rfl
    · rfl
  · cases h
noncomputable def env41 : List (Nat × (List A → Option (Bool × A))) := (86, s140) :: env35
theorem env41_ok : EnvOK Try.prog (look env41) := (env_cons s140_at env35_ok)
noncomputable def cfgMN : Cfg := mkCfg (nilTab tab) fts75 xts (look env41)
theorem cfgMN_ok : CfgOK Try.prog cfgMN := cfgN_ok' tab_eq fts75_ok xts_ok env41_ok mixed
end Go.Fw.E1

/-
  Wires that are moved.
-/
namespace Go.Fw.E1
open Go.Proofs
noncomputable def adX (a : Nat) (x : Nat → Nat) (p : Nat) : Nat := fop .add .f32 (x p) a
noncomputable def I95m (n cur a b c : Nat) (x y z : Nat → Nat) (cl : Bool) (k : Nat) : List A := [.fn 86 [.rop (.agg [.flt .f32 a, .flt .f32 b, .flt .f32 c]) 0], .ro 3 n (.vecs .f32 x y z), .int .i64 (Int.ofNat n), .int .i64 (Int.ofNat k), .ptr 176 0, .ptr 16 0, .bool false]
noncomputable def J95m (n cur a b c : Nat) (x y z : Nat → Nat) (cl : Bool) (k : Nat) : List O := [.var [.sl 272 k, .bool cl, .flt .f32 cur], .row 30 3 k (.vecs .f32 (adX a x) (adX b y) (adX c z)), .var [.nils, .bool false, .flt .f32 0]]
theorem round95m (n cur a b c : Nat) (x y z : Nat → Nat) (cl : Bool) (k : Nat) (L : XK → List A → List (Option O) → Prop) :
    ((exec cfgMN (fun _ => true) (fun _ => none) 0 1000 (loopOf Try.f85 0) (litSt Try.f85.ntmps 288 [1, 19, 20, 21, 6, 4, 5] [176, 272, 16] (I95m n cur a b c x y z cl k) (J95m n cur a b c x y z cl k))).rt [1, 19, 20, 21, 6, 4, 5] [176, 272, 16]).Ok L =
    bif decide (Int.ofNat k < Int.ofNat n) then
       bif decide (Int.ofNat k < Int.ofNat n) then
         bif decide (k + 1 ≤ 1073741824) then
           L (XK.normal) ([A.fn 86 [(A.agg [A.flt .f32 a, A.flt .f32 b, A.flt .f32 c]).rop 0], A.ro 3 n (Row.vecs .f32 x y z), A.int .i64 (Int.ofNat n), A.int .i64 (IntKind.i64.wrap (Int.ofNat k + Int.ofNat 1)), A.ptr 176 0, A.ptr 16 0, A.bool false]) ([some (O.var [A.sl 272 (k + 1), A.bool cl, A.flt .f32 cur]),   some     (O.row 30 3 (k + 1)       (Row.vecs .f32         (fun j =>           (match decide (j < k) with | true => adX a x j | false => ([[fop .add .f32 (x k) a, fop .add .f32 (y k) b, fop .add .f32 (z k) c]].getD (j - k) []).getD 0 0))         (fun j =>           (match decide (j < k) with | true => adX b y j | false => ([[fop .add .f32 (x k) a, fop .add .f32 (y k) b, fop .add .f32 (z k) c]].getD (j - k) []).getD 1 0))         fun j =>         (match decide (j < k) with | true => adX c z j | false => ([[fop .add .f32 (x k) a, fop .add .f32 (y k) b, fop .add .f32 (z k) c]].getD (j - k) []).getD 2 0))),   some (O.var [A.nils, A.bool false, A.flt .f32 0])])
         else
           False
       else
         False
     else
       L (XK.exit 0) ([A.fn 86 [(A.agg [A.flt .f32 a, A.flt .f32 b, A.flt .f32 c]).rop 0], A.ro 3 n (Row.vecs .f32 x y z), A.int .i64 (Int.ofNat n), A.int .i64 (Int.ofNat k), A.ptr 176 0, A.ptr 16 0, A.bool false]) ([some (O.var [A.sl 272 k, A.bool cl, A.flt .f32 cur]), some (O.row 30 3 k (Row.vecs .f32 (fun p => adX a x p) (fun p => adX b y p) fun p => adX c z p)), some (O.var [A.nils, A.bool false, A.flt .f32 0])]) := by kernel_rfl
noncomputable def F95m : List A → List (Option O) → Option R3
  | [.fn 86 [.rop (.agg [.flt .f32 a, .flt .f32 b, .flt .f32 c]) 0], .ro 3 n (.vecs .f32 x y z), .int .i64 l, .int .i64 0, .ptr 176 0, .ptr 16 0, .bool false], [some (.var [.sl 272 0, .bool cl, .flt .f32 cur]), some (.row 30 3 0 g), some (.var [.nils, .bool false, .flt .f32 0])] => some (.ite (decide (l = Int.ofNat n) && Nat.ble n 1000) (.leaf .normal (I95m n cur a b c x y z cl (n)) (J95m n cur a b c x y z cl (n))) .fail)
  | _, _ => none
theorem loop95m : CodeOK Try.prog (fun _ σ => sumAt Try.f85.ntmps 288 [1, 19, 20, 21, 6, 4, 5] [176, 272, 16] F95m σ) (.block 0 (.loop (loopOf Try.f85 0))) := by
  refine block_ok (own := fun _ => true) (lp := (fun _ => none)) (un := 0) (fuel := 1000) cfgMN_ok (lp_none _) fun az os R hF hok => ?_
  unfold F95m at hF
  split at hF
  · rename_i a b c n x y z l cl cur g
    injection hF with hF
    subst hF
    have hg := hok.guard
    have hg' := hg
    simp only [Bool.and_eq_true, Nat.ble_eq, Nat.beq_eq, decide_eq_true_eq] at hg'
    obtain ⟨rfl, hn⟩ := hg'
    refine for_fact (ids := [176, 272, 16]) (fun _ => true) (n) (I95m n cur a b c x y z cl) (J95m n cur a b c x y z cl) _ (.ret) (I95m n cur a b c x y z cl) (I95m n cur a b c x y z cl) (I95m n cur a b c x y z cl (n)) (J95m n cur a b c x y z cl (n)) rfl (by unfold J95m; exact ⟨rfl, ⟨30, _, rfl, .inr rfl, fun p hp => absurd hp (by omega)⟩, rfl, trivial⟩) (fun _ => rfl) (fun _ => rfl) (fun _ => ALe.self _) (fun _ => rfl) (ALe.self _) (OSims.self _) rfl (fun h => by cases h) (fun k hk L h1 h2 h3 => ?_) fun L hL => ?_
    · rw [round95m]
      by_cases hkm : k < n
      · refine condT (lt_dec hkm) ?_
        rw [wrap_succ (by omega)]
        refine condT (lt_dec hkm) ?_
        refine condT (decide_eq_true (by omega)) ?_
        exact h1 hkm rfl _ ⟨rfl, ⟨30, _, rfl, .inr rfl, fun p hp => vec_at (app3 (u := adX a x) rfl hp) (app3 (u := adX b y) rfl hp) (app3 (u := adX c z) rfl hp)⟩, rfl, trivial⟩
      · refine condE (ge_dec (by omega)) ?_
        obtain rfl : k = n := by omega
        exact h3 rfl
    · exact ⟨fun _ => hL.1 hg, fun N _ h => by cases h⟩
  · cases hF
noncomputable def N95m : St → T := nilW 176 0 30 3 (sumAt Try.f85.ntmps 288 [1, 19, 20, 21, 6, 4, 5] [176, 272, 16] F95m)
theorem loopN95m : CodeOK Try.prog (fun _ σ => N95m σ) (.block 0 (.loop (loopOf Try.f85 0))) := nilW_ok loop95m
noncomputable def movOk (n cur a b c : Nat) (x y z : Nat → Nat) : Bool := okW n cur x y z && okW n cur (adX a x) (adX b y) (adX c z)
theorem mov_ok {n cur a b c : Nat} {x y z : Nat → Nat} (h : movOk n cur a b c x y z = true) : okW n cur x y z = true ∧ okW n cur (adX a x) (adX b y) (adX c z) = true ∧ 1 ≤ n ∧ n ≤ 1000 := by
  unfold movOk at h
  simp only [Bool.and_eq_true] at h
  obtain ⟨h1, h2⟩ := h
  exact ⟨h1, h2, by have := okW_n h1; omega, by have := okW_n h1; omega⟩
noncomputable def lp95mT : List (Nat × (St → T)) := [(0, N95m)]
theorem lp95mT_ok : LpOK Try.prog (look lp95mT) (bodyOf Try.f85) := lp_loops (by kernel_rfl) (by kernel_rfl) fun p hp => by
  simp only [lp95mT, List.mem_cons, List.not_mem_nil, or_false] at hp
  rcases hp with rfl
  · exact loopN95m
theorem auto95mT (n cur : Nat) (x y z : Nat → Nat) (cl : Bool) (a b c : Nat) : autoS cfgMN (look lp95mT) false Try.f85 [.agg [.ro 3 n (.vecs .f32 x y z), .bool cl, .flt .f32 cur], .fn 86 [.rop (.agg [.flt .f32 a, .flt .f32 b, .flt .f32 c]) 0]] =
    some (n.ble 4611686018427387000 && (!!okW n cur x y z && (decide (Int.ofNat n = Int.ofNat n) && n.ble 1000 && (n.ble 4611686018427387000 && (!!okW n cur (adX a x) (adX b y) (adX c z) && true)))), A.tup [A.agg [A.ro 3 n (Row.vecs .f32 (fun p => adX a x p) (fun p => adX b y p) fun p => adX c z p), A.bool cl, A.flt .f32 cur], A.bool true]) := by kernel_rfl
noncomputable def s95mT : List A → Option (Bool × A)
  | [.agg [.ro 3 n (.vecs .f32 x y z), .bool cl, .flt .f32 cur], .fn 86 [.rop (.agg [.flt .f32 a, .flt .f32 b, .flt .f32 c]) 0]] => some (movOk n cur a b c x y z, .tup [.agg [.ro 3 n (.vecs .f32 (adX a x) (adX b y) (adX c z)), .bool cl, .flt .f32 cur], .bool true])
  | _ => none
theorem s95mT_at : EnvAt Try.prog 85 s95mT := of_autoS cfgMN_ok lp95mT_ok Try.func85 (by kernel_rfl) (by kernel_rfl) fun ds cc rr h hc => by
  unfold s95mT at h
  split at h
  · rename_i n x y z cl cur a b c
    simp only [Option.some.injEq, Prod.mk.injEq] at h
    obtain ⟨rfl, rfl⟩ := h
    refine auto_fit (auto95mT n cur x y z cl a b c) ?_ ?_
    · rfl
    · obtain ⟨h1, h2, h3, h4⟩ := mov_ok hc
      rw [h1, h2, ble_of (show n ≤ 4611686018427387000 by omega), ble_of (show n ≤ 1000 by omega), decide_eq_true rfl]; rfl
  · cases h
noncomputable def env42T : List (Nat × (List A → Option (Bool × A))) := (85, s95mT) :: env41
theorem env42T_ok : EnvOK Try.prog (look env42T) := (env_cons s95mT_at env41_ok)
noncomputable def cfgMT : Cfg := mkCfg (nilTab tab) fts75 xts (look env42T)
theorem cfgMT_ok : CfgOK Try.prog cfgMT := cfgN_ok' tab_eq fts75_ok xts_ok env42T_ok mixed
theorem auto122T (n cur : Nat) (x y z : Nat → Nat) (cl : Bool) (a b c : Nat) : autoLp cfgMT (fun _ => none) Try.f33 [.agg [.ro 3 n (.vecs .f32 x y z), .bool cl, .flt .f32 cur], .agg [.flt .f32 a, .flt .f32 b, .flt .f32 c]] =
    some (movOk n cur a b c x y z && true, A.tup [A.agg [A.ro 3 n (Row.vecs .f32 (fun p => adX a x p) (fun p => adX b y p) fun p => adX c z p), A.bool cl, A.flt .f32 cur], A.bool true]) := by kernel_rfl
noncomputable def s122T : List A → Option (Bool × A)
  | [.agg [.ro 3 n (.vecs .f32 x y z), .bool cl, .flt .f32 cur], .agg [.flt .f32 a, .flt .f32 b, .flt .f32 c]] => some (movOk n cur a b c x y z, .tup [.agg [.ro 3 n (.vecs .f32 (adX a x) (adX b y) (adX c z)), .bool cl, .flt .f32 cur], .bool true])
  | _ => none
theorem s122T_at : EnvAt Try.prog 33 s122T := of_auto cfgMT_ok (lp_none _) Try.func33 (by kernel_rfl) (by kernel_rfl) fun ds cc rr h hc => by
  unfold s122T at h
  split at h
  · rename_i n x y z cl cur a b c
    simp only [Option.some.injEq, Prod.mk.injEq] at h
    obtain ⟨rfl, rfl⟩ := h
    refine auto_fit (auto122T n cur x y z cl a b c) ?_ ?_
    · rfl
    · rw [hc]; rfl
  · cases h
end Go.Fw.E1

/-
  An answer's struct may be forgotten.
-/
namespace Go.Fw.E1
open Go.Proofs
end Go.Fw.E1

/-
  Fields of lists of wires: contracts.
-/
namespace Go.Fw.E1
open Go.Proofs
end Go.Fw.E1

/-
  Rings as wires, pairs of rings: contracts.
-/
namespace Go.Fw.E1
open Go.Proofs
noncomputable def ftsI : List (Nat × Func) := [(75, Try.f75)]
theorem ftsI_ok (f : Nat) (fn : Func) (h : (f, fn) ∈ ftsI) : Try.prog.funcs[f]? = some fn ∧ (fn.name == "runtime.NumGoroutine") = false := by
  simp only [ftsI, List.mem_cons, Prod.mk.injEq, List.not_mem_nil, or_false] at h
  obtain ⟨rfl, rfl⟩ := h
  exact ⟨Try.func75, by kernel_rfl⟩
noncomputable def cfgGI : Cfg := mkCfg (nilTab tab) ftsI xts (look env35)
theorem cfgGI_ok : CfgOK Try.prog cfgGI := cfgN_ok' tab_eq ftsI_ok xts_ok env35_ok mixed
noncomputable def envA1 : List (Nat × (List A → Option (Bool × A))) := env35
theorem envA1_ok : EnvOK Try.prog (look envA1) := env35_ok
noncomputable def cfgA1 : Cfg := mkCfg tab [] xts (look envA1)
theorem cfgA1_ok : CfgOK Try.prog cfgA1 := cfg_ok tab_eq (no_fts _) xts_ok envA1_ok mixed
noncomputable def envA2 : List (Nat × (List A → Option (Bool × A))) := envA1
theorem envA2_ok : EnvOK Try.prog (look envA2) := envA1_ok
noncomputable def cfgA2 : Cfg := mkCfg tab [] xts (look envA2)
theorem cfgA2_ok : CfgOK Try.prog cfgA2 := cfg_ok tab_eq (no_fts _) xts_ok envA2_ok mixed
end Go.Fw.E1

/-
  Lists of wires copied: a contract; fields of all wires: the law.
-/
namespace Go.Fw.E1
open Go.Proofs
end Go.Fw.E1

/-
  Fluxes: contracts.
-/
namespace Go.Fw.E1
open Go.Proofs
end Go.Fw.E1

/-
  Fluxes: loops.
-/
namespace Go.Fw.E1
open Go.Proofs
end Go.Fw.E1

/-
  Fluxes: contracts of the reference and the program.
-/
namespace Go.Fw.E1
open Go.Proofs
end Go.Fw.E1

/-
  Along paths: the inner loops.
-/
namespace Go.Fw.E1
open Go.Proofs
end Go.Fw.E1

/-
  Along paths: the outer loops.
-/
namespace Go.Fw.E1
open Go.Proofs
end Go.Fw.E1

/-
  Along paths: what is no number stays none.
-/
namespace Go.Fw.E1
open Go.Proofs
end Go.Fw.E1

/-
  Along paths: where a field is none, the sum is none.
-/
namespace Go.Fw.E1
open Go.Proofs
section
variable {m : Nat} {n : Nat → Nat} {x y z : Nat → Nat → Nat} {cl : Nat → Bool} {cur : Nat → Nat}
end
end Go.Fw.E1

/-
  Along paths: contracts of the reference and the program.
-/
namespace Go.Fw.E1
open Go.Proofs
end Go.Fw.E1

/-
  Wires gone back: their points kept.
-/
namespace Go.Fw.E1
open Go.Proofs
end Go.Fw.E1

/-
  Wires gone back: points turned round.
-/
namespace Go.Fw.E1
open Go.Proofs
end Go.Fw.E1

/-
  Points turned round in place: the loop of slices.Reverse.
-/
namespace Go.Fw.E1
open Go.Proofs
end Go.Fw.E1

/-
  Wires gone back: slices.Reverse walked in place.
-/
namespace Go.Fw.E1
open Go.Proofs
end Go.Fw.E1

/-
  Wires gone back: BackWire.
-/
namespace Go.Fw.E1
open Go.Proofs
end Go.Fw.E1

/-
  The gap of two numbers.
-/
namespace Go.Fw.E1
open Go.Proofs
theorem autoGap (a b : Nat) : autoLp cfg0 (fun _ => none) Try.f23 [.flt .f64 a, .flt .f64 b] =
    some (true, A.flt .f64 (fmax .f64 (fop .sub .f64 a b) (fop .sub .f64 b a))) := by kernel_rfl
noncomputable def gap8 (a b : Nat) : Nat := fmax .f64 (fop .sub .f64 a b) (fop .sub .f64 b a)
noncomputable def sGap : List A → Option (Bool × A)
  | [.flt .f64 a, .flt .f64 b] => some (true, .flt .f64 (gap8 a b))
  | _ => none
theorem sGap_at : EnvAt Try.prog 23 sGap := of_auto cfg0_ok (lp_none _) Try.func23 (by kernel_rfl) (by kernel_rfl) fun ds cc rr h hc => by
  unfold sGap at h
  split at h
  · rename_i a b
    simp only [Option.some.injEq, Prod.mk.injEq] at h
    obtain ⟨rfl, rfl⟩ := h
    refine auto_fit (autoGap a b) ?_ ?_
    · rfl
    · rfl
  · cases h
end Go.Fw.E1

/-
  Bytes that come in.
-/
namespace Go.Fw.E1
open Go.Proofs
open Go.RowKit (Below)
theorem own : ownKnob Try.prog.godebug = none := by kernel_rfl
theorem laidOut : laidOutB Try.prog = true := by kernel_rfl
section
variable {H : Type} {enc : TypeId × Value → H} {w : World} {spare : Nat → Bool} {held : Bool}
set_option maxRecDepth 100000 in
theorem in_bytesA {r : Reach} {base : Nat} {v : Value} {x : DataW H × List MemPlace} (hv : Value.okWide Try.prog w r base 22 v) (h : ∃ fuel, DataW.trod enc Try.prog w 0 spare held fuel 22 v.cells.toList = some x) :
    ∃ (n : Nat) (b : Nat → Nat), (∀ i, b i < 256) ∧ RelD w (fun b => b < w.heap.size) v (.ro 1 n (.gen fun i => .int .u8 (Int.ofNat (b i)))) := by
  obtain ⟨fuel, h⟩ := h
  obtain ⟨a, l, c, rfl⟩ := Go.WideShapes.okWide_slice Try.underlying22 hv
  obtain ⟨u, n, b, e, hb, hr⟩ := in_bytes Try.underlying22 Try.underlying5 (by kernel_rfl) h
  have e' : [Value.slice a l c] = [u] := e
  simp only [List.cons.injEq, and_true] at e'
  subst e'
  exact ⟨n, b, hb, hr⟩
end
end Go.Fw.E1

/-
  What all laws of wires use: bytes' choices, places, gaps.
-/
namespace Go.Fw.E1
open Go.Proofs
def byt (g : Nat → A) (i : Nat) : Nat := match g i with | .int .u8 n => n.toNat | _ => 0
def isU8 (g : Nat → A) (i : Nat) : Bool := match g i with | .int .u8 n => decide (0 ≤ n) && decide (n < 256) | _ => false
theorem isU8_eq {g : Nat → A} {i : Nat} (h : isU8 g i = true) : g i = .int .u8 (Int.ofNat (byt g i)) ∧ byt g i < 256 := by
  unfold isU8 at h
  unfold byt
  split at h
  · rename_i n hn
    simp only [Bool.and_eq_true, decide_eq_true_eq] at h
    rw [hn]
    show A.int .u8 n = .int .u8 (Int.ofNat n.toNat) ∧ n.toNat < 256
    rw [show Int.ofNat n.toNat = n from Int.toNat_of_nonneg h.1]
    exact ⟨rfl, by omega⟩
  · cases h
theorem pure_bytes {f la : Nat} {g : Nat → A} {rest : List A} {r : A} (hg : allUpTo (isU8 g) la = true) (h : PureCall Try.prog f (.ro 1 la (.gen fun i => .int .u8 (Int.ofNat (byt g i))) :: rest) r) : PureCall Try.prog f (.ro 1 la (.gen g) :: rest) r := fun w vs T hT hs hr =>
  h w vs T hT hs fun i hi => match i, hi with
    | 0, _ => (hr 0 (Nat.succ_pos _)).row_congr fun i hi => (isU8_eq (allUpTo_iff.1 hg i hi)).1
    | i + 1, hi => hr (i + 1) hi
noncomputable def r8d (k : Nat) : Nat := match k with | 0 => can .f32 1065353216 | 1 => can .f32 1056964608 | _ => can .f32 3196059648
noncomputable def r8q (v : Nat) : Nat := fop .quo .f32 (fofInt .f32 (IntKind.i64.wrap ((IntKind.i64.wrap (Int.ofNat v)).tmod 17 - 8))) (can .f32 1082130432)
noncomputable def r8c (la : Nat) (b : Nat → Nat) (p k : Nat) : Nat := bif decide (p + k < la) then r8q (b (p + k)) else r8d k
theorem r8c_in {la : Nat} {b : Nat → Nat} {p k : Nat} (h : p + k < la) : r8c la b p k = r8q (b (p + k)) := by unfold r8c; rw [decide_eq_true h]; rfl
theorem r8c_out {la : Nat} {b : Nat → Nat} {p k : Nat} (h : ¬ p + k < la) : r8c la b p k = r8d k := by unfold r8c; rw [decide_eq_false h]; rfl
noncomputable def s25 : List A → Option (Bool × A)
  | [.ro 1 la (.gen g), .int .i64 (Int.ofNat p)] => match p with
    | 0 => some (allUpTo (isU8 g) la, .agg [.flt .f32 (r8c la (byt g) 0 0), .flt .f32 (r8c la (byt g) 0 1), .flt .f32 (r8c la (byt g) 0 2)])
    | 3 => some (allUpTo (isU8 g) la, .agg [.flt .f32 (r8c la (byt g) 3 0), .flt .f32 (r8c la (byt g) 3 1), .flt .f32 (r8c la (byt g) 3 2)])
    | _ => none
  | _ => none
theorem walk25_0_0 (la : Nat) (b : Nat → Nat) : autoW cfgA2 (fun _ => true) 5 (fun _ => none) [true, false, true, false, true, false, false] Try.f25 [.ro 1 la (.gen fun i => .int .u8 (Int.ofNat (b i))), .int .i64 0] = some (!decide (Int.ofNat 0 < Int.ofNat la) && (!decide (Int.ofNat 1 < Int.ofNat la) && (!decide (Int.ofNat 2 < Int.ofNat la) && (true))), .agg [.flt .f32 (r8d 0), .flt .f32 (r8d 1), .flt .f32 (r8d 2)]) := by kernel_rfl
theorem walk25_0_1 (la : Nat) (b : Nat → Nat) : autoW cfgA2 (fun _ => true) 5 (fun _ => none) [true, true, true, false, true, false, false] Try.f25 [.ro 1 la (.gen fun i => .int .u8 (Int.ofNat (b i))), .int .i64 0] = some (decide (Int.ofNat 0 < Int.ofNat la) && (decide (Int.ofNat 0 < Int.ofNat la) && (!decide (Int.ofNat 1 < Int.ofNat la) && (!decide (Int.ofNat 2 < Int.ofNat la) && (true)))), .agg [.flt .f32 (r8q (b 0)), .flt .f32 (r8d 1), .flt .f32 (r8d 2)]) := by kernel_rfl
theorem walk25_0_2 (la : Nat) (b : Nat → Nat) : autoW cfgA2 (fun _ => true) 5 (fun _ => none) [true, true, true, true, true, false, false] Try.f25 [.ro 1 la (.gen fun i => .int .u8 (Int.ofNat (b i))), .int .i64 0] = some (decide (Int.ofNat 0 < Int.ofNat la) && (decide (Int.ofNat 0 < Int.ofNat la) && (decide (Int.ofNat 1 < Int.ofNat la) && (decide (Int.ofNat 1 < Int.ofNat la) && (!decide (Int.ofNat 2 < Int.ofNat la) && (true))))), .agg [.flt .f32 (r8q (b 0)), .flt .f32 (r8q (b 1)), .flt .f32 (r8d 2)]) := by kernel_rfl
theorem walk25_0_3 (la : Nat) (b : Nat → Nat) : autoW cfgA2 (fun _ => true) 5 (fun _ => none) [true, true, true, true, true, true, false] Try.f25 [.ro 1 la (.gen fun i => .int .u8 (Int.ofNat (b i))), .int .i64 0] = some (decide (Int.ofNat 0 < Int.ofNat la) && (decide (Int.ofNat 0 < Int.ofNat la) && (decide (Int.ofNat 1 < Int.ofNat la) && (decide (Int.ofNat 1 < Int.ofNat la) && (decide (Int.ofNat 2 < Int.ofNat la) && (decide (Int.ofNat 2 < Int.ofNat la) && (true)))))), .agg [.flt .f32 (r8q (b 0)), .flt .f32 (r8q (b 1)), .flt .f32 (r8q (b 2))]) := by kernel_rfl
theorem walk25_3_0 (la : Nat) (b : Nat → Nat) : autoW cfgA2 (fun _ => true) 5 (fun _ => none) [true, false, true, false, true, false, false] Try.f25 [.ro 1 la (.gen fun i => .int .u8 (Int.ofNat (b i))), .int .i64 3] = some (!decide (Int.ofNat 3 < Int.ofNat la) && (!decide (Int.ofNat 4 < Int.ofNat la) && (!decide (Int.ofNat 5 < Int.ofNat la) && (true))), .agg [.flt .f32 (r8d 0), .flt .f32 (r8d 1), .flt .f32 (r8d 2)]) := by kernel_rfl
theorem walk25_3_1 (la : Nat) (b : Nat → Nat) : autoW cfgA2 (fun _ => true) 5 (fun _ => none) [true, true, true, false, true, false, false] Try.f25 [.ro 1 la (.gen fun i => .int .u8 (Int.ofNat (b i))), .int .i64 3] = some (decide (Int.ofNat 3 < Int.ofNat la) && (decide (Int.ofNat 3 < Int.ofNat la) && (!decide (Int.ofNat 4 < Int.ofNat la) && (!decide (Int.ofNat 5 < Int.ofNat la) && (true)))), .agg [.flt .f32 (r8q (b 3)), .flt .f32 (r8d 1), .flt .f32 (r8d 2)]) := by kernel_rfl
theorem walk25_3_2 (la : Nat) (b : Nat → Nat) : autoW cfgA2 (fun _ => true) 5 (fun _ => none) [true, true, true, true, true, false, false] Try.f25 [.ro 1 la (.gen fun i => .int .u8 (Int.ofNat (b i))), .int .i64 3] = some (decide (Int.ofNat 3 < Int.ofNat la) && (decide (Int.ofNat 3 < Int.ofNat la) && (decide (Int.ofNat 4 < Int.ofNat la) && (decide (Int.ofNat 4 < Int.ofNat la) && (!decide (Int.ofNat 5 < Int.ofNat la) && (true))))), .agg [.flt .f32 (r8q (b 3)), .flt .f32 (r8q (b 4)), .flt .f32 (r8d 2)]) := by kernel_rfl
theorem walk25_3_3 (la : Nat) (b : Nat → Nat) : autoW cfgA2 (fun _ => true) 5 (fun _ => none) [true, true, true, true, true, true, false] Try.f25 [.ro 1 la (.gen fun i => .int .u8 (Int.ofNat (b i))), .int .i64 3] = some (decide (Int.ofNat 3 < Int.ofNat la) && (decide (Int.ofNat 3 < Int.ofNat la) && (decide (Int.ofNat 4 < Int.ofNat la) && (decide (Int.ofNat 4 < Int.ofNat la) && (decide (Int.ofNat 5 < Int.ofNat la) && (decide (Int.ofNat 5 < Int.ofNat la) && (true)))))), .agg [.flt .f32 (r8q (b 3)), .flt .f32 (r8q (b 4)), .flt .f32 (r8q (b 5))]) := by kernel_rfl
theorem s25_at : EnvAt Try.prog 25 s25 := by
  refine ⟨⟨Try.f25, Try.func25, by kernel_rfl, by kernel_rfl⟩, fun ds cc rr h hc => ?_⟩
  unfold s25 at h
  split at h
  · rename_i la g p
    split at h
    · simp only [Option.some.injEq, Prod.mk.injEq] at h
      obtain ⟨rfl, rfl⟩ := h
      refine pure_bytes hc ?_
      by_cases h0 : 0 < la
      rotate_left
      · rw [r8c_out (p := 0) (k := 0) (by omega), r8c_out (p := 0) (k := 1) (by omega), r8c_out (p := 0) (k := 2) (by omega)]
        exact autoW_ok cfgA2_ok Try.func25 (by kernel_rfl) (lp_none _) (walk25_0_0 la (byt g)) (by rw [decide_eq_false (show ¬ Int.ofNat 0 < Int.ofNat la by simp; omega), decide_eq_false (show ¬ Int.ofNat 1 < Int.ofNat la by simp; omega), decide_eq_false (show ¬ Int.ofNat 2 < Int.ofNat la by simp; omega)]; rfl)
      by_cases h1 : 1 < la
      rotate_left
      · rw [r8c_in (p := 0) (k := 0) (by omega), r8c_out (p := 0) (k := 1) (by omega), r8c_out (p := 0) (k := 2) (by omega)]
        exact autoW_ok cfgA2_ok Try.func25 (by kernel_rfl) (lp_none _) (walk25_0_1 la (byt g)) (by rw [decide_eq_true (show Int.ofNat 0 < Int.ofNat la by simp; omega), decide_eq_false (show ¬ Int.ofNat 1 < Int.ofNat la by simp; omega), decide_eq_false (show ¬ Int.ofNat 2 < Int.ofNat la by simp; omega)]; rfl)
      by_cases h2 : 2 < la
      rotate_left
      · rw [r8c_in (p := 0) (k := 0) (by omega), r8c_in (p := 0) (k := 1) (by omega), r8c_out (p := 0) (k := 2) (by omega)]
        exact autoW_ok cfgA2_ok Try.func25 (by kernel_rfl) (lp_none _) (walk25_0_2 la (byt g)) (by rw [decide_eq_true (show Int.ofNat 0 < Int.ofNat la by simp; omega), decide_eq_true (show Int.ofNat 1 < Int.ofNat la by simp; omega), decide_eq_false (show ¬ Int.ofNat 2 < Int.ofNat la by simp; omega)]; rfl)
      rw [r8c_in (p := 0) (k := 0) (by omega), r8c_in (p := 0) (k := 1) (by omega), r8c_in (p := 0) (k := 2) (by omega)]
      exact autoW_ok cfgA2_ok Try.func25 (by kernel_rfl) (lp_none _) (walk25_0_3 la (byt g)) (by rw [decide_eq_true (show Int.ofNat 0 < Int.ofNat la by simp; omega), decide_eq_true (show Int.ofNat 1 < Int.ofNat la by simp; omega), decide_eq_true (show Int.ofNat 2 < Int.ofNat la by simp; omega)]; rfl)
    · simp only [Option.some.injEq, Prod.mk.injEq] at h
      obtain ⟨rfl, rfl⟩ := h
      refine pure_bytes hc ?_
      by_cases h0 : 3 < la
      rotate_left
      · rw [r8c_out (p := 3) (k := 0) (by omega), r8c_out (p := 3) (k := 1) (by omega), r8c_out (p := 3) (k := 2) (by omega)]
        exact autoW_ok cfgA2_ok Try.func25 (by kernel_rfl) (lp_none _) (walk25_3_0 la (byt g)) (by rw [decide_eq_false (show ¬ Int.ofNat 3 < Int.ofNat la by simp; omega), decide_eq_false (show ¬ Int.ofNat 4 < Int.ofNat la by simp; omega), decide_eq_false (show ¬ Int.ofNat 5 < Int.ofNat la by simp; omega)]; rfl)
      by_cases h1 : 4 < la
      rotate_left
      · rw [r8c_in (p := 3) (k := 0) (by omega), r8c_out (p := 3) (k := 1) (by omega), r8c_out (p := 3) (k := 2) (by omega)]
        exact autoW_ok cfgA2_ok Try.func25 (by kernel_rfl) (lp_none _) (walk25_3_1 la (byt g)) (by rw [decide_eq_true (show Int.ofNat 3 < Int.ofNat la by simp; omega), decide_eq_false (show ¬ Int.ofNat 4 < Int.ofNat la by simp; omega), decide_eq_false (show ¬ Int.ofNat 5 < Int.ofNat la by simp; omega)]; rfl)
      by_cases h2 : 5 < la
      rotate_left
      · rw [r8c_in (p := 3) (k := 0) (by omega), r8c_in (p := 3) (k := 1) (by omega), r8c_out (p := 3) (k := 2) (by omega)]
        exact autoW_ok cfgA2_ok Try.func25 (by kernel_rfl) (lp_none _) (walk25_3_2 la (byt g)) (by rw [decide_eq_true (show Int.ofNat 3 < Int.ofNat la by simp; omega), decide_eq_true (show Int.ofNat 4 < Int.ofNat la by simp; omega), decide_eq_false (show ¬ Int.ofNat 5 < Int.ofNat la by simp; omega)]; rfl)
      rw [r8c_in (p := 3) (k := 0) (by omega), r8c_in (p := 3) (k := 1) (by omega), r8c_in (p := 3) (k := 2) (by omega)]
      exact autoW_ok cfgA2_ok Try.func25 (by kernel_rfl) (lp_none _) (walk25_3_3 la (byt g)) (by rw [decide_eq_true (show Int.ofNat 3 < Int.ofNat la by simp; omega), decide_eq_true (show Int.ofNat 4 < Int.ofNat la by simp; omega), decide_eq_true (show Int.ofNat 5 < Int.ofNat la by simp; omega)]; rfl)
    · cases h
  · cases h
noncomputable def r8a (la : Nat) (b : Nat → Nat) (k n : Int) : Int := bif decide (k ≥ Int.ofNat la) then 0 else (IntKind.i64.wrap (Int.ofNat (b k.toNat))).tmod n
noncomputable def s13 : List A → Option (Bool × A)
  | [.ro 1 la (.gen g), .int .i64 k, .int .i64 n] => some (allUpTo (isU8 g) la && decide (0 ≤ k) && decide (1 < n), .int .i64 (r8a la (byt g) k n))
  | _ => none
theorem walk13_0 (la : Nat) (b : Nat → Nat) (k n : Int) : autoW cfgA2 (fun _ => true) 5 (fun _ => none) [true] Try.f13 [.ro 1 la (.gen fun i => .int .u8 (Int.ofNat (b i))), .int .i64 k, .int .i64 n] = some ((bif decide (n ≤ 1) then true else decide (k ≥ Int.ofNat la)) && true, .int .i64 0) := by kernel_rfl
theorem walk13_1 (la : Nat) (b : Nat → Nat) (k n : Int) : autoW cfgA2 (fun _ => true) 5 (fun _ => none) [false] Try.f13 [.ro 1 la (.gen fun i => .int .u8 (Int.ofNat (b i))), .int .i64 k, .int .i64 n] = some (!(bif decide (n ≤ 1) then true else decide (k ≥ Int.ofNat la)) && (decide (0 ≤ k) && decide (k < Int.ofNat la) && (!decide (n = 0) && true)), .int .i64 ((IntKind.i64.wrap (Int.ofNat (b k.toNat))).tmod n)) := by kernel_rfl
theorem s13_at : EnvAt Try.prog 13 s13 := by
  refine ⟨⟨Try.f13, Try.func13, by kernel_rfl, by kernel_rfl⟩, fun ds cc rr h hc => ?_⟩
  unfold s13 at h
  split at h
  · rename_i la g k n
    simp only [Option.some.injEq, Prod.mk.injEq] at h
    obtain ⟨rfl, rfl⟩ := h
    simp only [Bool.and_eq_true, decide_eq_true_eq] at hc
    refine pure_bytes hc.1.1 ?_
    unfold r8a
    by_cases hk : k ≥ Int.ofNat la
    · rw [decide_eq_true hk]
      exact autoW_ok cfgA2_ok Try.func13 (by kernel_rfl) (lp_none _) (walk13_0 la (byt g) k n) (by rw [decide_eq_true hk, decide_eq_false (show ¬ n ≤ 1 by omega)]; rfl)
    · rw [decide_eq_false hk]
      exact autoW_ok cfgA2_ok Try.func13 (by kernel_rfl) (lp_none _) (walk13_1 la (byt g) k n) (by
        rw [decide_eq_false hk, decide_eq_false (show ¬ n ≤ 1 by omega), decide_eq_true hc.1.2, decide_eq_true (show k < Int.ofNat la by omega), decide_eq_false (show ¬ n = 0 by omega)]; rfl)
  · cases h
noncomputable def sqX (s h i : Nat) : Nat := ([[s, s, h], [fneg .f32 s, s, h], [fneg .f32 s, fneg .f32 s, h], [s, fneg .f32 s, h]].getD i []).getD 0 0
noncomputable def sqY (s h i : Nat) : Nat := ([[s, s, h], [fneg .f32 s, s, h], [fneg .f32 s, fneg .f32 s, h], [s, fneg .f32 s, h]].getD i []).getD 1 0
noncomputable def sqZ (s h i : Nat) : Nat := ([[s, s, h], [fneg .f32 s, s, h], [fneg .f32 s, fneg .f32 s, h], [s, fneg .f32 s, h]].getD i []).getD 2 0
noncomputable def sqOk (s h c : Nat) : Bool := above s && fin h && okW 4 c (sqX s h) (sqY s h) (sqZ s h)
theorem walk29 (s h c : Nat) : autoW cfgGI (fun _ => true) 0 (fun _ => none) [false, false] Try.f29 [.flt .f32 s, .flt .f32 h, .flt .f32 c] = some ((!bif !above s then true else !fin h) && ((!!okW 4 c (sqX s h) (sqY s h) (sqZ s h)) && true), .tup [.agg [.ro 3 4 (.vecs .f32 (sqX s h) (sqY s h) (sqZ s h)), .bool true, .flt .f32 c], .bool true]) := by kernel_rfl
noncomputable def s29T : List A → Option (Bool × A)
  | [.flt .f32 s, .flt .f32 h, .flt .f32 c] => some (sqOk s h c, .tup [.agg [.ro 3 4 (.vecs .f32 (sqX s h) (sqY s h) (sqZ s h)), .bool true, .flt .f32 c], .bool true])
  | _ => none
theorem s29T_at : EnvAt Try.prog 29 s29T := by
  refine ⟨⟨Try.f29, Try.func29, by kernel_rfl, by kernel_rfl⟩, fun ds cc rr h hc => ?_⟩
  unfold s29T at h
  split at h
  · rename_i s h' c
    simp only [Option.some.injEq, Prod.mk.injEq] at h
    obtain ⟨rfl, rfl⟩ := h
    unfold sqOk at hc
    simp only [Bool.and_eq_true] at hc
    exact autoW_ok cfgGI_ok Try.func29 (by kernel_rfl) (lp_none _) (walk29 s h' c) (by rw [hc.1.1, hc.1.2, hc.2]; rfl)
  · cases h
noncomputable def envD0 : List (Nat × (List A → Option (Bool × A))) := (28, auto cfgA1 Try.f28) :: (23, sGap) :: (29, s29T) :: (25, s25) :: (13, s13) :: (11, auto cfgA1 Try.f11) :: (33, s122T) :: envA1
theorem envD0_ok : EnvOK Try.prog (look envD0) := env_cons (auto_at cfgA1_ok Try.func28 (by kernel_rfl) (by kernel_rfl)) (env_cons sGap_at (env_cons s29T_at (env_cons s25_at (env_cons s13_at (env_cons (auto_at cfgA1_ok Try.func11 (by kernel_rfl) (by kernel_rfl)) (env_cons s122T_at envA1_ok))))))
end Go.Fw.E1

/-
  Moments in fields: contracts.
-/
namespace Go.Fw.E1
open Go.Proofs
noncomputable def crX (_a b c _x y z : Nat) : Nat := fop .sub .f32 (fop .mul .f32 b z) (fop .mul .f32 c y)
noncomputable def crY (a _b c x _y z : Nat) : Nat := fop .sub .f32 (fop .mul .f32 c x) (fop .mul .f32 a z)
noncomputable def crZ (a b _c x y _z : Nat) : Nat := fop .sub .f32 (fop .mul .f32 a y) (fop .mul .f32 b x)
noncomputable def s92T : List A → Option (Bool × A)
  | [.agg [.flt .f32 a, .flt .f32 b, .flt .f32 c], .agg [.flt .f32 x, .flt .f32 y, .flt .f32 z]] => some (true, .agg [.flt .f32 (crX a b c x y z), .flt .f32 (crY a b c x y z), .flt .f32 (crZ a b c x y z)])
  | _ => none
theorem s92T_at : EnvAt Try.prog 92 s92T := by
  refine ⟨s147_at.1, fun ds cc r h hc => ?_⟩
  unfold s92T at h
  split at h
  · rename_i a b c x y z
    simp only [Option.some.injEq, Prod.mk.injEq] at h
    obtain ⟨rfl, rfl⟩ := h
    exact s147_at.2 [.agg [.flt .f32 a, .flt .f32 b, .flt .f32 c], .agg [.flt .f32 x, .flt .f32 y, .flt .f32 z]] _ _ rfl rfl
  · cases h
noncomputable def s76T : List A → Option (Bool × A)
  | [.agg [.flt .f32 a, .flt .f32 b, .flt .f32 c]] => some (vfin a b c, .tup [.agg [.flt .f32 a, .flt .f32 b, .flt .f32 c], .bool true])
  | _ => none
theorem s76T_at : EnvAt Try.prog 76 s76T := by
  refine ⟨s101_at.1, fun ds cc r h hc => ?_⟩
  unfold s76T at h
  split at h
  · rename_i a b c
    simp only [Option.some.injEq, Prod.mk.injEq] at h
    obtain ⟨rfl, rfl⟩ := h
    have := s101_at.2 [.agg [.flt .f32 a, .flt .f32 b, .flt .f32 c]] _ _ rfl rfl
    rw [hc] at this
    exact this
  · cases h
noncomputable def s78T : List A → Option (Bool × A)
  | [.flt .f32 a] => some (fin a, .tup [.flt .f32 a, .bool true])
  | _ => none
theorem s78T_at : EnvAt Try.prog 78 s78T := by
  refine ⟨s92_at.1, fun ds cc r h hc => ?_⟩
  unfold s78T at h
  split at h
  · rename_i a
    simp only [Option.some.injEq, Prod.mk.injEq] at h
    obtain ⟨rfl, rfl⟩ := h
    have := s92_at.2 [.flt .f32 a] _ _ rfl rfl
    rw [hc] at this
    exact this
  · cases h
noncomputable def envD1 : List (Nat × (List A → Option (Bool × A))) := (92, s92T) :: (76, s76T) :: (78, s78T) :: envD0
theorem envD1_ok : EnvOK Try.prog (look envD1) := env_cons s92T_at (env_cons s76T_at (env_cons s78T_at envD0_ok))
end Go.Fw.E1

/-
  Sources and whirls of fields: contracts.
-/
namespace Go.Fw.E1
open Go.Proofs
noncomputable def faG (m : Nat) (n : Nat → Nat) (x y z : Nat → Nat → Nat) (cl : Nat → Bool) (cur : Nat → Nat) (p q r : Nat) : Bool := Nat.ble m 1048576 && allUpTo (smallW n) m && (vfin p q r && fOkA m n x y z cl cur p q r)
noncomputable def s67T : List A → Option (Bool × A)
  | [.ro 3 m (.wires n x y z cl cur), .agg [.flt .f32 p, .flt .f32 q, .flt .f32 r]] => some (faG m n x y z cl cur p q r, .tup [.agg [.flt .f32 (faX n x y z cl cur p q r 0 m), .flt .f32 (faY n x y z cl cur p q r 0 m), .flt .f32 (faZ n x y z cl cur p q r 0 m)], .bool true])
  | _ => none
theorem s67T_at : EnvAt Try.prog 67 s67T := by
  refine ⟨s118_at.1, fun ds cc r h hc => ?_⟩
  unfold s67T at h
  split at h
  · rename_i m n x y z cl cur p q r
    simp only [Option.some.injEq, Prod.mk.injEq] at h
    obtain ⟨rfl, rfl⟩ := h
    unfold faG at hc
    rw [Bool.and_eq_true, Bool.and_eq_true (vfin p q r)] at hc
    have := s118_at.2 [.ro 3 m (.wires n x y z cl cur), .agg [.flt .f32 p, .flt .f32 q, .flt .f32 r]] _ _ rfl hc.1
    rw [hc.2.1, hc.2.2] at this
    exact this
  · cases h
end Go.Fw.E1

/-
  Areas and moments of wires; fields on axes, far fields: contracts.
-/
namespace Go.Fw.E1
open Go.Proofs
end Go.Fw.E1

/-
  Areas and moments of wires; fields on axes, far fields: contracts by success.
-/
namespace Go.Fw.E1
open Go.Proofs
noncomputable def envX1 : List (Nat × (List A → Option (Bool × A))) := envD1
theorem envX1_ok : EnvOK Try.prog (look envX1) := envD1_ok
noncomputable def envX2 : List (Nat × (List A → Option (Bool × A))) := envX1
theorem envX2_ok : EnvOK Try.prog (look envX2) := envX1_ok
end Go.Fw.E1

/-
  The source of choices: its next byte, walked once and for all.
-/
namespace Go.Fw.E1
open Go.Proofs
noncomputable def gIs (b : Nat → Nat) (g : Nat → A) : Bool := @decide (g = fun i => .int .u8 (Int.ofNat (b i))) (Classical.propDecidable _)
theorem gIs_eq {b : Nat → Nat} {g : Nat → A} (h : gIs b g = true) : g = fun i => .int .u8 (Int.ofNat (b i)) := @of_decide_eq_true _ (Classical.propDecidable _) h
theorem gIs_self (b : Nat → Nat) : gIs b (fun i => .int .u8 (Int.ofNat (b i))) = true := @decide_eq_true _ (Classical.propDecidable _) rfl
noncomputable def srcB (la : Nat) (b : Nat → Nat) (k : Int) : Int := bif decide (k < Int.ofNat la) then IntKind.i64.wrap (Int.ofNat (b k.toNat)) else Int.ofNat 0
noncomputable def srcS (la : Nat) (b : Nat → Nat) (k sd : Int) : Int := IntKind.u64.wrap (IntKind.u64.wrap (IntKind.u64.wrap (sd * Int.ofNat 6364136223846793005) + IntKind.u64.wrap (srcB la b k)) + Int.ofNat 1442695040888963407)
noncomputable def srcV (la : Nat) (b : Nat → Nat) (k sd : Int) : Int := bif decide (k < Int.ofNat la) then IntKind.i64.wrap (Int.ofNat (b k.toNat)) else IntKind.i64.wrap (bandI .u64 (shrI .u64 (srcS la b k sd) (Int.ofNat 40)) (Int.ofNat 255))
noncomputable def nextF (b : Nat → Nat) : List A → O → Option (Bool × List A × O)
  | [.ptr 112 0, _], .var [.ro 1 la (.gen g), .int .i64 k, .int .u64 sd] => some (gIs b g && (decide (0 ≤ k) && decide (k ≤ 1000000)), [.ptr 112 0, .int .i64 (srcV la b k sd)], .var [.ro 1 la (.gen g), .int .i64 (k + 1), .int .u64 (srcS la b k sd)])
  | _, _ => none
noncomputable def nextS (b : Nat → Nat) (σ : St) : T := sumF Try.f114.ntmps [0, 2] 112 (nextF b) σ
noncomputable def cfgX2s : Cfg := mkCfg (nilTab tab) [] xts (look envX2)
theorem cfgX2s_ok : CfgOK Try.prog cfgX2s := cfgN_ok' tab_eq (no_fts _) xts_ok envX2_ok mixed
theorem round114 (lo nx la : Nat) (b : Nat → Nat) (x : A) (k sd : Int) (M : List (Nat × O)) (L : XK → List A → List (Nat × O) → Prop) :
    ((exec cfgX2s (fun _ => true) (fun _ => none) 0 1000 (bodyOf Try.f114) (stM Try.f114.ntmps lo nx [0, 2] [.ptr 112 0, x] 112 (.var [.ro 1 la (.gen fun i => .int .u8 (Int.ofNat (b i))), .int .i64 k, .int .u64 sd]) M)).rm [0, 2]).Ok L =
    bif decide (k < Int.ofNat la) then
      bif decide (0 ≤ k) && decide (k < Int.ofNat la) then
        bif decide (IntKind.i64.wrap (k + 1) ≤ Int.ofNat la) then
          L (XK.ret) ([A.ptr 112 0, A.int .i64 (IntKind.i64.wrap (Int.ofNat (b k.toNat)))]) ((112, O.var [A.ro 1 la (Row.gen fun i => A.int .u8 (Int.ofNat (b i))), A.int .i64 (IntKind.i64.wrap (k + Int.ofNat 1)), A.int IntKind.u64 (IntKind.u64.wrap (IntKind.u64.wrap (IntKind.u64.wrap (sd * Int.ofNat 6364136223846793005) + IntKind.u64.wrap (IntKind.i64.wrap (Int.ofNat (b k.toNat)))) + Int.ofNat 1442695040888963407))]) :: (112, O.var [A.ro 1 la (Row.gen fun i => A.int .u8 (Int.ofNat (b i))), A.int .i64 (IntKind.i64.wrap (k + Int.ofNat 1)), A.int IntKind.u64 sd]) :: (112, O.var [A.ro 1 la (Row.gen fun i => A.int .u8 (Int.ofNat (b i))), A.int .i64 k, A.int IntKind.u64 sd]) :: M)
        else
          L (XK.ret) ([A.ptr 112 0, A.int .i64 (IntKind.i64.wrap (bandI IntKind.u64 (shrI IntKind.u64 (IntKind.u64.wrap (IntKind.u64.wrap (IntKind.u64.wrap (sd * Int.ofNat 6364136223846793005) + IntKind.u64.wrap (IntKind.i64.wrap (Int.ofNat (b k.toNat)))) + Int.ofNat 1442695040888963407)) (Int.ofNat 40)) (Int.ofNat 255)))]) ((112, O.var [A.ro 1 la (Row.gen fun i => A.int .u8 (Int.ofNat (b i))), A.int .i64 (IntKind.i64.wrap (k + Int.ofNat 1)), A.int IntKind.u64 (IntKind.u64.wrap (IntKind.u64.wrap (IntKind.u64.wrap (sd * Int.ofNat 6364136223846793005) + IntKind.u64.wrap (IntKind.i64.wrap (Int.ofNat (b k.toNat)))) + Int.ofNat 1442695040888963407))]) :: (112, O.var [A.ro 1 la (Row.gen fun i => A.int .u8 (Int.ofNat (b i))), A.int .i64 (IntKind.i64.wrap (k + Int.ofNat 1)), A.int IntKind.u64 sd]) :: (112, O.var [A.ro 1 la (Row.gen fun i => A.int .u8 (Int.ofNat (b i))), A.int .i64 k, A.int IntKind.u64 sd]) :: M)
      else
        False
    else
      bif decide (IntKind.i64.wrap (k + 1) ≤ Int.ofNat la) then
        L (XK.ret) ([A.ptr 112 0, A.int .i64 (Int.ofNat 0)]) ((112, O.var [A.ro 1 la (Row.gen fun i => A.int .u8 (Int.ofNat (b i))), A.int .i64 (IntKind.i64.wrap (k + Int.ofNat 1)), A.int IntKind.u64 (IntKind.u64.wrap (IntKind.u64.wrap (IntKind.u64.wrap (sd * Int.ofNat 6364136223846793005) + IntKind.u64.wrap (Int.ofNat 0)) + Int.ofNat 1442695040888963407))]) :: (112, O.var [A.ro 1 la (Row.gen fun i => A.int .u8 (Int.ofNat (b i))), A.int .i64 (IntKind.i64.wrap (k + Int.ofNat 1)), A.int IntKind.u64 sd]) :: (112, O.var [A.ro 1 la (Row.gen fun i => A.int .u8 (Int.ofNat (b i))), A.int .i64 k, A.int IntKind.u64 sd]) :: M)
      else
        L (XK.ret) ([A.ptr 112 0, A.int .i64 (IntKind.i64.wrap (bandI IntKind.u64 (shrI IntKind.u64 (IntKind.u64.wrap (IntKind.u64.wrap (IntKind.u64.wrap (sd * Int.ofNat 6364136223846793005) + IntKind.u64.wrap (Int.ofNat 0)) + Int.ofNat 1442695040888963407)) (Int.ofNat 40)) (Int.ofNat 255)))]) ((112, O.var [A.ro 1 la (Row.gen fun i => A.int .u8 (Int.ofNat (b i))), A.int .i64 (IntKind.i64.wrap (k + Int.ofNat 1)), A.int IntKind.u64 (IntKind.u64.wrap (IntKind.u64.wrap (IntKind.u64.wrap (sd * Int.ofNat 6364136223846793005) + IntKind.u64.wrap (Int.ofNat 0)) + Int.ofNat 1442695040888963407))]) :: (112, O.var [A.ro 1 la (Row.gen fun i => A.int .u8 (Int.ofNat (b i))), A.int .i64 (IntKind.i64.wrap (k + Int.ofNat 1)), A.int IntKind.u64 sd]) :: (112, O.var [A.ro 1 la (Row.gen fun i => A.int .u8 (Int.ofNat (b i))), A.int .i64 k, A.int IntKind.u64 sd]) :: M) := by kernel_rfl
theorem sim_top {id : Nat} {o : O} (o1 o2 : O) (M : List (Nat × O)) : SimMem ((id, o) :: (id, o1) :: (id, o2) :: M) id M o := by
  refine ⟨fun j hj => ?_, ?_⟩
  · have e : Nat.beq id j = false := by
      cases h : Nat.beq id j
      · rfl
      · exact absurd (Nat.eq_of_beq_eq_true h).symm hj
    simp only [look, e]
  · have e : Nat.beq id id = true := Nat.beq_refl id
    simp only [look, e]
    exact OSims.self [o] |>.1
theorem nextS_ok (b : Nat → Nat) : CodeOK Try.prog (fun _ σ => nextS b σ) (bodyOf Try.f114) := by
  refine sumF_ok cfgX2s_ok (own := fun _ => true) (lp := fun _ => none) (un := 0) (fuel := 1000) (lp_none _) ?_
  intro az o az' o' hF
  unfold nextF at hF
  split at hF
  · rename_i x la g k sd
    simp only [Option.some.injEq, Prod.mk.injEq] at hF
    obtain ⟨hc, rfl, rfl⟩ := hF
    rw [Bool.and_eq_true, Bool.and_eq_true] at hc
    obtain ⟨hg, h0, h1⟩ := hc
    have hg := gIs_eq hg
    have h0 := of_decide_eq_true h0
    have h1 := of_decide_eq_true h1
    subst hg
    refine ⟨fun _ => rfl, fun _ => rfl, fun lo nx M => ?_⟩
    rw [round114]
    have hw : IntKind.i64.wrap (k + 1) = k + 1 := wrap_small (by omega) (by omega)
    have hw' : IntKind.i64.wrap (k + Int.ofNat 1) = k + 1 := hw
    by_cases hk : k < Int.ofNat la
    · have hv : srcV la b k sd = IntKind.i64.wrap (Int.ofNat (b k.toNat)) := by unfold srcV; rw [decide_eq_true hk]; rfl
      have hB : srcB la b k = IntKind.i64.wrap (Int.ofNat (b k.toNat)) := by unfold srcB; rw [decide_eq_true hk]; rfl
      refine condT (decide_eq_true hk) (condT (by rw [decide_eq_true h0, decide_eq_true hk]; rfl) (condT (decide_eq_true (by rw [hw]; have : k < (la : Int) := hk; show k + 1 ≤ (la : Int); omega)) ?_))
      rw [hw', hv]
      unfold srcS
      rw [hB]
      exact ⟨rfl, ALe.self _, sim_top _ _ M⟩
    · have hB : srcB la b k = Int.ofNat 0 := by unfold srcB; rw [decide_eq_false hk]; rfl
      have hv : srcV la b k sd = IntKind.i64.wrap (bandI IntKind.u64 (shrI IntKind.u64 (srcS la b k sd) (Int.ofNat 40)) (Int.ofNat 255)) := by unfold srcV; rw [decide_eq_false hk]; rfl
      refine condE (decide_eq_false hk) (condE (decide_eq_false (by rw [hw]; have : ¬ k < (la : Int) := hk; show ¬ k + 1 ≤ (la : Int); omega)) ?_)
      rw [hw', hv]
      unfold srcS
      rw [hB]
      exact ⟨rfl, ALe.self _, sim_top _ _ M⟩
  · cases hF
noncomputable def ftsSrc : List (Nat × Func) := [(94, Try.f94), (95, Try.f95), (96, Try.f96), (114, Try.f114)]
theorem ftsSrc_ok (f : Nat) (fn : Func) (h : (f, fn) ∈ ftsSrc) : Try.prog.funcs[f]? = some fn ∧ (fn.name == "runtime.NumGoroutine") = false := by
  simp only [ftsSrc, List.mem_cons, Prod.mk.injEq, List.not_mem_nil, or_false] at h
  rcases h with ⟨rfl, rfl⟩ | ⟨rfl, rfl⟩ | ⟨rfl, rfl⟩ | ⟨rfl, rfl⟩
  · exact ⟨Try.func94, by kernel_rfl⟩
  · exact ⟨Try.func95, by kernel_rfl⟩
  · exact ⟨Try.func96, by kernel_rfl⟩
  · exact ⟨Try.func114, by kernel_rfl⟩
noncomputable def fxSrc (b : Nat → Nat) : List (Nat × (St → T)) := [(114, nextS b)]
theorem fxSrc_ok (b : Nat → Nat) (g : Nat) (s : St → T) (fn : Func) (body : Code) (h1 : (g, s) ∈ fxSrc b) (h2 : (g, fn) ∈ ftsSrc) (h3 : fn.body = some body) : CodeOK Try.prog (fun _ σ => s σ) body := by
  simp only [fxSrc, List.mem_singleton, Prod.mk.injEq] at h1
  obtain ⟨rfl, rfl⟩ := h1
  simp only [ftsSrc, List.mem_cons, Prod.mk.injEq, List.not_mem_nil, or_false] at h2
  rcases h2 with ⟨h2, _⟩ | ⟨h2, _⟩ | ⟨h2, _⟩ | ⟨_, rfl⟩
  · omega
  · omega
  · omega
  · have e : bodyOf Try.f114 = body := by unfold bodyOf; rw [h3]
    rw [← e]
    exact nextS_ok b
noncomputable def cfgSrc (b : Nat → Nat) : Cfg := mkCfgX (nilTab tab) ftsSrc xts (look envX2) (fxSrc b)
theorem cfgSrc_ok (b : Nat → Nat) : CfgOK Try.prog (cfgSrc b) :=
  ⟨fun t ti h => nilTab_ok (fun t ti hm => tabOf_ok tab_eq t ti hm) t ti (look_mem h), fun f fn h => ftsSrc_ok f fn (look_mem h), fun f e h => let ⟨fn, k⟩ := xts_ok f e (look_mem h); ⟨fn, k.at_, k.name, k.body, k.next, k.run⟩, envX2_ok,
    fun g s fn body hs hf hb => fxSrc_ok b g s fn body (look_mem hs) (look_mem hf) hb, mixed⟩
end Go.Fw.E1

/-
  A wire of a few points, from bytes: the loop.
-/
namespace Go.Fw.E1
open Go.Proofs
def qAt (q : Int) : Nat → Int
  | 0 => q
  | k + 1 => qAt q k + Int.ofNat 1 + Int.ofNat 1 + Int.ofNat 1
theorem qAt_eq (q : Int) : ∀ k, qAt q k = q + 3 * (k : Int)
  | 0 => by simp [qAt]
  | k + 1 => by
    unfold qAt
    rw [qAt_eq q k]
    push_cast
    show q + 3 * (k : Int) + (1 : Int) + (1 : Int) + (1 : Int) = _
    omega
noncomputable def sdAt (la : Nat) (b : Nat → Nat) (q sd : Int) : Nat → Int
  | 0 => sd
  | k + 1 => srcS la b (qAt q k + Int.ofNat 1 + Int.ofNat 1) (srcS la b (qAt q k + Int.ofNat 1) (srcS la b (qAt q k) (sdAt la b q sd k)))
noncomputable def wq (v : Int) : Nat := fop .quo .f32 (fofInt .f32 (IntKind.i64.wrap (v.tmod (Int.ofNat 17) - Int.ofNat 8))) (can .f32 1082130432)
noncomputable def wx (la : Nat) (b : Nat → Nat) (q sd : Int) (k : Nat) : Nat := wq (srcV la b (qAt q k) (sdAt la b q sd k))
noncomputable def wy (la : Nat) (b : Nat → Nat) (q sd : Int) (k : Nat) : Nat := wq (srcV la b (qAt q k + Int.ofNat 1) (srcS la b (qAt q k) (sdAt la b q sd k)))
noncomputable def wz (la : Nat) (b : Nat → Nat) (q sd : Int) (k : Nat) : Nat := wq (srcV la b (qAt q k + Int.ofNat 1 + Int.ofNat 1) (srcS la b (qAt q k + Int.ofNat 1) (srcS la b (qAt q k) (sdAt la b q sd k))))
noncomputable def I45 (n k : Nat) : List A := [.ptr 0 0, .ptr 112 0, .ptr 208 0, .int .i64 (Int.ofNat (n - k))]
noncomputable def J45 (la : Nat) (b : Nat → Nat) (q sd : Int) (cl : Bool) (c k : Nat) : List O := [.var [.ro 1 la (.gen fun i => .int .u8 (Int.ofNat (b i))), .int .i64 (qAt q k), .int .u64 (sdAt la b q sd k)], .var [.sl 144 k, .bool cl, .flt .f32 c], .row 30 3 k (.vecs .f32 (wx la b q sd) (wy la b q sd) (wz la b q sd)), .var [.nils, .bool false, .flt .f32 0]]
theorem round45 (la k m : Nat) (b : Nat → Nat) (q sd : Int) (x y z : Nat → Nat) (cl : Bool) (c : Nat) (L : XK → List A → List (Option O) → Prop) :
    ((exec (cfgSrc b) (fun _ => true) (fun _ => none) 0 1000 (loopOf Try.f45 0) (litSt Try.f45.ntmps 1088 [2, 3, 4, 5] [112, 208, 144, 0] [.ptr 0 0, .ptr 112 0, .ptr 208 0, .int .i64 (Int.ofNat m)] [.var [.ro 1 la (.gen fun i => .int .u8 (Int.ofNat (b i))), .int .i64 q, .int .u64 sd], .var [.sl 144 k, .bool cl, .flt .f32 c], .row 30 3 k (.vecs .f32 x y z), .var [.nils, .bool false, .flt .f32 0]])).rt [2, 3, 4, 5] [112, 208, 144, 0]).Ok L =
    bif decide (Int.ofNat m > 0) then
      bif (gIs b fun i => A.int .u8 (Int.ofNat (b i))) && (decide (0 ≤ q) && decide (q ≤ 1000000)) then
        bif (gIs b fun i => A.int .u8 (Int.ofNat (b i))) && (decide (0 ≤ q + 1) && decide (q + 1 ≤ 1000000)) then
          bif (gIs b fun i => A.int .u8 (Int.ofNat (b i))) && (decide (0 ≤ q + 1 + 1) && decide (q + 1 + 1 ≤ 1000000)) then
            bif decide (k + 1 ≤ 1073741824) then
              L (XK.normal) ([A.ptr 0 0, A.ptr 112 0, A.ptr 208 0, A.int .i64 (IntKind.i64.wrap (Int.ofNat m - Int.ofNat 1))]) ([some (O.var [A.ro 1 la (Row.gen fun i => A.int .u8 (Int.ofNat (b i))), A.int .i64 (q + Int.ofNat 1 + Int.ofNat 1 + Int.ofNat 1), A.int IntKind.u64 (srcS la b (q + Int.ofNat 1 + Int.ofNat 1) (srcS la b (q + Int.ofNat 1) (srcS la b q sd)))]), some (O.var [A.sl 144 (k + 1), A.bool cl, A.flt .f32 c]),   some     (O.row 30 3 (k + 1)       (Row.vecs .f32         (fun j =>           match decide (j < k) with           | true => x j           | false => ([[wq (srcV la b q sd), wq (srcV la b (q + Int.ofNat 1) (srcS la b q sd)), wq (srcV la b (q + Int.ofNat 1 + Int.ofNat 1) (srcS la b (q + Int.ofNat 1) (srcS la b q sd)))]].getD (j - k) []).getD 0 0)         (fun j =>           match decide (j < k) with           | true => y j           | false => ([[wq (srcV la b q sd), wq (srcV la b (q + Int.ofNat 1) (srcS la b q sd)), wq (srcV la b (q + Int.ofNat 1 + Int.ofNat 1) (srcS la b (q + Int.ofNat 1) (srcS la b q sd)))]].getD (j - k) []).getD 1 0)         fun j =>         match decide (j < k) with         | true => z j         | false => ([[wq (srcV la b q sd), wq (srcV la b (q + Int.ofNat 1) (srcS la b q sd)), wq (srcV la b (q + Int.ofNat 1 + Int.ofNat 1) (srcS la b (q + Int.ofNat 1) (srcS la b q sd)))]].getD (j - k) []).getD 2 0)),   some (O.var [A.nils, A.bool false, A.flt .f32 0])])
            else
              False
          else
            False
        else
          False
      else
        False
    else
      L (XK.exit 0) ([A.ptr 0 0, A.ptr 112 0, A.ptr 208 0, A.int .i64 (Int.ofNat m)]) ([some (O.var [A.ro 1 la (Row.gen fun i => A.int .u8 (Int.ofNat (b i))), A.int .i64 q, A.int IntKind.u64 sd]), some (O.var [A.sl 144 k, A.bool cl, A.flt .f32 c]), some (O.row 30 3 k (Row.vecs .f32 x y z)), some (O.var [A.nils, A.bool false, A.flt .f32 0])]) := by kernel_rfl
noncomputable def F45 (b : Nat → Nat) : List A → List (Option O) → Option R3
  | [.ptr 0 0, .ptr 112 0, .ptr 208 0, .int .i64 n], [some (.var [.ro 1 la (.gen g), .int .i64 q, .int .u64 sd]), some (.var [.sl 144 0, .bool cl, .flt .f32 c]), some (.row 30 3 0 r), some (.var [.nils, .bool false, .flt .f32 0])] => some (.ite (gIs b g && (decide (0 ≤ n) && decide (n ≤ 1000) && decide (0 ≤ q) && decide (q ≤ 1000))) (.leaf .normal (I45 n.toNat n.toNat) (J45 la b q sd cl c n.toNat)) .fail)
  | _, _ => none
theorem src_cond {b : Nat → Nat} {q : Int} (h0 : 0 ≤ q) (h1 : q ≤ 1000000) : ((gIs b fun i => A.int .u8 (Int.ofNat (b i))) && (decide (0 ≤ q) && decide (q ≤ 1000000))) = true := by
  rw [gIs_self, decide_eq_true h0, decide_eq_true h1]; rfl
theorem loop45 (b : Nat → Nat) : CodeOK Try.prog (fun _ σ => sumAt Try.f45.ntmps 1088 [2, 3, 4, 5] [112, 208, 144, 0] (F45 b) σ) (.block 0 (.loop (loopOf Try.f45 0))) := by
  refine block_ok (own := fun _ => true) (lp := (fun _ => none)) (un := 0) (fuel := 1000) (cfgSrc_ok b) (lp_none _) fun az os R hF hok => ?_
  unfold F45 at hF
  split at hF
  · rename_i n la g q sd cl c r
    injection hF with hF
    subst hF
    have hg := hok.guard
    have hg' := hg
    simp only [Bool.and_eq_true, decide_eq_true_eq] at hg'
    obtain ⟨hgb, ⟨⟨hn0, hn⟩, hq0⟩, hq⟩ := hg'
    have hgb := gIs_eq hgb
    subst hgb
    obtain ⟨m, rfl⟩ := Int.eq_ofNat_of_zero_le hn0
    have hm : m ≤ 1000 := by omega
    refine for_fact (ids := [112, 208, 144, 0]) (fun _ => true) m (I45 m) (J45 la b q sd cl c) _ (.ret) (I45 m) (I45 m) (I45 m m) (J45 la b q sd cl c m) rfl (by unfold J45; exact ⟨rfl, rfl, ⟨30, _, rfl, .inr rfl, fun p hp => absurd hp (by omega)⟩, rfl, trivial⟩) (fun _ => rfl) (fun _ => rfl) (fun _ => ALe.self _) (fun _ => rfl) (ALe.self _) (OSims.self _) rfl (fun h => by cases h) (fun k hk L h1 h2 h3 => ?_) fun L hL => ?_
    · have hqk := qAt_eq q k
      unfold I45 J45
      rw [round45]
      by_cases hkm : k < m
      · refine condT (decide_eq_true (by show Int.ofNat (m - k) > 0; simp; omega)) (condT (src_cond (by omega) (by omega)) (condT (src_cond (by omega) (by omega)) (condT (src_cond (by omega) (by omega)) (condT (decide_eq_true (by omega)) ?_))))
        rw [wrap_pred' (by omega) (by omega)]
        have := h1 hkm rfl
        unfold I45 J45 at this
        rw [show m - k - 1 = m - (k + 1) from by omega]
        exact this _ ⟨rfl, rfl, ⟨30, _, rfl, .inr rfl, fun p hp => vec_at (app3 (u := wx la b q sd) rfl hp) (app3 (u := wy la b q sd) rfl hp) (app3 (u := wz la b q sd) rfl hp)⟩, rfl, trivial⟩
      · obtain rfl : k = m := by omega
        refine condE (decide_eq_false (by rw [Nat.sub_self]; decide)) ?_
        have := h3 rfl
        unfold I45 J45 at this
        exact this
    · exact ⟨fun _ => hL.1 hg, fun N _ h => by cases h⟩
  · cases hF
noncomputable def lp45 (b : Nat → Nat) : List (Nat × (St → T)) := [(0, sumAt Try.f45.ntmps 1088 [2, 3, 4, 5] [112, 208, 144, 0] (F45 b))]
end Go.Fw.E1

/-
  Words that bytes choose, as quarters; gaps and distances as fractions.
-/
namespace Go.Fw.E1
open Go.Proofs
def qw (j : Nat) : Nat := [3221225472, 3219128320, 3217031168, 3214934016, 3212836864, 3208642560, 3204448256, 3196059648, 0, 1048576000, 1056964608, 1061158912, 1065353216, 1067450368, 1069547520, 1071644672, 1073741824].getD j 0
set_option maxRecDepth 100000 in
theorem r8q_tab : allUpTo (fun v => Nat.beq (r8q v) (qw (v % 17))) 256 = true := by decide +kernel
theorem r8q_eq {v : Nat} (h : v < 256) : r8q v = qw (v % 17) := Nat.eq_of_beq_eq_true (allUpTo_iff.1 r8q_tab v h)
theorem r8d_tab : (Nat.beq (r8d 0) (qw 12) && Nat.beq (r8d 1) (qw 10) && Nat.beq (r8d 2) (qw 7)) = true := by decide +kernel
theorem r8c_ex {la : Nat} {b : Nat → Nat} (hb : ∀ i, b i < 256) (p : Nat) {k : Nat} (hk : k < 3) : ∃ j, j < 17 ∧ r8c la b p k = qw j := by
  by_cases h : p + k < la
  · exact ⟨b (p + k) % 17, Nat.mod_lt _ (by omega), by rw [r8c_in h, r8q_eq (hb _)]⟩
  · rw [r8c_out h]
    have := r8d_tab
    simp only [Bool.and_eq_true] at this
    match k, hk with
    | 0, _ => exact ⟨12, by omega, Nat.eq_of_beq_eq_true this.1.1⟩
    | 1, _ => exact ⟨10, by omega, Nat.eq_of_beq_eq_true this.1.2⟩
    | 2, _ => exact ⟨7, by omega, Nat.eq_of_beq_eq_true this.2⟩
set_option maxRecDepth 100000 in
theorem qw_tab : allUpTo (fun j => isV .f32 (vof .f32 (qw j)) (((Int.ofNat j - 8 : Int) : Rat) * (1 / 4))) 17 = true := by decide +kernel
theorem qw_qt {j : Nat} (h : j < 17) : Qt (qw j) (Int.ofNat j - 8) := Val.of_vof (allUpTo_iff.1 qw_tab j h)
theorem fin_val {x : Nat} {q : Rat} (h : Val .f32 x q) : fin x = true := by
  obtain ⟨n, h, _⟩ := h
  have h2 : Fin .f32 (fop .sub .f32 x x) 0 := by
    have := Fin.sub h h
    rw [Int.sub_self, rI_0] at this
    exact this (limK_pos _)
  unfold fin
  have h0 : Fin .f32 (can .f32 0) 0 := by
    have : Rep .f32 (can .f32 0) .zero := by rw [show can .f32 0 = 0 by decide +kernel]; exact rep_of .f32 0
    exact this
  rw [Fin.order h2 h0]
  rfl
end Go.Fw.E1

/-
  A wire of a few points, from bytes: the contract, and what its numbers are.
-/
namespace Go.Fw.E1
open Go.Proofs
noncomputable def sd1 (la : Nat) (b : Nat → Nat) : Int := srcS la b (Int.ofNat 0) (Int.ofNat 0)
noncomputable def sd2 (la : Nat) (b : Nat → Nat) : Int := srcS la b (Int.ofNat 0 + Int.ofNat 1) (sd1 la b)
noncomputable def sd3 (la : Nat) (b : Nat → Nat) : Int := srcS la b (Int.ofNat 0 + Int.ofNat 1 + Int.ofNat 1) (sd2 la b)
def q3 : Int := Int.ofNat 0 + Int.ofNat 1 + Int.ofNat 1 + Int.ofNat 1
noncomputable def wnI (la : Nat) (b : Nat → Nat) : Int := IntKind.i64.wrap (Int.ofNat 2 + (srcV la b (Int.ofNat 0 + Int.ofNat 1 + Int.ofNat 1) (sd2 la b)).tmod (Int.ofNat 5))
noncomputable def wn (la : Nat) (b : Nat → Nat) : Nat := (wnI la b).toNat
noncomputable def wcl (la : Nat) (b : Nat → Nat) : Bool := (srcV la b (Int.ofNat 0) (Int.ofNat 0)).tmod (Int.ofNat 2) == Int.ofNat 0
noncomputable def wcu (la : Nat) (b : Nat → Nat) : Nat := wq (srcV la b (Int.ofNat 0 + Int.ofNat 1) (sd1 la b))
noncomputable def wpx (la : Nat) (b : Nat → Nat) (k : Nat) : Nat := wx la b q3 (sd3 la b) k
noncomputable def wpy (la : Nat) (b : Nat → Nat) (k : Nat) : Nat := wy la b q3 (sd3 la b) k
noncomputable def wpz (la : Nat) (b : Nat → Nat) (k : Nat) : Nat := wz la b q3 (sd3 la b) k
theorem lp45_ok (b : Nat → Nat) : LpOK Try.prog (look (lp45 b)) (bodyOf Try.f45) := lp_loops (by kernel_rfl) (by kernel_rfl) fun p hp => by
  simp only [lp45, List.mem_cons, List.not_mem_nil, or_false] at hp
  rcases hp with rfl
  · exact loop45 b
theorem walk45 (la : Nat) (b : Nat → Nat) : autoW (cfgSrc b) (fun _ => true) 0 (look (lp45 b)) [false, false, false, false, false, false] Try.f45 [.ro 1 la (.gen fun i => .int .u8 (Int.ofNat (b i)))] =
    some ((gIs b fun i => A.int .u8 (Int.ofNat (b i))) && true && ((gIs b fun i => A.int .u8 (Int.ofNat (b i))) && true && ((gIs b fun i => A.int .u8 (Int.ofNat (b i))) && true && ((gIs b fun i => A.int .u8 (Int.ofNat (b i))) && (decide (0 ≤ wnI la b) && decide (wnI la b ≤ 1000) && true && true) && true))),
      .agg [.ro 3 (wn la b) (.vecs .f32 (wpx la b) (wpy la b) (wpz la b)), .bool (wcl la b), .flt .f32 (wcu la b)]) := by kernel_rfl
theorem bv_and_le (x : Int) : (BitVec.ofInt 64 x &&& BitVec.ofInt 64 (Int.ofNat 255)).toNat ≤ 255 := by
  rw [BitVec.toNat_and]
  exact Nat.and_le_right
theorem srcV_ex' {b : Nat → Nat} {la : Nat} {k : Int} (hb : k < Int.ofNat la → b k.toNat < 256) (sd : Int) : ∃ v, v < 256 ∧ srcV la b k sd = Int.ofNat v := by
  unfold srcV
  cases hk : decide (k < Int.ofNat la)
  · show ∃ v, v < 256 ∧ IntKind.i64.wrap (bandI .u64 (shrI .u64 (srcS la b k sd) (Int.ofNat 40)) (Int.ofNat 255)) = Int.ofNat v
    rw [bandI_eq]
    generalize shrI .u64 (srcS la b k sd) (Int.ofNat 40) = y
    have h := bv_and_le y
    unfold bandC
    refine ⟨(BitVec.ofInt 64 y &&& BitVec.ofInt 64 (Int.ofNat 255)).toNat, by omega, ?_⟩
    show IntKind.i64.wrap (IntKind.u64.wrap (Int.ofNat (BitVec.ofInt 64 y &&& BitVec.ofInt 64 (Int.ofNat 255)).toNat)) = _
    generalize (BitVec.ofInt 64 y &&& BitVec.ofInt 64 (Int.ofNat 255)).toNat = m at h
    have h1 : IntKind.u64.wrap (Int.ofNat m) = Int.ofNat m := by
      show (m : Int) % _ = (m : Int)
      apply Int.emod_eq_of_lt
      · omega
      · have : (m : Int) ≤ 255 := by omega
        exact Int.lt_of_le_of_lt this (by decide)
    rw [h1]
    exact wrap_nat (by omega)
  · have hb := hb (of_decide_eq_true hk)
    exact ⟨b k.toNat, hb, wrap_nat (by omega)⟩
theorem srcV_ex {b : Nat → Nat} (hb : ∀ i, b i < 256) (la : Nat) (k sd : Int) : ∃ v, v < 256 ∧ srcV la b k sd = Int.ofNat v := srcV_ex' (fun _ => hb _) sd
theorem wq_ex {b : Nat → Nat} (hb : ∀ i, b i < 256) (la : Nat) (k sd : Int) : ∃ j, j < 17 ∧ wq (srcV la b k sd) = qw j := by
  obtain ⟨v, hv, e⟩ := srcV_ex hb la k sd
  refine ⟨v % 17, Nat.mod_lt _ (by omega), ?_⟩
  rw [e, ← r8q_eq hv]
  unfold wq r8q
  rw [wrap_nat (by omega)]
  rfl
theorem wn_ex {b : Nat → Nat} {la : Nat} (hb : ∀ i, i < la → b i < 256) : ∃ n, 2 ≤ n ∧ n ≤ 6 ∧ wnI la b = Int.ofNat n ∧ wn la b = n := by
  obtain ⟨v, hv, e⟩ := srcV_ex' (la := la) (k := Int.ofNat 0 + Int.ofNat 1 + Int.ofNat 1) (fun h => hb 2 (by have h : (2 : Int) < (la : Int) := h; omega)) (sd2 la b)
  have h : wnI la b = Int.ofNat (2 + v % 5) := by
    unfold wnI
    rw [e]
    show IntKind.i64.wrap (Int.ofNat (2 + v % 5)) = _
    exact wrap_nat (by omega)
  exact ⟨2 + v % 5, by omega, by omega, h, by unfold wn; rw [h]; rfl⟩
theorem pure45 {la : Nat} {b : Nat → Nat} (hb : ∀ i, i < la → b i < 256) : PureCall Try.prog 45 [.ro 1 la (.gen fun i => .int .u8 (Int.ofNat (b i)))] (.agg [.ro 3 (wn la b) (.vecs .f32 (wpx la b) (wpy la b) (wpz la b)), .bool (wcl la b), .flt .f32 (wcu la b)]) := by
  obtain ⟨n, h1, h2, h3, _⟩ := wn_ex hb
  exact autoW_ok (cfgSrc_ok b) Try.func45 (by kernel_rfl) (lp45_ok b) (walk45 la b) (by
    rw [gIs_self, h3, decide_eq_true (show 0 ≤ Int.ofNat n by simp), decide_eq_true (show Int.ofNat n ≤ 1000 by simp; omega)]; rfl)
noncomputable def s45R : List A → Option (Bool × A)
  | [.ro 1 la (.gen g)] => some (allUpTo (isU8 g) la, .agg [.ro 3 (wn la (byt g)) (.vecs .f32 (wpx la (byt g)) (wpy la (byt g)) (wpz la (byt g))), .bool (wcl la (byt g)), .flt .f32 (wcu la (byt g))])
  | _ => none
theorem s45R_at : EnvAt Try.prog 45 s45R := by
  refine ⟨⟨Try.f45, Try.func45, by kernel_rfl, by kernel_rfl⟩, fun ds cc rr h hc => ?_⟩
  unfold s45R at h
  split at h
  · rename_i la g
    simp only [Option.some.injEq, Prod.mk.injEq] at h
    obtain ⟨rfl, rfl⟩ := h
    exact pure_bytes hc (pure45 fun i hi => (isU8_eq (allUpTo_iff.1 hc i hi)).2)
  · cases h
noncomputable def envR1 : List (Nat × (List A → Option (Bool × A))) := (45, s45R) :: envX2
theorem envR1_ok : EnvOK Try.prog (look envR1) := env_cons s45R_at envX2_ok
end Go.Fw.E1

/-
  Wires that are scaled.
-/
namespace Go.Fw.E1
open Go.Proofs
end Go.Fw.E1

/-
  The same numbers, vectors, wires: contracts by success. How many segments a wire has.
-/
namespace Go.Fw.E1
open Go.Proofs
noncomputable def envR2 : List (Nat × (List A → Option (Bool × A))) := envR1
theorem envR2_ok : EnvOK Try.prog (look envR2) := envR1_ok
end Go.Fw.E1

/-
  The same wires: contracts by success.
-/
namespace Go.Fw.E1
open Go.Proofs
noncomputable def envR3 : List (Nat × (List A → Option (Bool × A))) := envR2
theorem envR3_ok : EnvOK Try.prog (look envR3) := envR2_ok
end Go.Fw.E1

/-
  The same vectors: contracts by success.
-/
namespace Go.Fw.E1
open Go.Proofs
noncomputable def envR4 : List (Nat × (List A → Option (Bool × A))) := envR3
theorem envR4_ok : EnvOK Try.prog (look envR4) := envR3_ok
end Go.Fw.E1

/-
  The same wires: the loop over the points, the contract by success.
-/
namespace Go.Fw.E1
open Go.Proofs
end Go.Fw.E1

/-
  The same wires: contracts by success.
-/
namespace Go.Fw.E1
open Go.Proofs
noncomputable def envR5 : List (Nat × (List A → Option (Bool × A))) := envR4
theorem envR5_ok : EnvOK Try.prog (look envR5) := envR4_ok
end Go.Fw.E1

/-
  The same wires; middles of wires: contracts by success.
-/
namespace Go.Fw.E1
open Go.Proofs
end Go.Fw.E1

/-
  Middles of wires: the loop.
-/
namespace Go.Fw.E1
open Go.Proofs
end Go.Fw.E1

/-
  Middles of wires: the contract by success. All contracts for the law of wires.
-/
namespace Go.Fw.E1
open Go.Proofs
noncomputable def envR6 : List (Nat × (List A → Option (Bool × A))) := envR5
theorem envR6_ok : EnvOK Try.prog (look envR6) := envR5_ok
end Go.Fw.E1

/-
  Lengths of wires: the contract by success.
-/
namespace Go.Fw.E1
open Go.Proofs
noncomputable def s47T : List A → Option (Bool × A)
  | [.agg [.ro 3 n (.vecs .f32 x y z), .bool cl, .flt .f32 cur]] => some (lenOk n cur x y z cl, .tup [.flt .f32 (lenW n x y z cl), .bool true])
  | _ => none
theorem s47T_at : EnvAt Try.prog 47 s47T := by
  refine ⟨s35_at.1, fun ds cc rr h hc => ?_⟩
  unfold s47T at h
  split at h
  · rename_i n x y z cl cur
    simp only [Option.some.injEq, Prod.mk.injEq] at h
    obtain ⟨rfl, rfl⟩ := h
    have h1 : okW n cur x y z = true := by unfold lenOk at hc; rw [Bool.and_eq_true] at hc; exact hc.1
    have h2 := okW_n h1
    have key := s35_at.2 [.agg [.ro 3 n (.vecs .f32 x y z), .bool cl, .flt .f32 cur]] _ _ rfl (ble_of (show n ≤ 1073741824 by omega))
    rw [hc] at key
    exact key
  · cases h
noncomputable def envR7 : List (Nat × (List A → Option (Bool × A))) := (47, s47T) :: envR6
theorem envR7_ok : EnvOK Try.prog (look envR7) := env_cons s47T_at envR6_ok
end Go.Fw.E1

/-
  Lists of numbers that are finite.
-/
namespace Go.Fw.E1
open Go.Proofs
noncomputable def envC1 : List (Nat × (List A → Option (Bool × A))) := envR7
theorem envC1_ok : EnvOK Try.prog (look envC1) := envR7_ok
noncomputable def envC2 : List (Nat × (List A → Option (Bool × A))) := envC1
theorem envC2_ok : EnvOK Try.prog (look envC2) := envC1_ok
noncomputable def envC3 : List (Nat × (List A → Option (Bool × A))) := envC2
theorem envC3_ok : EnvOK Try.prog (look envC3) := envC2_ok
noncomputable def envC4 : List (Nat × (List A → Option (Bool × A))) := envC3
theorem envC4_ok : EnvOK Try.prog (look envC4) := envC3_ok
end Go.Fw.E1

/-
  What wires do to a wire: the loop over its pieces.
-/
namespace Go.Fw.E1
open Go.Proofs
noncomputable def envU1 : List (Nat × (List A → Option (Bool × A))) := (67, s67T) :: (92, s92T) :: (76, s76T) :: envC4
theorem envU1_ok : EnvOK Try.prog (look envU1) := env_cons s67T_at (env_cons s92T_at (env_cons s76T_at envC4_ok))
noncomputable def cfgU1 : Cfg := mkCfg tab [] xts (look envU1)
theorem cfgU1_ok : CfgOK Try.prog cfgU1 := cfg_ok tab_eq (no_fts _) xts_ok envU1_ok mixed
noncomputable def onX (m : Nat) (n : Nat → Nat) (x y z : Nat → Nat → Nat) (cl : Nat → Bool) (cur : Nat → Nat) (g : Nat → Nat) : Nat := crX (g 0) (g 1) (g 2) (faX n x y z cl cur (g 3) (g 4) (g 5) 0 m) (faY n x y z cl cur (g 3) (g 4) (g 5) 0 m) (faZ n x y z cl cur (g 3) (g 4) (g 5) 0 m)
noncomputable def onY (m : Nat) (n : Nat → Nat) (x y z : Nat → Nat → Nat) (cl : Nat → Bool) (cur : Nat → Nat) (g : Nat → Nat) : Nat := crY (g 0) (g 1) (g 2) (faX n x y z cl cur (g 3) (g 4) (g 5) 0 m) (faY n x y z cl cur (g 3) (g 4) (g 5) 0 m) (faZ n x y z cl cur (g 3) (g 4) (g 5) 0 m)
noncomputable def onZ (m : Nat) (n : Nat → Nat) (x y z : Nat → Nat → Nat) (cl : Nat → Bool) (cur : Nat → Nat) (g : Nat → Nat) : Nat := crZ (g 0) (g 1) (g 2) (faX n x y z cl cur (g 3) (g 4) (g 5) 0 m) (faY n x y z cl cur (g 3) (g 4) (g 5) 0 m) (faZ n x y z cl cur (g 3) (g 4) (g 5) 0 m)
noncomputable def sumW (f : Nat → Nat) : Nat → Nat
  | 0 => 0
  | k + 1 => fop .add .f32 (sumW f k) (f k)
noncomputable def I55u (m : Nat) (n : Nat → Nat) (x y z : Nat → Nat → Nat) (cl : Nat → Bool) (cur : Nat → Nat) (pp N k : Nat) : List A := [.ro 3 m (.wires n x y z cl cur), .int .i64 (Int.ofNat pp), .ptr 0 0, .ptr 16 0, .bool false, .ptr 272 0, .sl 336 N, .int .i64 (Int.ofNat N), .int .i64 (Int.ofNat k)]
noncomputable def J55u (N p q r n2 cur2 : Nat) (x2 y2 z2 : Nat → Nat) (cl2 : Bool) (gg : Nat → Nat → Nat) : List O := [.row 0 6 N (.flns .f32 6 gg), .var [.flt .f32 p, .flt .f32 q, .flt .f32 r], .var [.flt .f32 0, .flt .f32 0, .flt .f32 0], .var [.ro 3 n2 (.vecs .f32 x2 y2 z2), .bool cl2, .flt .f32 cur2]]
theorem round55u (m : Nat) (n : Nat → Nat) (x y z : Nat → Nat → Nat) (cl : Nat → Bool) (cur : Nat → Nat) (pp N k p q r n2 cur2 : Nat) (x2 y2 z2 : Nat → Nat) (cl2 : Bool) (gg : Nat → Nat → Nat) (L : XK → List A → List (Option O) → Prop) :
    ((exec cfgU1 (fun _ => true) (fun _ => none) 0 1000 (loopOf Try.f55 0) (litSt Try.f55.ntmps 384 [0, 2, 4, 6, 7, 8, 30, 31, 32] [336, 272, 16, 0] (I55u m n x y z cl cur pp N k) (J55u N p q r n2 cur2 x2 y2 z2 cl2 gg))).rt [0, 2, 4, 6, 7, 8, 30, 31, 32] [336, 272, 16, 0]).Ok L =
    bif decide (Int.ofNat k < Int.ofNat N) then
      bif decide (Int.ofNat k < Int.ofNat N) then
        bif faG m n x y z cl cur (gg k 3) (gg k 4) (gg k 5) then
          L (XK.normal) [.ro 3 m (.wires n x y z cl cur), .int .i64 (Int.ofNat pp), .ptr 0 0, .ptr 16 0, .bool false, .ptr 272 0, .sl 336 N, .int .i64 (Int.ofNat N), .int .i64 (IntKind.i64.wrap (Int.ofNat k + Int.ofNat 1))] ((J55u N (fop .add .f32 p (onX m n x y z cl cur (gg k))) (fop .add .f32 q (onY m n x y z cl cur (gg k))) (fop .add .f32 r (onZ m n x y z cl cur (gg k))) n2 cur2 x2 y2 z2 cl2 gg).map some)
        else
          False
      else
        False
    else
      L (XK.exit 0) (I55u m n x y z cl cur pp N k) ((J55u N p q r n2 cur2 x2 y2 z2 cl2 gg).map some) := by kernel_rfl
end Go.Fw.E1

/-
  What wires do to a wire: a contract by success.
-/
namespace Go.Fw.E1
open Go.Proofs
noncomputable def onOk (m : Nat) (n : Nat → Nat) (x y z : Nat → Nat → Nat) (cl : Nat → Bool) (cur : Nat → Nat) (gg : Nat → Nat → Nat) (k : Nat) : Bool := faG m n x y z cl cur (gg k 3) (gg k 4) (gg k 5)
noncomputable def onSX (m : Nat) (n : Nat → Nat) (x y z : Nat → Nat → Nat) (cl : Nat → Bool) (cur : Nat → Nat) (gg : Nat → Nat → Nat) (k : Nat) : Nat := sumW (fun j => onX m n x y z cl cur (gg j)) k
noncomputable def onSY (m : Nat) (n : Nat → Nat) (x y z : Nat → Nat → Nat) (cl : Nat → Bool) (cur : Nat → Nat) (gg : Nat → Nat → Nat) (k : Nat) : Nat := sumW (fun j => onY m n x y z cl cur (gg j)) k
noncomputable def onSZ (m : Nat) (n : Nat → Nat) (x y z : Nat → Nat → Nat) (cl : Nat → Bool) (cur : Nat → Nat) (gg : Nat → Nat → Nat) (k : Nat) : Nat := sumW (fun j => onZ m n x y z cl cur (gg j)) k
noncomputable def J55k (m : Nat) (n : Nat → Nat) (x y z : Nat → Nat → Nat) (cl : Nat → Bool) (cur : Nat → Nat) (N n2 cur2 : Nat) (x2 y2 z2 : Nat → Nat) (cl2 : Bool) (gg : Nat → Nat → Nat) (k : Nat) : List O := J55u N (onSX m n x y z cl cur gg k) (onSY m n x y z cl cur gg k) (onSZ m n x y z cl cur gg k) n2 cur2 x2 y2 z2 cl2 gg
noncomputable def F55u : List A → List (Option O) → Option R3
  | [.ro 3 m (.wires n x y z cl cur), .int .i64 (.ofNat pp), .ptr 0 0, .ptr 16 0, .bool false, .ptr 272 0, .sl 336 N, .int .i64 l, .int .i64 0], [some (.row 0 6 N2 (.flns .f32 6 gg)), some (.var [.flt .f32 0, .flt .f32 0, .flt .f32 0]), some (.var [.flt .f32 0, .flt .f32 0, .flt .f32 0]), some (.var [.ro 3 n2 (.vecs .f32 x2 y2 z2), .bool cl2, .flt .f32 cur2])] =>
    some (.ite (Nat.beq N N2 && decide (l = Int.ofNat N) && Nat.ble N 100000 && allUpTo (onOk m n x y z cl cur gg) N) (.leaf .normal (I55u m n x y z cl cur pp N N) (J55k m n x y z cl cur N n2 cur2 x2 y2 z2 cl2 gg N)) .fail)
  | _, _ => none
theorem loop55u : CodeOK Try.prog (fun _ σ => sumAt Try.f55.ntmps 384 [0, 2, 4, 6, 7, 8, 30, 31, 32] [336, 272, 16, 0] F55u σ) (.block 0 (.loop (loopOf Try.f55 0))) := by
  refine block_ok (own := fun _ => true) (lp := (fun _ => none)) (un := 0) (fuel := 1000) cfgU1_ok (lp_none _) fun az os R hF hok => ?_
  unfold F55u at hF
  split at hF
  · rename_i m n x y z cl cur pp N l N2 gg n2 x2 y2 z2 cl2 cur2
    injection hF with hF
    subst hF
    have hg := hok.guard
    have hg' := hg
    simp only [Bool.and_eq_true, Nat.ble_eq, Nat.beq_eq, decide_eq_true_eq] at hg'
    obtain ⟨⟨⟨rfl, rfl⟩, hN⟩, hall⟩ := hg'
    have hall := allUpTo_iff.1 hall
    refine for_fact (ids := [336, 272, 16, 0]) (fun _ => true) N (I55u m n x y z cl cur pp N) (J55k m n x y z cl cur N n2 cur2 x2 y2 z2 cl2 gg) _ (.ret) (I55u m n x y z cl cur pp N) (I55u m n x y z cl cur pp N) (I55u m n x y z cl cur pp N N) (J55k m n x y z cl cur N n2 cur2 x2 y2 z2 cl2 gg N) rfl (by exact ⟨⟨0, _, rfl, .inr rfl, fun _ _ => rfl⟩, rfl, rfl, rfl, trivial⟩) (fun _ => rfl) (fun _ => rfl) (fun _ => ALe.self _) (fun _ => rfl) (ALe.self _) (OSims.self _) rfl (fun h => by cases h) (fun k hk L h1 h2 h3 => ?_) fun L hL => ?_
    · unfold J55k
      rw [round55u]
      by_cases hkm : k < N
      · refine condT (lt_dec hkm) (condT (lt_dec hkm) (condT (hall k hkm) ?_))
        rw [wrap_succ (by omega)]
        exact h1 hkm rfl _ ⟨⟨0, _, rfl, .inr rfl, fun _ _ => rfl⟩, rfl, rfl, rfl, trivial⟩
      · refine condE (ge_dec (by omega)) ?_
        obtain rfl : k = N := by omega
        exact h3 rfl
    · exact ⟨fun _ => hL.1 hg, fun N _ h => by cases h⟩
  · cases hF
noncomputable def lp55u : List (Nat × (St → T)) := [(0, sumAt Try.f55.ntmps 384 [0, 2, 4, 6, 7, 8, 30, 31, 32] [336, 272, 16, 0] F55u)]
theorem lp55u_ok : LpOK Try.prog (look lp55u) (bodyOf Try.f55) := lp_loops (by kernel_rfl) (by kernel_rfl) fun p hp => by
  simp only [lp55u, List.mem_cons, List.not_mem_nil, or_false] at hp
  rcases hp with rfl
  · exact loop55u
end Go.Fw.E1

/-
  What wires do to a wire: the contract by success.
-/
namespace Go.Fw.E1
open Go.Proofs
noncomputable def onFX (m : Nat) (n : Nat → Nat) (x y z : Nat → Nat → Nat) (cl : Nat → Bool) (cur : Nat → Nat) (n2 cur2 : Nat) (x2 y2 z2 : Nat → Nat) (cl2 : Bool) (pp : Nat) : Nat := fop .mul .f32 (onSX m n x y z cl cur (pc (sg n2 x2 y2 z2) pp) (pp * cnt n2 cl2)) cur2
noncomputable def onFY (m : Nat) (n : Nat → Nat) (x y z : Nat → Nat → Nat) (cl : Nat → Bool) (cur : Nat → Nat) (n2 cur2 : Nat) (x2 y2 z2 : Nat → Nat) (cl2 : Bool) (pp : Nat) : Nat := fop .mul .f32 (onSY m n x y z cl cur (pc (sg n2 x2 y2 z2) pp) (pp * cnt n2 cl2)) cur2
noncomputable def onFZ (m : Nat) (n : Nat → Nat) (x y z : Nat → Nat → Nat) (cl : Nat → Bool) (cur : Nat → Nat) (n2 cur2 : Nat) (x2 y2 z2 : Nat → Nat) (cl2 : Bool) (pp : Nat) : Nat := fop .mul .f32 (onSZ m n x y z cl cur (pc (sg n2 x2 y2 z2) pp) (pp * cnt n2 cl2)) cur2
noncomputable def onA (m : Nat) (n : Nat → Nat) (x y z : Nat → Nat → Nat) (cur : Nat → Nat) (n2 cur2 : Nat) (x2 y2 z2 : Nat → Nat) (pp : Nat) : Bool := !bif bif !areW m n x y z cur then true else !okW n2 cur2 x2 y2 z2 then true else !inI (Int.ofNat pp) (Int.ofNat 1) (Int.ofNat 8)
noncomputable def onC (m : Nat) (n : Nat → Nat) (x y z : Nat → Nat → Nat) (cl : Nat → Bool) (cur : Nat → Nat) (n2 cur2 : Nat) (x2 y2 z2 : Nat → Nat) (cl2 : Bool) (pp : Nat) : Bool := m.ble 1048576 && allUpTo (shortW n) m && (Nat.ble 1 n2 && n2.ble 1000 && pp.ble 32) && onA m n x y z cur n2 cur2 x2 y2 z2 pp && allUpTo (onOk m n x y z cl cur (pc (sg n2 x2 y2 z2) pp)) (pp * cnt n2 cl2) && vfin (onFX m n x y z cl cur n2 cur2 x2 y2 z2 cl2 pp) (onFY m n x y z cl cur n2 cur2 x2 y2 z2 cl2 pp) (onFZ m n x y z cl cur n2 cur2 x2 y2 z2 cl2 pp)
theorem walk55u (m : Nat) (n : Nat → Nat) (x y z : Nat → Nat → Nat) (cl : Nat → Bool) (cur : Nat → Nat) (n2 cur2 : Nat) (x2 y2 z2 : Nat → Nat) (cl2 : Bool) (pp : Nat) : autoW cfgU1 (fun _ => true) 0 (look lp55u) [false] Try.f55 [.ro 3 m (.wires n x y z cl cur), .agg [.ro 3 n2 (.vecs .f32 x2 y2 z2), .bool cl2, .flt .f32 cur2], .int .i64 (.ofNat pp)] =
    some (m.ble 1048576 && allUpTo (shortW n) m && ((n2.ble 4611686018427387000 || !(!areW m n x y z cur) == false) && (onA m n x y z cur n2 cur2 x2 y2 z2 pp && (Nat.ble 1 n2 && n2.ble 1000 && pp.ble 32 && ((pp * cnt n2 cl2).beq (pp * cnt n2 cl2) && decide (Int.ofNat (pp * cnt n2 cl2) = Int.ofNat (pp * cnt n2 cl2)) && (pp * cnt n2 cl2).ble 100000 && allUpTo (onOk m n x y z cl cur (pc (sg n2 x2 y2 z2) pp)) (pp * cnt n2 cl2) && (vfin (onFX m n x y z cl cur n2 cur2 x2 y2 z2 cl2 pp) (onFY m n x y z cl cur n2 cur2 x2 y2 z2 cl2 pp) (onFZ m n x y z cl cur n2 cur2 x2 y2 z2 cl2 pp) && true))))), .tup [.agg [.flt .f32 (onFX m n x y z cl cur n2 cur2 x2 y2 z2 cl2 pp), .flt .f32 (onFY m n x y z cl cur n2 cur2 x2 y2 z2 cl2 pp), .flt .f32 (onFZ m n x y z cl cur n2 cur2 x2 y2 z2 cl2 pp)], .bool true]) := by kernel_rfl
noncomputable def s55T : List A → Option (Bool × A)
  | [.ro 3 m (.wires n x y z cl cur), .agg [.ro 3 n2 (.vecs .f32 x2 y2 z2), .bool cl2, .flt .f32 cur2], .int .i64 (.ofNat pp)] => some (onC m n x y z cl cur n2 cur2 x2 y2 z2 cl2 pp, .tup [.agg [.flt .f32 (onFX m n x y z cl cur n2 cur2 x2 y2 z2 cl2 pp), .flt .f32 (onFY m n x y z cl cur n2 cur2 x2 y2 z2 cl2 pp), .flt .f32 (onFZ m n x y z cl cur n2 cur2 x2 y2 z2 cl2 pp)], .bool true])
  | _ => none
theorem s55T_at : EnvAt Try.prog 55 s55T := by
  refine ⟨⟨Try.f55, Try.func55, by kernel_rfl, by kernel_rfl⟩, fun ds cc rr h hc => ?_⟩
  unfold s55T at h
  split at h
  · rename_i m n x y z cl cur n2 x2 y2 z2 cl2 cur2 pp
    simp only [Option.some.injEq, Prod.mk.injEq] at h
    obtain ⟨rfl, rfl⟩ := h
    exact autoW_ok cfgU1_ok Try.func55 (by kernel_rfl) lp55u_ok (walk55u m n x y z cl cur n2 cur2 x2 y2 z2 cl2 pp) (by
      unfold onC at hc
      simp only [Bool.and_eq_true, Nat.ble_eq] at hc
      obtain ⟨⟨⟨⟨⟨h1, h2⟩, ⟨h3, h4⟩, h5⟩, h6⟩, h7⟩, h8⟩ := hc
      have hN : pp * cnt n2 cl2 ≤ 100000 := pcnt_le h4 h5
      rw [ble_of h1, h2, ble_of h3, ble_of h4, ble_of h5, h6, h7, h8, ble_of hN, ble_of (show n2 ≤ 4611686018427387000 by omega), Nat.beq_refl, decide_eq_true rfl]; rfl)
  · cases h
noncomputable def envU3 : List (Nat × (List A → Option (Bool × A))) := (55, s55T) :: envU1
theorem envU3_ok : EnvOK Try.prog (look envU3) := env_cons s55T_at envU1_ok
noncomputable def cfgU3 : Cfg := mkCfg tab [] xts (look envU3)
theorem cfgU3_ok : CfgOK Try.prog cfgU3 := cfg_ok tab_eq (no_fts _) xts_ok envU3_ok mixed
end Go.Fw.E1

/-
  What wires do to each segment of a wire: the loop.
-/
namespace Go.Fw.E1
open Go.Proofs
def sg2X (g : Nat → Nat) (i : Nat) : Nat := ([[g 0, g 1, g 2], [g 3, g 4, g 5]].getD i []).getD 0 0
def sg2Y (g : Nat → Nat) (i : Nat) : Nat := ([[g 0, g 1, g 2], [g 3, g 4, g 5]].getD i []).getD 1 0
def sg2Z (g : Nat → Nat) (i : Nat) : Nat := ([[g 0, g 1, g 2], [g 3, g 4, g 5]].getD i []).getD 2 0
noncomputable def fpX (m : Nat) (n : Nat → Nat) (x y z : Nat → Nat → Nat) (cl : Nat → Bool) (cur : Nat → Nat) (cur2 : Nat) (gg : Nat → Nat → Nat) (k : Nat) : Nat := onFX m n x y z cl cur 2 cur2 (sg2X (gg k)) (sg2Y (gg k)) (sg2Z (gg k)) false 1
noncomputable def fpY (m : Nat) (n : Nat → Nat) (x y z : Nat → Nat → Nat) (cl : Nat → Bool) (cur : Nat → Nat) (cur2 : Nat) (gg : Nat → Nat → Nat) (k : Nat) : Nat := onFY m n x y z cl cur 2 cur2 (sg2X (gg k)) (sg2Y (gg k)) (sg2Z (gg k)) false 1
noncomputable def fpZ (m : Nat) (n : Nat → Nat) (x y z : Nat → Nat → Nat) (cl : Nat → Bool) (cur : Nat → Nat) (cur2 : Nat) (gg : Nat → Nat → Nat) (k : Nat) : Nat := onFZ m n x y z cl cur 2 cur2 (sg2X (gg k)) (sg2Y (gg k)) (sg2Z (gg k)) false 1
noncomputable def fpC (m : Nat) (n : Nat → Nat) (x y z : Nat → Nat → Nat) (cl : Nat → Bool) (cur : Nat → Nat) (cur2 : Nat) (gg : Nat → Nat → Nat) (k : Nat) : Bool := onC m n x y z cl cur 2 cur2 (sg2X (gg k)) (sg2Y (gg k)) (sg2Z (gg k)) false 1
noncomputable def I56u (m : Nat) (n : Nat → Nat) (x y z : Nat → Nat → Nat) (cl : Nat → Bool) (cur : Nat → Nat) (N k : Nat) : List A := [.ro 3 m (.wires n x y z cl cur), .ptr 0 0, .emp, .bool false, .sl 176 k, .sl 224 N, .int .i64 (Int.ofNat N), .int .i64 (Int.ofNat k)]
noncomputable def J56u (m : Nat) (n : Nat → Nat) (x y z : Nat → Nat → Nat) (cl : Nat → Bool) (cur : Nat → Nat) (N n2 cur2 : Nat) (x2 y2 z2 : Nat → Nat) (cl2 : Bool) (gg : Nat → Nat → Nat) (k : Nat) : List O := [.row 0 6 N (.flns .f32 6 gg), .row 30 3 k (.vecs .f32 (fpX m n x y z cl cur cur2 gg) (fpY m n x y z cl cur cur2 gg) (fpZ m n x y z cl cur cur2 gg)), .var [.ro 3 n2 (.vecs .f32 x2 y2 z2), .bool cl2, .flt .f32 cur2]]
theorem round56u (m : Nat) (n : Nat → Nat) (x y z : Nat → Nat → Nat) (cl : Nat → Bool) (cur : Nat → Nat) (N k n2 cur2 : Nat) (x2 y2 z2 : Nat → Nat) (cl2 : Bool) (gg : Nat → Nat → Nat) (L : XK → List A → List (Option O) → Prop) :
    ((exec cfgU3 (fun _ => true) (fun _ => none) 0 1000 (loopOf Try.f56 0) (litSt Try.f56.ntmps 272 [0, 3, 4, 5, 6, 21, 22, 23] [224, 176, 0] (I56u m n x y z cl cur N k) (J56u m n x y z cl cur N n2 cur2 x2 y2 z2 cl2 gg k))).rt [0, 3, 4, 5, 6, 21, 22, 23] [224, 176, 0]).Ok L =
    bif decide (Int.ofNat k < Int.ofNat N) then
      bif decide (Int.ofNat k < Int.ofNat N) then
        bif fpC m n x y z cl cur cur2 gg k then
          bif decide (k + 1 ≤ 1073741824) then
            L (XK.normal) [.ro 3 m (.wires n x y z cl cur), .ptr 0 0, .emp, .bool false, .sl 176 (k + 1), .sl 224 N, .int .i64 (Int.ofNat N), .int .i64 (IntKind.i64.wrap (Int.ofNat k + Int.ofNat 1))] [some (.row 0 6 N (.flns .f32 6 gg)), some (.row 30 3 (k + 1) (.vecs .f32 (fun j => (match decide (j < k) with | true => fpX m n x y z cl cur cur2 gg j | false => ([[fpX m n x y z cl cur cur2 gg k, fpY m n x y z cl cur cur2 gg k, fpZ m n x y z cl cur cur2 gg k]].getD (j - k) []).getD 0 0)) (fun j => (match decide (j < k) with | true => fpY m n x y z cl cur cur2 gg j | false => ([[fpX m n x y z cl cur cur2 gg k, fpY m n x y z cl cur cur2 gg k, fpZ m n x y z cl cur cur2 gg k]].getD (j - k) []).getD 1 0)) (fun j => (match decide (j < k) with | true => fpZ m n x y z cl cur cur2 gg j | false => ([[fpX m n x y z cl cur cur2 gg k, fpY m n x y z cl cur cur2 gg k, fpZ m n x y z cl cur cur2 gg k]].getD (j - k) []).getD 2 0)))), some (.var [.ro 3 n2 (.vecs .f32 x2 y2 z2), .bool cl2, .flt .f32 cur2])]
          else
            False
        else
          False
      else
        False
    else
      L (XK.exit 0) (I56u m n x y z cl cur N k) ((J56u m n x y z cl cur N n2 cur2 x2 y2 z2 cl2 gg k).map some) := by kernel_rfl
end Go.Fw.E1
