/-
  The seat's tables.
-/
import Derived.Test.YtlehhjphmenfbaaFwC
import Derived.Test.YtlehhjphmenfbaaChecked

namespace Go.Fw.E1
open Go.Proofs
def types : List Nat := [27, 49, 4, 3, 2, 126, 147, 5, 22, 31, 44, 30, 24, 99, 102, 116, 119, 41, 128]
def tab : List (Nat × TI) :=
  [(27, { bytes := 4, zero := [A.flt .f32 0], fk := some .f32 }),
    (49, { bytes := 8, zero := [A.flt .f64 0], fk := some .f64 }),
    (4, { bytes := 1, zero := [A.bool false], isBool := true }),
    (3, { bytes := 8, zero := [A.int .i64 (Int.ofNat 0)], ik := some IntKind.i64 }),
    (2, { bytes := 8, zero := [A.int .i64 (Int.ofNat 0)], ik := some IntKind.i64 }),
    (126, { bytes := 8, zero := [A.int IntKind.u64 (Int.ofNat 0)], ik := some IntKind.u64 }),
    (147, { bytes := 4, zero := [A.int IntKind.u32 (Int.ofNat 0)], ik := some IntKind.u32 }),
    (5, { bytes := 1, zero := [A.int .u8 (Int.ofNat 0)], ik := some IntKind.u8 }),
    (22, { bytes := 24, zero := [A.emp], elem := some 5 }),
    (31, { bytes := 24, zero := [A.emp], elem := some 30 }),
    (44, { agg := true, size := 3, bytes := 32, zero := [A.emp, A.bool false, A.flt .f32 0], fields := [(0, 1), (1, 1), (2, 1)] }),
    (30, { agg := true, size := 3, bytes := 12, zero := [A.flt .f32 0, A.flt .f32 0, A.flt .f32 0], fields := [(0, 1), (1, 1), (2, 1)], v3 := true }),
    (24, { bytes := 24, zero := [A.emp], elem := some 44 }),
    (99, { bytes := 24, zero := [A.emp], elem := some 102 }),
    (102, { agg := true, size := 6, bytes := 24, zero := [A.flt .f32 0, A.flt .f32 0, A.flt .f32 0, A.flt .f32 0, A.flt .f32 0, A.flt .f32 0], fields := [(0, 3), (3, 3)] }),
    (116, { bytes := 24, zero := [A.emp], elem := some 119 }),
    (119, { agg := true, size := 6, bytes := 24, zero := [A.flt .f32 0, A.flt .f32 0, A.flt .f32 0, A.flt .f32 0, A.flt .f32 0, A.flt .f32 0], fields := [(0, 3), (3, 3)] }),
    (41, { bytes := 24, zero := [A.emp], elem := some 27 }),
    (128, { agg := true, size := 3, bytes := 40, zero := [A.emp, A.int .i64 (Int.ofNat 0), A.int IntKind.u64 (Int.ofNat 0)], fields := [(0, 1), (1, 1), (2, 1)] })]
theorem tab_eq : tabOf Try.prog types = some tab := by kernel_rfl
theorem mixed : Try.prog.follows .mixedOrders = true := by kernel_rfl
end Go.Fw.E1

/-
  Numbers, conditions, searches: what the seat's texts share.
-/
namespace Go.Fw.E1
open Go.Proofs
theorem wrap_small {x : Int} (h0 : 0 ≤ x) (h : x ≤ 4611686018427387904) : IntKind.i64.wrap x = x := by
  simp [IntKind.wrap, IntKind.bits, IntKind.signed]
  omega
def xts : List (Nat × Ext) := [(121, .sqrt), (124, .bits64), (123, .from64)]
theorem xts_ok (f : Nat) (e : Ext) (h : (f, e) ∈ xts) : ∃ fn, XtOK Try.prog f e fn := by
  simp only [xts, List.mem_cons, Prod.mk.injEq, List.not_mem_nil, or_false] at h
  rcases h with ⟨rfl, rfl⟩ | ⟨rfl, rfl⟩ | ⟨rfl, rfl⟩
  · exact ⟨_, Try.func121, by kernel_rfl, by kernel_rfl, by kernel_rfl, by kernel_rfl⟩
  · exact ⟨_, Try.func124, by kernel_rfl, by kernel_rfl, by kernel_rfl, by kernel_rfl⟩
  · exact ⟨_, Try.func123, by kernel_rfl, by kernel_rfl, by kernel_rfl, by kernel_rfl⟩
theorem no_fts (P : Program) (f : Nat) (fn : Func) (h : (f, fn) ∈ ([] : List (Nat × Func))) : P.funcs[f]? = some fn ∧ (fn.name == "runtime.NumGoroutine") = false := by cases h
noncomputable def env0 : List (Nat × (List A → Option (Bool × A))) := []
theorem env0_ok : EnvOK Try.prog (look env0) := env_nil
noncomputable def cfg0 : Cfg := mkCfg tab [] xts (look env0)
theorem cfg0_ok : CfgOK Try.prog cfg0 := cfg_ok tab_eq (no_fts _) xts_ok env_nil mixed
theorem of_auto {cfg : Cfg} (hc : CfgOK Try.prog cfg) {f : Nat} {fn : Func} {lp : Nat → Option (St → T)} (hlp : LpOK Try.prog lp (bodyOf fn)) (hf : Try.prog.funcs[f]? = some fn) (hb : fn.body.isSome = true) (hn : (fn.name == "runtime.NumGoroutine") = false)
    {s : List A → Option (Bool × A)} (h : ∀ ds c r, s ds = some (c, r) → c = true → ∃ c', autoLp cfg lp fn ds = some (c', r) ∧ c' = true) : EnvAt Try.prog f s :=
  ⟨⟨fn, hf, hb, hn⟩, fun ds c r hs hct => by
    obtain ⟨c', h1, h2⟩ := h ds c r hs hct
    exact (autoLp_at hc hlp hf hb hn).2 ds c' r h1 h2⟩
theorem of_autoS {cfg : Cfg} (hc : CfgOK Try.prog cfg) {f : Nat} {fn : Func} {lp : Nat → Option (St → T)} {sel : Bool} (hlp : LpOK Try.prog lp (bodyOf fn)) (hf : Try.prog.funcs[f]? = some fn) (hb : fn.body.isSome = true) (hn : (fn.name == "runtime.NumGoroutine") = false)
    {s : List A → Option (Bool × A)} (h : ∀ ds c r, s ds = some (c, r) → c = true → ∃ c', autoS cfg lp sel fn ds = some (c', r) ∧ c' = true) : EnvAt Try.prog f s :=
  ⟨⟨fn, hf, hb, hn⟩, fun ds c r hs hct => by
    obtain ⟨c', h1, h2⟩ := h ds c r hs hct
    exact (autoS_at hc hlp hf hb hn).2 ds c' r h1 h2⟩
theorem auto_fit {x : Option (Bool × A)} {c' : Bool} {r' r : A} (h : x = some (c', r')) (h1 : r' = r) (h2 : c' = true) : ∃ c', x = some (c', r) ∧ c' = true := ⟨c', by rw [h, h1], h2⟩
theorem condT {b : Bool} {X Y : Prop} (h : b = true) (hx : X) : cond b X Y := by subst h; exact hx
theorem condE {b : Bool} {X Y : Prop} (h : b = false) (hy : Y) : cond b X Y := by subst h; exact hy
theorem wrap_succ {k : Nat} (h : k ≤ 4611686018427387000) : IntKind.i64.wrap (Int.ofNat k + Int.ofNat 1) = Int.ofNat (k + 1) := wrap_small (by simp; omega) (by simp; omega)
theorem wrap_nat {x : Nat} (h : x ≤ 4611686018427387000) : IntKind.i64.wrap (Int.ofNat x) = Int.ofNat x := wrap_small (by simp) (by simp; omega)
theorem lt_dec {k m : Nat} (h : k < m) : decide (Int.ofNat k < Int.ofNat m) = true := by simp; omega
theorem ge_dec {k m : Nat} (h : m ≤ k) : decide (Int.ofNat k < Int.ofNat m) = false := by simp; omega
theorem dec0 (x : Nat) : decide ((0 : Int) ≤ Int.ofNat x) = true := by simp
theorem ble_of {n m : Nat} (h : n ≤ m) : n.ble m = true := Nat.ble_eq_true_of_le h
def nan (x : Nat) : Bool := forder .f32 x x != some .eq
def fin (x : Nat) : Bool := forder .f32 (fop .sub .f32 x x) (can .f32 0) == some .eq
def lt0 (x : Nat) : Bool := forder .f32 x (can .f32 0) == some .lt
def gt0 (x : Nat) : Bool := forder .f32 x (can .f32 0) == some .gt
def ge0 (x : Nat) : Bool := forder .f32 x (can .f32 0) == some .gt || forder .f32 x (can .f32 0) == some .eq
def least (x : Nat) : Bool := bif fin x then ge0 x else false
def above (x : Nat) : Bool := bif fin x then gt0 x else false
def root32 (x : Nat) : Nat := fcvt .f64 .f32 (fsqrt (fcvt .f32 .f64 x))
def inn (x1 x2 x3 y1 y2 y3 : Nat) : Nat := fop .add .f32 (fop .add .f32 (fop .mul .f32 x1 y1) (fop .mul .f32 x2 y2)) (fop .mul .f32 x3 y3)
def long (x y z : Nat) : Nat := root32 (inn x y z x y z)
def vfin (x y z : Nat) : Bool := bif bif fin x then fin y else false then fin z else false
end Go.Fw.E1

/-
  The leaves: functions of numbers and vectors.
-/
namespace Go.Fw.E1
open Go.Proofs
theorem auto79 (x : Nat) : autoLp cfg0 (fun _ => none) Try.f73 [.flt .f32 x] =
    some (true, A.bool (forder .f32 (fop .sub .f32 x x) (can .f32 0) == some Ordering.eq)) := by kernel_rfl
noncomputable def s79 : List A → Option (Bool × A)
  | [.flt .f32 x] => some (true, .bool (fin x))
  | _ => none
theorem s79_at : EnvAt Try.prog 73 s79 := of_auto cfg0_ok (lp_none _) Try.func73 (by kernel_rfl) (by kernel_rfl) fun ds cc rr h hc => by
  unfold s79 at h
  split at h
  · rename_i x
    simp only [Option.some.injEq, Prod.mk.injEq] at h
    obtain ⟨rfl, rfl⟩ := h
    refine auto_fit (auto79 x) ?_ ?_
    · rfl
    · rfl
  · cases h
theorem auto136 (x : Nat) : autoLp cfg0 (fun _ => none) Try.f110 [.flt .f64 x] =
    some (true, A.flt .f64 (fsqrt x)) := by kernel_rfl
noncomputable def s136 : List A → Option (Bool × A)
  | [.flt .f64 x] => some (true, .flt .f64 (fsqrt x))
  | _ => none
theorem s136_at : EnvAt Try.prog 110 s136 := of_auto cfg0_ok (lp_none _) Try.func110 (by kernel_rfl) (by kernel_rfl) fun ds cc rr h hc => by
  unfold s136 at h
  split at h
  · rename_i x
    simp only [Option.some.injEq, Prod.mk.injEq] at h
    obtain ⟨rfl, rfl⟩ := h
    refine auto_fit (auto136 x) ?_ ?_
    · rfl
    · rfl
  · cases h
theorem auto71 (a b c x y z : Nat) : autoLp cfg0 (fun _ => none) Try.f42 [.agg [.flt .f32 a, .flt .f32 b, .flt .f32 c], .agg [.flt .f32 x, .flt .f32 y, .flt .f32 z]] =
    some (true, A.agg [A.flt .f32 (fop .sub .f32 a x), A.flt .f32 (fop .sub .f32 b y), A.flt .f32 (fop .sub .f32 c z)]) := by kernel_rfl
noncomputable def s71 : List A → Option (Bool × A)
  | [.agg [.flt .f32 a, .flt .f32 b, .flt .f32 c], .agg [.flt .f32 x, .flt .f32 y, .flt .f32 z]] => some (true, .agg [.flt .f32 (fop .sub .f32 a x), .flt .f32 (fop .sub .f32 b y), .flt .f32 (fop .sub .f32 c z)])
  | _ => none
theorem s71_at : EnvAt Try.prog 42 s71 := of_auto cfg0_ok (lp_none _) Try.func42 (by kernel_rfl) (by kernel_rfl) fun ds cc rr h hc => by
  unfold s71 at h
  split at h
  · rename_i a b c x y z
    simp only [Option.some.injEq, Prod.mk.injEq] at h
    obtain ⟨rfl, rfl⟩ := h
    refine auto_fit (auto71 a b c x y z) ?_ ?_
    · rfl
    · rfl
  · cases h
theorem auto108 (a b c x y z : Nat) : autoLp cfg0 (fun _ => none) Try.f37 [.agg [.flt .f32 a, .flt .f32 b, .flt .f32 c], .agg [.flt .f32 x, .flt .f32 y, .flt .f32 z]] =
    some (true, A.agg [A.flt .f32 (fop .add .f32 a x), A.flt .f32 (fop .add .f32 b y), A.flt .f32 (fop .add .f32 c z)]) := by kernel_rfl
noncomputable def s108 : List A → Option (Bool × A)
  | [.agg [.flt .f32 a, .flt .f32 b, .flt .f32 c], .agg [.flt .f32 x, .flt .f32 y, .flt .f32 z]] => some (true, .agg [.flt .f32 (fop .add .f32 a x), .flt .f32 (fop .add .f32 b y), .flt .f32 (fop .add .f32 c z)])
  | _ => none
theorem s108_at : EnvAt Try.prog 37 s108 := of_auto cfg0_ok (lp_none _) Try.func37 (by kernel_rfl) (by kernel_rfl) fun ds cc rr h hc => by
  unfold s108 at h
  split at h
  · rename_i a b c x y z
    simp only [Option.some.injEq, Prod.mk.injEq] at h
    obtain ⟨rfl, rfl⟩ := h
    refine auto_fit (auto108 a b c x y z) ?_ ?_
    · rfl
    · rfl
  · cases h
theorem auto109 (a b c x : Nat) : autoLp cfg0 (fun _ => none) Try.f38 [.agg [.flt .f32 a, .flt .f32 b, .flt .f32 c], .flt .f32 x] =
    some (true, A.agg [A.flt .f32 (fop .mul .f32 a x), A.flt .f32 (fop .mul .f32 b x), A.flt .f32 (fop .mul .f32 c x)]) := by kernel_rfl
noncomputable def s109 : List A → Option (Bool × A)
  | [.agg [.flt .f32 a, .flt .f32 b, .flt .f32 c], .flt .f32 x] => some (true, .agg [.flt .f32 (fop .mul .f32 a x), .flt .f32 (fop .mul .f32 b x), .flt .f32 (fop .mul .f32 c x)])
  | _ => none
theorem s109_at : EnvAt Try.prog 38 s109 := of_auto cfg0_ok (lp_none _) Try.func38 (by kernel_rfl) (by kernel_rfl) fun ds cc rr h hc => by
  unfold s109 at h
  split at h
  · rename_i a b c x
    simp only [Option.some.injEq, Prod.mk.injEq] at h
    obtain ⟨rfl, rfl⟩ := h
    refine auto_fit (auto109 a b c x) ?_ ?_
    · rfl
    · rfl
  · cases h
theorem auto107 (a b c x y z : Nat) : autoLp cfg0 (fun _ => none) Try.f44 [.agg [.flt .f32 a, .flt .f32 b, .flt .f32 c], .agg [.flt .f32 x, .flt .f32 y, .flt .f32 z]] =
    some (true, A.flt .f32 (fop .add .f32 (fop .add .f32 (fop .mul .f32 a x) (fop .mul .f32 b y)) (fop .mul .f32 c z))) := by kernel_rfl
noncomputable def s107 : List A → Option (Bool × A)
  | [.agg [.flt .f32 a, .flt .f32 b, .flt .f32 c], .agg [.flt .f32 x, .flt .f32 y, .flt .f32 z]] => some (true, .flt .f32 (inn a b c x y z))
  | _ => none
theorem s107_at : EnvAt Try.prog 44 s107 := of_auto cfg0_ok (lp_none _) Try.func44 (by kernel_rfl) (by kernel_rfl) fun ds cc rr h hc => by
  unfold s107 at h
  split at h
  · rename_i a b c x y z
    simp only [Option.some.injEq, Prod.mk.injEq] at h
    obtain ⟨rfl, rfl⟩ := h
    refine auto_fit (auto107 a b c x y z) ?_ ?_
    · rfl
    · rfl
  · cases h
theorem auto147 (a b c x y z : Nat) : autoLp cfg0 (fun _ => none) Try.f92 [.agg [.flt .f32 a, .flt .f32 b, .flt .f32 c], .agg [.flt .f32 x, .flt .f32 y, .flt .f32 z]] =
    some (true, A.agg [A.flt .f32 (fop .sub .f32 (fop .mul .f32 b z) (fop .mul .f32 c y)), A.flt .f32 (fop .sub .f32 (fop .mul .f32 c x) (fop .mul .f32 a z)), A.flt .f32 (fop .sub .f32 (fop .mul .f32 a y) (fop .mul .f32 b x))]) := by kernel_rfl
noncomputable def s147 : List A → Option (Bool × A)
  | [.agg [.flt .f32 a, .flt .f32 b, .flt .f32 c], .agg [.flt .f32 x, .flt .f32 y, .flt .f32 z]] => some (true, .agg [.flt .f32 (fop .sub .f32 (fop .mul .f32 b z) (fop .mul .f32 c y)), .flt .f32 (fop .sub .f32 (fop .mul .f32 c x) (fop .mul .f32 a z)), .flt .f32 (fop .sub .f32 (fop .mul .f32 a y) (fop .mul .f32 b x))])
  | _ => none
theorem s147_at : EnvAt Try.prog 92 s147 := of_auto cfg0_ok (lp_none _) Try.func92 (by kernel_rfl) (by kernel_rfl) fun ds cc rr h hc => by
  unfold s147 at h
  split at h
  · rename_i a b c x y z
    simp only [Option.some.injEq, Prod.mk.injEq] at h
    obtain ⟨rfl, rfl⟩ := h
    refine auto_fit (auto147 a b c x y z) ?_ ?_
    · rfl
    · rfl
  · cases h
theorem auto76 (n l h : Int) : autoLp cfg0 (fun _ => none) Try.f80 [.int .i64 n, .int .i64 l, .int .i64 h] =
    some (true, A.bool (bif decide (n ≥ l) then decide (n ≤ h) else false)) := by kernel_rfl
noncomputable def s76 : List A → Option (Bool × A)
  | [.int .i64 n, .int .i64 l, .int .i64 h] => some (true, .bool (bif decide (n ≥ l) then decide (n ≤ h) else false))
  | _ => none
theorem s76_at : EnvAt Try.prog 80 s76 := of_auto cfg0_ok (lp_none _) Try.func80 (by kernel_rfl) (by kernel_rfl) fun ds cc rr h hc => by
  unfold s76 at h
  split at h
  · rename_i n l h
    simp only [Option.some.injEq, Prod.mk.injEq] at h
    obtain ⟨rfl, rfl⟩ := h
    refine auto_fit (auto76 n l h) ?_ ?_
    · rfl
    · rfl
  · cases h
noncomputable def env1 : List (Nat × (List A → Option (Bool × A))) := (73, s79) :: (110, s136) :: (42, s71) :: (37, s108) :: (38, s109) :: (44, s107) :: (92, s147) :: (80, s76) :: env0
theorem env1_ok : EnvOK Try.prog (look env1) := (env_cons s79_at (env_cons s136_at (env_cons s71_at (env_cons s108_at (env_cons s109_at (env_cons s107_at (env_cons s147_at (env_cons s76_at env0_ok))))))))
noncomputable def cfg1 : Cfg := mkCfg tab [] xts (look env1)
theorem cfg1_ok : CfgOK Try.prog cfg1 := cfg_ok tab_eq (no_fts _) xts_ok env1_ok mixed
theorem auto110 (x : Nat) : autoLp cfg1 (fun _ => none) Try.f71 [.flt .f32 x] =
    some (fcvtOk .f64 .f32 (fsqrt (fcvt .f32 .f64 x)) && true, A.flt .f32 (fcvt .f64 .f32 (fsqrt (fcvt .f32 .f64 x)))) := by kernel_rfl
noncomputable def s110 : List A → Option (Bool × A)
  | [.flt .f32 x] => some (true, .flt .f32 (root32 x))
  | _ => none
theorem s110_at : EnvAt Try.prog 71 s110 := of_auto cfg1_ok (lp_none _) Try.func71 (by kernel_rfl) (by kernel_rfl) fun ds cc rr h hc => by
  unfold s110 at h
  split at h
  · rename_i x
    simp only [Option.some.injEq, Prod.mk.injEq] at h
    obtain ⟨rfl, rfl⟩ := h
    refine auto_fit (auto110 x) ?_ ?_
    · rfl
    · simp only [sqrt_ok, Bool.and_true]
  · cases h
theorem auto100 (a b c : Nat) : autoLp cfg1 (fun _ => none) Try.f65 [.agg [.flt .f32 a, .flt .f32 b, .flt .f32 c]] =
    some (true, A.bool (bif bif fin a then fin b else false then fin c else false)) := by kernel_rfl
noncomputable def s100 : List A → Option (Bool × A)
  | [.agg [.flt .f32 a, .flt .f32 b, .flt .f32 c]] => some (true, .bool (vfin a b c))
  | _ => none
theorem s100_at : EnvAt Try.prog 65 s100 := of_auto cfg1_ok (lp_none _) Try.func65 (by kernel_rfl) (by kernel_rfl) fun ds cc rr h hc => by
  unfold s100 at h
  split at h
  · rename_i a b c
    simp only [Option.some.injEq, Prod.mk.injEq] at h
    obtain ⟨rfl, rfl⟩ := h
    refine auto_fit (auto100 a b c) ?_ ?_
    · rfl
    · rfl
  · cases h
theorem auto92 (x : Nat) : autoLp cfg1 (fun _ => none) Try.f78 [.flt .f32 x] =
    some (bif !fin x then true else true, A.tup [A.flt .f32 (bif !fin x then can .f32 0 else x), A.bool (bif !fin x then false else true)]) := by kernel_rfl
noncomputable def s92 : List A → Option (Bool × A)
  | [.flt .f32 x] => some (true, .tup [.flt .f32 (bif fin x then x else can .f32 0), .bool (fin x)])
  | _ => none
theorem s92_at : EnvAt Try.prog 78 s92 := of_auto cfg1_ok (lp_none _) Try.func78 (by kernel_rfl) (by kernel_rfl) fun ds cc rr h hc => by
  unfold s92 at h
  split at h
  · rename_i x
    simp only [Option.some.injEq, Prod.mk.injEq] at h
    obtain ⟨rfl, rfl⟩ := h
    refine auto_fit (auto92 x) ?_ ?_
    · cases fin x <;> rfl
    · simp
  · cases h
theorem auto78 (x : Nat) : autoLp cfg1 (fun _ => none) Try.f63 [.flt .f32 x] =
    some (true, A.bool (bif fin x then forder .f32 x (can .f32 0) == some Ordering.gt else false)) := by kernel_rfl
noncomputable def s78 : List A → Option (Bool × A)
  | [.flt .f32 x] => some (true, .bool (above x))
  | _ => none
theorem s78_at : EnvAt Try.prog 63 s78 := of_auto cfg1_ok (lp_none _) Try.func63 (by kernel_rfl) (by kernel_rfl) fun ds cc rr h hc => by
  unfold s78 at h
  split at h
  · rename_i x
    simp only [Option.some.injEq, Prod.mk.injEq] at h
    obtain ⟨rfl, rfl⟩ := h
    refine auto_fit (auto78 x) ?_ ?_
    · rfl
    · rfl
  · cases h
theorem auto113 (x : Nat) : autoLp cfg1 (fun _ => none) Try.f105 [.flt .f32 x] =
    some (true, A.bool (bif fin x then forder .f32 x (can .f32 0) == some Ordering.gt || forder .f32 x (can .f32 0) == some Ordering.eq else false)) := by kernel_rfl
noncomputable def s113 : List A → Option (Bool × A)
  | [.flt .f32 x] => some (true, .bool (least x))
  | _ => none
theorem s113_at : EnvAt Try.prog 105 s113 := of_auto cfg1_ok (lp_none _) Try.func105 (by kernel_rfl) (by kernel_rfl) fun ds cc rr h hc => by
  unfold s113 at h
  split at h
  · rename_i x
    simp only [Option.some.injEq, Prod.mk.injEq] at h
    obtain ⟨rfl, rfl⟩ := h
    refine auto_fit (auto113 x) ?_ ?_
    · rfl
    · rfl
  · cases h
def inI (n l h : Int) : Bool := bif decide (n ≥ l) then decide (n ≤ h) else false
theorem auto105 (n : Int) : autoLp cfg1 (fun _ => none) Try.f103 [.int .i64 n] =
    some (true, A.bool (bif decide (n ≥ 1) then decide (n ≤ 8) else false)) := by kernel_rfl
noncomputable def s105 : List A → Option (Bool × A)
  | [.int .i64 n] => some (true, .bool (inI n 1 8))
  | _ => none
theorem s105_at : EnvAt Try.prog 103 s105 := of_auto cfg1_ok (lp_none _) Try.func103 (by kernel_rfl) (by kernel_rfl) fun ds cc rr h hc => by
  unfold s105 at h
  split at h
  · rename_i n
    simp only [Option.some.injEq, Prod.mk.injEq] at h
    obtain ⟨rfl, rfl⟩ := h
    refine auto_fit (auto105 n) ?_ ?_
    · rfl
    · rfl
  · cases h
theorem auto64 (n : Int) : autoLp cfg1 (fun _ => none) Try.f66 [.int .i64 n] =
    some (true, A.bool (bif decide (n ≥ 1) then decide (n ≤ 48) else false)) := by kernel_rfl
noncomputable def s64 : List A → Option (Bool × A)
  | [.int .i64 n] => some (true, .bool (inI n 1 48))
  | _ => none
theorem s64_at : EnvAt Try.prog 66 s64 := of_auto cfg1_ok (lp_none _) Try.func66 (by kernel_rfl) (by kernel_rfl) fun ds cc rr h hc => by
  unfold s64 at h
  split at h
  · rename_i n
    simp only [Option.some.injEq, Prod.mk.injEq] at h
    obtain ⟨rfl, rfl⟩ := h
    refine auto_fit (auto64 n) ?_ ?_
    · rfl
    · rfl
  · cases h
theorem auto77 (n : Int) : autoLp cfg1 (fun _ => none) Try.f72 [.int .i64 n] =
    some (true, A.bool (bif decide (n ≥ 3) then decide (n ≤ 48) else false)) := by kernel_rfl
noncomputable def s77 : List A → Option (Bool × A)
  | [.int .i64 n] => some (true, .bool (inI n 3 48))
  | _ => none
theorem s77_at : EnvAt Try.prog 72 s77 := of_auto cfg1_ok (lp_none _) Try.func72 (by kernel_rfl) (by kernel_rfl) fun ds cc rr h hc => by
  unfold s77 at h
  split at h
  · rename_i n
    simp only [Option.some.injEq, Prod.mk.injEq] at h
    obtain ⟨rfl, rfl⟩ := h
    refine auto_fit (auto77 n) ?_ ?_
    · rfl
    · rfl
  · cases h
noncomputable def env2 : List (Nat × (List A → Option (Bool × A))) := (71, s110) :: (65, s100) :: (78, s92) :: (63, s78) :: (105, s113) :: (103, s105) :: (66, s64) :: (72, s77) :: env1
theorem env2_ok : EnvOK Try.prog (look env2) := (env_cons s110_at (env_cons s100_at (env_cons s92_at (env_cons s78_at (env_cons s113_at (env_cons s105_at (env_cons s64_at (env_cons s77_at env1_ok))))))))
noncomputable def cfg2 : Cfg := mkCfg tab [] xts (look env2)
theorem cfg2_ok : CfgOK Try.prog cfg2 := cfg_ok tab_eq (no_fts _) xts_ok env2_ok mixed
theorem auto67 (a b c : Nat) : autoLp cfg2 (fun _ => none) Try.f18 [.agg [.flt .f32 a, .flt .f32 b, .flt .f32 c]] =
    some (true, A.flt .f32 (root32 (inn a b c a b c))) := by kernel_rfl
noncomputable def s67 : List A → Option (Bool × A)
  | [.agg [.flt .f32 a, .flt .f32 b, .flt .f32 c]] => some (true, .flt .f32 (long a b c))
  | _ => none
theorem s67_at : EnvAt Try.prog 18 s67 := of_auto cfg2_ok (lp_none _) Try.func18 (by kernel_rfl) (by kernel_rfl) fun ds cc rr h hc => by
  unfold s67 at h
  split at h
  · rename_i a b c
    simp only [Option.some.injEq, Prod.mk.injEq] at h
    obtain ⟨rfl, rfl⟩ := h
    refine auto_fit (auto67 a b c) ?_ ?_
    · rfl
    · rfl
  · cases h
theorem auto101 (a b c : Nat) : autoLp cfg2 (fun _ => none) Try.f76 [.agg [.flt .f32 a, .flt .f32 b, .flt .f32 c]] =
    some (bif !vfin a b c then true else true, A.tup [A.agg [A.flt .f32 (bif !vfin a b c then 0 else a), A.flt .f32 (bif !vfin a b c then 0 else b), A.flt .f32 (bif !vfin a b c then 0 else c)], A.bool (bif !vfin a b c then false else true)]) := by kernel_rfl
noncomputable def s101 : List A → Option (Bool × A)
  | [.agg [.flt .f32 a, .flt .f32 b, .flt .f32 c]] => some (true, .tup [.agg [.flt .f32 (bif vfin a b c then a else can .f32 0), .flt .f32 (bif vfin a b c then b else can .f32 0), .flt .f32 (bif vfin a b c then c else can .f32 0)], .bool (vfin a b c)])
  | _ => none
theorem s101_at : EnvAt Try.prog 76 s101 := of_auto cfg2_ok (lp_none _) Try.func76 (by kernel_rfl) (by kernel_rfl) fun ds cc rr h hc => by
  unfold s101 at h
  split at h
  · rename_i a b c
    simp only [Option.some.injEq, Prod.mk.injEq] at h
    obtain ⟨rfl, rfl⟩ := h
    refine auto_fit (auto101 a b c) ?_ ?_
    · cases vfin a b c <;> rfl
    · simp
  · cases h
noncomputable def env3 : List (Nat × (List A → Option (Bool × A))) := (18, s67) :: (76, s101) :: env2
theorem env3_ok : EnvOK Try.prog (look env3) := (env_cons s67_at (env_cons s101_at env2_ok))
noncomputable def cfg3 : Cfg := mkCfg tab [] xts (look env3)
theorem cfg3_ok : CfgOK Try.prog cfg3 := cfg_ok tab_eq (no_fts _) xts_ok env3_ok mixed
end Go.Fw.E1

/-
  What a segment makes; the laws' own functions on vectors.
-/
namespace Go.Fw.E1
open Go.Proofs
def sgD (a b c x y z : Nat) : Nat := fop .mul .f32 (fop .mul .f32 (long a b c) (long x y z)) (fop .add .f32 (fop .mul .f32 (long a b c) (long x y z)) (inn a b c x y z))
def sgQ (a b c x y z : Nat) : Nat := fop .quo .f32 (fop .add .f32 (long a b c) (long x y z)) (sgD a b c x y z)
def sgNo (a b c x y z : Nat) : Bool := bif !(forder .f32 (sgD a b c x y z) (can .f32 0) == some .gt) then true else !fin (sgQ a b c x y z)
def sgX (a b c x y z : Nat) : Nat := bif sgNo a b c x y z then can .f32 0 else fop .mul .f32 (fop .sub .f32 (fop .mul .f32 b z) (fop .mul .f32 c y)) (sgQ a b c x y z)
def sgY (a b c x y z : Nat) : Nat := bif sgNo a b c x y z then can .f32 0 else fop .mul .f32 (fop .sub .f32 (fop .mul .f32 c x) (fop .mul .f32 a z)) (sgQ a b c x y z)
def sgZ (a b c x y z : Nat) : Nat := bif sgNo a b c x y z then can .f32 0 else fop .mul .f32 (fop .sub .f32 (fop .mul .f32 a y) (fop .mul .f32 b x)) (sgQ a b c x y z)
theorem auto134 (a b c x y z p q r : Nat) : autoLp cfg3 (fun _ => none) Try.f113 [.agg [.flt .f32 a, .flt .f32 b, .flt .f32 c], .agg [.flt .f32 x, .flt .f32 y, .flt .f32 z], .agg [.flt .f32 p, .flt .f32 q, .flt .f32 r]] =
    some (bif bif !forder .f32 (fop .mul .f32 (fop .mul .f32 (long (fop .sub .f32 p a) (fop .sub .f32 q b) (fop .sub .f32 r c)) (long (fop .sub .f32 p x) (fop .sub .f32 q y) (fop .sub .f32 r z))) (fop .add .f32 (fop .mul .f32 (long (fop .sub .f32 p a) (fop .sub .f32 q b) (fop .sub .f32 r c)) (long (fop .sub .f32 p x) (fop .sub .f32 q y) (fop .sub .f32 r z))) (inn (fop .sub .f32 p a) (fop .sub .f32 q b) (fop .sub .f32 r c) (fop .sub .f32 p x) (fop .sub .f32 q y) (fop .sub .f32 r z)))) (can .f32 0) == some Ordering.gt then true else !fin (fop .quo .f32 (fop .add .f32 (long (fop .sub .f32 p a) (fop .sub .f32 q b) (fop .sub .f32 r c)) (long (fop .sub .f32 p x) (fop .sub .f32 q y) (fop .sub .f32 r z))) (fop .mul .f32 (fop .mul .f32 (long (fop .sub .f32 p a) (fop .sub .f32 q b) (fop .sub .f32 r c)) (long (fop .sub .f32 p x) (fop .sub .f32 q y) (fop .sub .f32 r z))) (fop .add .f32 (fop .mul .f32 (long (fop .sub .f32 p a) (fop .sub .f32 q b) (fop .sub .f32 r c)) (long (fop .sub .f32 p x) (fop .sub .f32 q y) (fop .sub .f32 r z))) (inn (fop .sub .f32 p a) (fop .sub .f32 q b) (fop .sub .f32 r c) (fop .sub .f32 p x) (fop .sub .f32 q y) (fop .sub .f32 r z))))) then true else true, A.agg [A.flt .f32 (bif bif !forder .f32 (fop .mul .f32 (fop .mul .f32 (long (fop .sub .f32 p a) (fop .sub .f32 q b) (fop .sub .f32 r c)) (long (fop .sub .f32 p x) (fop .sub .f32 q y) (fop .sub .f32 r z))) (fop .add .f32 (fop .mul .f32 (long (fop .sub .f32 p a) (fop .sub .f32 q b) (fop .sub .f32 r c)) (long (fop .sub .f32 p x) (fop .sub .f32 q y) (fop .sub .f32 r z))) (inn (fop .sub .f32 p a) (fop .sub .f32 q b) (fop .sub .f32 r c) (fop .sub .f32 p x) (fop .sub .f32 q y) (fop .sub .f32 r z)))) (can .f32 0) == some Ordering.gt then true else !fin (fop .quo .f32 (fop .add .f32 (long (fop .sub .f32 p a) (fop .sub .f32 q b) (fop .sub .f32 r c)) (long (fop .sub .f32 p x) (fop .sub .f32 q y) (fop .sub .f32 r z))) (fop .mul .f32 (fop .mul .f32 (long (fop .sub .f32 p a) (fop .sub .f32 q b) (fop .sub .f32 r c)) (long (fop .sub .f32 p x) (fop .sub .f32 q y) (fop .sub .f32 r z))) (fop .add .f32 (fop .mul .f32 (long (fop .sub .f32 p a) (fop .sub .f32 q b) (fop .sub .f32 r c)) (long (fop .sub .f32 p x) (fop .sub .f32 q y) (fop .sub .f32 r z))) (inn (fop .sub .f32 p a) (fop .sub .f32 q b) (fop .sub .f32 r c) (fop .sub .f32 p x) (fop .sub .f32 q y) (fop .sub .f32 r z))))) then 0 else fop .mul .f32 (fop .sub .f32 (fop .mul .f32 (fop .sub .f32 q b) (fop .sub .f32 r z)) (fop .mul .f32 (fop .sub .f32 r c) (fop .sub .f32 q y))) (fop .quo .f32 (fop .add .f32 (long (fop .sub .f32 p a) (fop .sub .f32 q b) (fop .sub .f32 r c)) (long (fop .sub .f32 p x) (fop .sub .f32 q y) (fop .sub .f32 r z))) (fop .mul .f32 (fop .mul .f32 (long (fop .sub .f32 p a) (fop .sub .f32 q b) (fop .sub .f32 r c)) (long (fop .sub .f32 p x) (fop .sub .f32 q y) (fop .sub .f32 r z))) (fop .add .f32 (fop .mul .f32 (long (fop .sub .f32 p a) (fop .sub .f32 q b) (fop .sub .f32 r c)) (long (fop .sub .f32 p x) (fop .sub .f32 q y) (fop .sub .f32 r z))) (inn (fop .sub .f32 p a) (fop .sub .f32 q b) (fop .sub .f32 r c) (fop .sub .f32 p x) (fop .sub .f32 q y) (fop .sub .f32 r z)))))), A.flt .f32 (bif bif !forder .f32 (fop .mul .f32 (fop .mul .f32 (long (fop .sub .f32 p a) (fop .sub .f32 q b) (fop .sub .f32 r c)) (long (fop .sub .f32 p x) (fop .sub .f32 q y) (fop .sub .f32 r z))) (fop .add .f32 (fop .mul .f32 (long (fop .sub .f32 p a) (fop .sub .f32 q b) (fop .sub .f32 r c)) (long (fop .sub .f32 p x) (fop .sub .f32 q y) (fop .sub .f32 r z))) (inn (fop .sub .f32 p a) (fop .sub .f32 q b) (fop .sub .f32 r c) (fop .sub .f32 p x) (fop .sub .f32 q y) (fop .sub .f32 r z)))) (can .f32 0) == some Ordering.gt then true else !fin (fop .quo .f32 (fop .add .f32 (long (fop .sub .f32 p a) (fop .sub .f32 q b) (fop .sub .f32 r c)) (long (fop .sub .f32 p x) (fop .sub .f32 q y) (fop .sub .f32 r z))) (fop .mul .f32 (fop .mul .f32 (long (fop .sub .f32 p a) (fop .sub .f32 q b) (fop .sub .f32 r c)) (long (fop .sub .f32 p x) (fop .sub .f32 q y) (fop .sub .f32 r z))) (fop .add .f32 (fop .mul .f32 (long (fop .sub .f32 p a) (fop .sub .f32 q b) (fop .sub .f32 r c)) (long (fop .sub .f32 p x) (fop .sub .f32 q y) (fop .sub .f32 r z))) (inn (fop .sub .f32 p a) (fop .sub .f32 q b) (fop .sub .f32 r c) (fop .sub .f32 p x) (fop .sub .f32 q y) (fop .sub .f32 r z))))) then 0 else fop .mul .f32 (fop .sub .f32 (fop .mul .f32 (fop .sub .f32 r c) (fop .sub .f32 p x)) (fop .mul .f32 (fop .sub .f32 p a) (fop .sub .f32 r z))) (fop .quo .f32 (fop .add .f32 (long (fop .sub .f32 p a) (fop .sub .f32 q b) (fop .sub .f32 r c)) (long (fop .sub .f32 p x) (fop .sub .f32 q y) (fop .sub .f32 r z))) (fop .mul .f32 (fop .mul .f32 (long (fop .sub .f32 p a) (fop .sub .f32 q b) (fop .sub .f32 r c)) (long (fop .sub .f32 p x) (fop .sub .f32 q y) (fop .sub .f32 r z))) (fop .add .f32 (fop .mul .f32 (long (fop .sub .f32 p a) (fop .sub .f32 q b) (fop .sub .f32 r c)) (long (fop .sub .f32 p x) (fop .sub .f32 q y) (fop .sub .f32 r z))) (inn (fop .sub .f32 p a) (fop .sub .f32 q b) (fop .sub .f32 r c) (fop .sub .f32 p x) (fop .sub .f32 q y) (fop .sub .f32 r z)))))), A.flt .f32 (bif bif !forder .f32 (fop .mul .f32 (fop .mul .f32 (long (fop .sub .f32 p a) (fop .sub .f32 q b) (fop .sub .f32 r c)) (long (fop .sub .f32 p x) (fop .sub .f32 q y) (fop .sub .f32 r z))) (fop .add .f32 (fop .mul .f32 (long (fop .sub .f32 p a) (fop .sub .f32 q b) (fop .sub .f32 r c)) (long (fop .sub .f32 p x) (fop .sub .f32 q y) (fop .sub .f32 r z))) (inn (fop .sub .f32 p a) (fop .sub .f32 q b) (fop .sub .f32 r c) (fop .sub .f32 p x) (fop .sub .f32 q y) (fop .sub .f32 r z)))) (can .f32 0) == some Ordering.gt then true else !fin (fop .quo .f32 (fop .add .f32 (long (fop .sub .f32 p a) (fop .sub .f32 q b) (fop .sub .f32 r c)) (long (fop .sub .f32 p x) (fop .sub .f32 q y) (fop .sub .f32 r z))) (fop .mul .f32 (fop .mul .f32 (long (fop .sub .f32 p a) (fop .sub .f32 q b) (fop .sub .f32 r c)) (long (fop .sub .f32 p x) (fop .sub .f32 q y) (fop .sub .f32 r z))) (fop .add .f32 (fop .mul .f32 (long (fop .sub .f32 p a) (fop .sub .f32 q b) (fop .sub .f32 r c)) (long (fop .sub .f32 p x) (fop .sub .f32 q y) (fop .sub .f32 r z))) (inn (fop .sub .f32 p a) (fop .sub .f32 q b) (fop .sub .f32 r c) (fop .sub .f32 p x) (fop .sub .f32 q y) (fop .sub .f32 r z))))) then 0 else fop .mul .f32 (fop .sub .f32 (fop .mul .f32 (fop .sub .f32 p a) (fop .sub .f32 q y)) (fop .mul .f32 (fop .sub .f32 q b) (fop .sub .f32 p x))) (fop .quo .f32 (fop .add .f32 (long (fop .sub .f32 p a) (fop .sub .f32 q b) (fop .sub .f32 r c)) (long (fop .sub .f32 p x) (fop .sub .f32 q y) (fop .sub .f32 r z))) (fop .mul .f32 (fop .mul .f32 (long (fop .sub .f32 p a) (fop .sub .f32 q b) (fop .sub .f32 r c)) (long (fop .sub .f32 p x) (fop .sub .f32 q y) (fop .sub .f32 r z))) (fop .add .f32 (fop .mul .f32 (long (fop .sub .f32 p a) (fop .sub .f32 q b) (fop .sub .f32 r c)) (long (fop .sub .f32 p x) (fop .sub .f32 q y) (fop .sub .f32 r z))) (inn (fop .sub .f32 p a) (fop .sub .f32 q b) (fop .sub .f32 r c) (fop .sub .f32 p x) (fop .sub .f32 q y) (fop .sub .f32 r z))))))]) := by kernel_rfl
noncomputable def s134 : List A → Option (Bool × A)
  | [.agg [.flt .f32 a, .flt .f32 b, .flt .f32 c], .agg [.flt .f32 x, .flt .f32 y, .flt .f32 z], .agg [.flt .f32 p, .flt .f32 q, .flt .f32 r]] => some (true, .agg [.flt .f32 (sgX (fop .sub .f32 p a) (fop .sub .f32 q b) (fop .sub .f32 r c) (fop .sub .f32 p x) (fop .sub .f32 q y) (fop .sub .f32 r z)), .flt .f32 (sgY (fop .sub .f32 p a) (fop .sub .f32 q b) (fop .sub .f32 r c) (fop .sub .f32 p x) (fop .sub .f32 q y) (fop .sub .f32 r z)), .flt .f32 (sgZ (fop .sub .f32 p a) (fop .sub .f32 q b) (fop .sub .f32 r c) (fop .sub .f32 p x) (fop .sub .f32 q y) (fop .sub .f32 r z))])
  | _ => none
theorem s134_at : EnvAt Try.prog 113 s134 := of_auto cfg3_ok (lp_none _) Try.func113 (by kernel_rfl) (by kernel_rfl) fun ds cc rr h hc => by
  unfold s134 at h
  split at h
  · rename_i a b c x y z p q r
    simp only [Option.some.injEq, Prod.mk.injEq] at h
    obtain ⟨rfl, rfl⟩ := h
    refine auto_fit (auto134 a b c x y z p q r) ?_ ?_
    · rfl
    · simp
  · cases h
noncomputable def env4 : List (Nat × (List A → Option (Bool × A))) := (113, s134) :: env3
theorem env4_ok : EnvOK Try.prog (look env4) := (env_cons s134_at env3_ok)
end Go.Fw.E1

/-
  Slices of vectors: copied, compared.
-/
namespace Go.Fw.E1
open Go.Proofs
theorem vec_at {k : FloatKind} {f1 f2 f3 g1 g2 g3 : Nat → Nat} {p : Nat} (h1 : f1 p = g1 p) (h2 : f2 p = g2 p) (h3 : f3 p = g3 p) : (Row.vecs k f1 f2 f3 : Row A).at p = (Row.vecs k g1 g2 g3 : Row A).at p := by
  simp only [Row.at, h1, h2, h3]
def z0 (_ : Nat) : Nat := 0
noncomputable def env5 : List (Nat × (List A → Option (Bool × A))) := env4
theorem env5_ok : EnvOK Try.prog (look env5) := env4_ok
noncomputable def cfg5 : Cfg := mkCfg tab [] xts (look env5)
theorem cfg5_ok : CfgOK Try.prog cfg5 := cfg_ok tab_eq (no_fts _) xts_ok env5_ok mixed
end Go.Fw.E1

/-
  The greatest of some numbers; wires copied, compared.
-/
namespace Go.Fw.E1
open Go.Proofs
theorem auto66 (i : Int) (n : Nat) (x y z : Nat → Nat) : autoLp cfg5 (fun _ => none) Try.f70 [.int .i64 i, .rop (.agg [.ro 3 n (.vecs .f32 x y z)]) 0] =
    some (decide (0 ≤ i) && decide (i < Int.ofNat n) && true, A.flt .f32 (long (x i.toNat) (y i.toNat) (z i.toNat))) := by kernel_rfl
noncomputable def s66 : List A → Option (Bool × A)
  | [.int .i64 i, .rop (.agg [.ro 3 n (.vecs .f32 x y z)]) 0] => some (decide (0 ≤ i) && decide (i < Int.ofNat n), .flt .f32 (long (x i.toNat) (y i.toNat) (z i.toNat)))
  | _ => none
theorem s66_at : EnvAt Try.prog 70 s66 := of_auto cfg5_ok (lp_none _) Try.func70 (by kernel_rfl) (by kernel_rfl) fun ds cc rr h hc => by
  unfold s66 at h
  split at h
  · rename_i i n x y z
    simp only [Option.some.injEq, Prod.mk.injEq] at h
    obtain ⟨rfl, rfl⟩ := h
    refine auto_fit (auto66 i n x y z) ?_ ?_
    · rfl
    · rw [hc]; rfl
  · cases h
def unev (x y z : Nat → Nat) (i : Nat) : Nat := fop .quo .f32 (long (fop .sub .f32 (x i) (x 0)) (fop .sub .f32 (y i) (y 0)) (fop .sub .f32 (z i) (z 0))) (long (x 0) (y 0) (z 0))
theorem auto70 (i : Int) (n : Nat) (x y z : Nat → Nat) : autoLp cfg5 (fun _ => none) Try.f69 [.int .i64 i, .rop (.agg [.ro 3 n (.vecs .f32 x y z)]) 0] =
    some (decide (0 < Int.ofNat n) && (decide (0 < Int.ofNat n) && (decide (0 ≤ i) && decide (i < Int.ofNat n) && true)) && true, A.flt .f32 (fop .quo .f32 (long (fop .sub .f32 (x i.toNat) (x 0)) (fop .sub .f32 (y i.toNat) (y 0)) (fop .sub .f32 (z i.toNat) (z 0))) (long (x 0) (y 0) (z 0)))) := by kernel_rfl
noncomputable def s70 : List A → Option (Bool × A)
  | [.int .i64 i, .rop (.agg [.ro 3 n (.vecs .f32 x y z)]) 0] => some (decide (0 ≤ i) && decide (i < Int.ofNat n) && decide (0 < n), .flt .f32 (unev x y z i.toNat))
  | _ => none
theorem s70_at : EnvAt Try.prog 69 s70 := of_auto cfg5_ok (lp_none _) Try.func69 (by kernel_rfl) (by kernel_rfl) fun ds cc rr h hc => by
  unfold s70 at h
  split at h
  · rename_i i n x y z
    simp only [Option.some.injEq, Prod.mk.injEq] at h
    obtain ⟨rfl, rfl⟩ := h
    refine auto_fit (auto70 i n x y z) ?_ ?_
    · rfl
    · simp only [Bool.and_eq_true, decide_eq_true_eq] at hc; simp; have := hc.1.2; simp at this; omega
  · cases h
noncomputable def env6 : List (Nat × (List A → Option (Bool × A))) := (70, s66) :: (69, s70) :: env5
theorem env6_ok : EnvOK Try.prog (look env6) := (env_cons s66_at (env_cons s70_at env5_ok))
noncomputable def cfg6 : Cfg := mkCfg tab [] xts (look env6)
theorem cfg6_ok : CfgOK Try.prog cfg6 := cfg_ok tab_eq (no_fts _) xts_ok env6_ok mixed
def better (d : Nat) (b : Int) (m : Nat) : Bool := bif forder .f32 d d == some .eq then bif decide (b < 0) then true else forder .f32 d m == some .gt else false
def bst (d : Nat → Nat) (b : Int) (m : Nat) : Nat → Int × Nat
  | 0 => (b, m)
  | k + 1 => bif better (d k) (bst d b m k).1 (bst d b m k).2 then (Int.ofNat k, d k) else bst d b m k
def bstI (d : Nat → Nat) (b : Int) (m k : Nat) : Int := (bst d b m k).1
def bstM (d : Nat → Nat) (b : Int) (m k : Nat) : Nat := (bst d b m k).2
theorem bst_t {d : Nat → Nat} {b : Int} {m k : Nat} (h : better (d k) (bstI d b m k) (bstM d b m k) = true) : bstI d b m (k + 1) = Int.ofNat k ∧ bstM d b m (k + 1) = d k := by
  unfold bstI bstM at *
  simp only [bst, h, cond_true, and_self]
theorem bst_f {d : Nat → Nat} {b : Int} {m k : Nat} (h : better (d k) (bstI d b m k) (bstM d b m k) = false) : bstI d b m (k + 1) = bstI d b m k ∧ bstM d b m (k + 1) = bstM d b m k := by
  unfold bstI bstM at *
  simp only [bst, h, cond_false, and_self]
def longAt (x y z : Nat → Nat) (i : Nat) : Nat := long (x i) (y i) (z i)
noncomputable def I65a (n m m0 : Nat) (b0 : Int) (x y z : Nat → Nat) (k : Nat) : List A := [.int .i64 (Int.ofNat n), .fn 70 [.rop (.agg [.ro 3 m (.vecs .f32 x y z)]) 0], .int .i64 (Int.ofNat n), .int .i64 (Int.ofNat k), .int .i64 (bstI (longAt x y z) b0 m0 k), .flt .f32 (bstM (longAt x y z) b0 m0 k)]
noncomputable def J65a (n m m0 : Nat) (b0 : Int) (x y z : Nat → Nat) (k : Nat) : List O := []
theorem round65a (n m m0 : Nat) (b0 : Int) (x y z : Nat → Nat) (k : Nat) (L : XK → List A → List (Option O) → Prop) :
    ((exec cfg6 (fun _ => true) (fun _ => none) 0 1000 (loopOf Try.f68 0) (litSt Try.f68.ntmps 112 [0, 1, 11, 12, 7, 8] [] (I65a n m m0 b0 x y z k) (J65a n m m0 b0 x y z k))).rt [0, 1, 11, 12, 7, 8] []).Ok L =
    bif decide (Int.ofNat k < Int.ofNat n) then
      bif decide (Int.ofNat k < Int.ofNat m) then
        bif bif forder .f32 (long (x k) (y k) (z k)) (long (x k) (y k) (z k)) == some Ordering.eq then bif decide (bstI (longAt x y z) b0 m0 k < 0) then true else forder .f32 (long (x k) (y k) (z k)) (bstM (longAt x y z) b0 m0 k) == some Ordering.gt else false then
          L (XK.normal) ([A.int .i64 (Int.ofNat n), A.fn 70 [(A.agg [A.ro 3 m (Row.vecs .f32 x y z)]).rop 0], A.int .i64 (Int.ofNat n), A.int .i64 (IntKind.i64.wrap (Int.ofNat k + Int.ofNat 1)), A.int .i64 (Int.ofNat k), A.flt .f32 (long (x k) (y k) (z k))]) ([])
        else
          L (XK.normal) ([A.int .i64 (Int.ofNat n), A.fn 70 [(A.agg [A.ro 3 m (Row.vecs .f32 x y z)]).rop 0], A.int .i64 (Int.ofNat n), A.int .i64 (IntKind.i64.wrap (Int.ofNat k + Int.ofNat 1)), A.int .i64 (bstI (longAt x y z) b0 m0 k), A.flt .f32 (bstM (longAt x y z) b0 m0 k)]) ([])
      else
        False
    else
      L (XK.exit 0) ([A.int .i64 (Int.ofNat n), A.fn 70 [(A.agg [A.ro 3 m (Row.vecs .f32 x y z)]).rop 0], A.int .i64 (Int.ofNat n), A.int .i64 (Int.ofNat k), A.int .i64 (bstI (longAt x y z) b0 m0 k), A.flt .f32 (bstM (longAt x y z) b0 m0 k)]) ([]) := by kernel_rfl
noncomputable def F65a : List A → List (Option O) → Option R3
  | [.int .i64 (.ofNat n), .fn 70 [.rop (.agg [.ro 3 m (.vecs .f32 x y z)]) 0], .int .i64 l, .int .i64 0, .int .i64 b0, .flt .f32 m0], [] => some (.ite (Nat.ble n m && decide (l = Int.ofNat n) && Nat.ble n 4611686018427387000) (.leaf .normal (I65a n m m0 b0 x y z (n)) (J65a n m m0 b0 x y z (n))) .fail)
  | _, _ => none
theorem loop65a : CodeOK Try.prog (fun _ σ => sumAt Try.f68.ntmps 112 [0, 1, 11, 12, 7, 8] [] F65a σ) (.block 0 (.loop (loopOf Try.f68 0))) := by
  refine block_ok (own := fun _ => true) (lp := (fun _ => none)) (un := 0) (fuel := 1000) cfg6_ok (lp_none _) fun az os R hF hok => ?_
  unfold F65a at hF
  split at hF
  · rename_i n m x y z l b0 m0
    injection hF with hF
    subst hF
    have hg := hok.guard
    have hg' := hg
    simp only [Bool.and_eq_true, Nat.ble_eq, Nat.beq_eq, decide_eq_true_eq] at hg'
    obtain ⟨⟨hnm, rfl⟩, hn⟩ := hg'
    refine for_fact (ids := []) (fun _ => true) (n) (I65a n m m0 b0 x y z) (J65a n m m0 b0 x y z) _ (.ret) (I65a n m m0 b0 x y z) (I65a n m m0 b0 x y z) (I65a n m m0 b0 x y z (n)) (J65a n m m0 b0 x y z (n)) rfl (OSims.self _) (fun _ => rfl) (fun _ => rfl) (fun _ => ALe.self _) (fun _ => rfl) (ALe.self _) (OSims.self _) rfl (fun h => by cases h) (fun k hk L h1 h2 h3 => ?_) fun L hL => ?_
    · rw [round65a]
      by_cases hkm : k < n
      · refine condT (lt_dec hkm) ?_
        rw [wrap_succ (by omega)]
        refine condT (lt_dec (by omega)) ?_
        show cond (better (longAt x y z k) (bstI (longAt x y z) b0 m0 k) (bstM (longAt x y z) b0 m0 k)) _ _
        have h := h1 hkm rfl [] trivial
        cases hs : better (longAt x y z k) (bstI (longAt x y z) b0 m0 k) (bstM (longAt x y z) b0 m0 k)
        · simp only [I65a, (bst_f hs).1, (bst_f hs).2] at h; exact h
        · simp only [I65a, (bst_t hs).1, (bst_t hs).2] at h; exact h
      · refine condE (ge_dec (by omega)) ?_
        obtain rfl : k = n := by omega
        exact h3 rfl
    · exact ⟨fun _ => hL.1 hg, fun N _ h => by cases h⟩
  · cases hF
noncomputable def I65b (n m m0 : Nat) (b0 : Int) (x y z : Nat → Nat) (k : Nat) : List A := [.int .i64 (Int.ofNat n), .fn 69 [.rop (.agg [.ro 3 m (.vecs .f32 x y z)]) 0], .int .i64 (Int.ofNat n), .int .i64 (Int.ofNat k), .int .i64 (bstI (unev x y z) b0 m0 k), .flt .f32 (bstM (unev x y z) b0 m0 k)]
noncomputable def J65b (n m m0 : Nat) (b0 : Int) (x y z : Nat → Nat) (k : Nat) : List O := []
theorem round65b (n m m0 : Nat) (b0 : Int) (x y z : Nat → Nat) (k : Nat) (L : XK → List A → List (Option O) → Prop) :
    ((exec cfg6 (fun _ => true) (fun _ => none) 0 1000 (loopOf Try.f68 0) (litSt Try.f68.ntmps 112 [0, 1, 11, 12, 7, 8] [] (I65b n m m0 b0 x y z k) (J65b n m m0 b0 x y z k))).rt [0, 1, 11, 12, 7, 8] []).Ok L =
    bif decide (Int.ofNat k < Int.ofNat n) then
      bif decide (Int.ofNat k < Int.ofNat m) && decide (0 < m) then
        bif bif forder .f32 (unev x y z k) (unev x y z k) == some Ordering.eq then bif decide (bstI (unev x y z) b0 m0 k < 0) then true else forder .f32 (unev x y z k) (bstM (unev x y z) b0 m0 k) == some Ordering.gt else false then
          L (XK.normal) ([A.int .i64 (Int.ofNat n), A.fn 69 [(A.agg [A.ro 3 m (Row.vecs .f32 x y z)]).rop 0], A.int .i64 (Int.ofNat n), A.int .i64 (IntKind.i64.wrap (Int.ofNat k + Int.ofNat 1)), A.int .i64 (Int.ofNat k), A.flt .f32 (unev x y z k)]) ([])
        else
          L (XK.normal) ([A.int .i64 (Int.ofNat n), A.fn 69 [(A.agg [A.ro 3 m (Row.vecs .f32 x y z)]).rop 0], A.int .i64 (Int.ofNat n), A.int .i64 (IntKind.i64.wrap (Int.ofNat k + Int.ofNat 1)), A.int .i64 (bstI (unev x y z) b0 m0 k), A.flt .f32 (bstM (unev x y z) b0 m0 k)]) ([])
      else
        False
    else
      L (XK.exit 0) ([A.int .i64 (Int.ofNat n), A.fn 69 [(A.agg [A.ro 3 m (Row.vecs .f32 x y z)]).rop 0], A.int .i64 (Int.ofNat n), A.int .i64 (Int.ofNat k), A.int .i64 (bstI (unev x y z) b0 m0 k), A.flt .f32 (bstM (unev x y z) b0 m0 k)]) ([]) := by kernel_rfl
noncomputable def F65b : List A → List (Option O) → Option R3
  | [.int .i64 (.ofNat n), .fn 69 [.rop (.agg [.ro 3 m (.vecs .f32 x y z)]) 0], .int .i64 l, .int .i64 0, .int .i64 b0, .flt .f32 m0], [] => some (.ite (Nat.ble n m && decide (l = Int.ofNat n) && Nat.ble n 4611686018427387000) (.leaf .normal (I65b n m m0 b0 x y z (n)) (J65b n m m0 b0 x y z (n))) .fail)
  | _, _ => none
theorem loop65b : CodeOK Try.prog (fun _ σ => sumAt Try.f68.ntmps 112 [0, 1, 11, 12, 7, 8] [] F65b σ) (.block 0 (.loop (loopOf Try.f68 0))) := by
  refine block_ok (own := fun _ => true) (lp := (fun _ => none)) (un := 0) (fuel := 1000) cfg6_ok (lp_none _) fun az os R hF hok => ?_
  unfold F65b at hF
  split at hF
  · rename_i n m x y z l b0 m0
    injection hF with hF
    subst hF
    have hg := hok.guard
    have hg' := hg
    simp only [Bool.and_eq_true, Nat.ble_eq, Nat.beq_eq, decide_eq_true_eq] at hg'
    obtain ⟨⟨hnm, rfl⟩, hn⟩ := hg'
    refine for_fact (ids := []) (fun _ => true) (n) (I65b n m m0 b0 x y z) (J65b n m m0 b0 x y z) _ (.ret) (I65b n m m0 b0 x y z) (I65b n m m0 b0 x y z) (I65b n m m0 b0 x y z (n)) (J65b n m m0 b0 x y z (n)) rfl (OSims.self _) (fun _ => rfl) (fun _ => rfl) (fun _ => ALe.self _) (fun _ => rfl) (ALe.self _) (OSims.self _) rfl (fun h => by cases h) (fun k hk L h1 h2 h3 => ?_) fun L hL => ?_
    · rw [round65b]
      by_cases hkm : k < n
      · refine condT (lt_dec hkm) ?_
        rw [wrap_succ (by omega)]
        refine condT (by simp; omega) ?_
        show cond (better (unev x y z k) (bstI (unev x y z) b0 m0 k) (bstM (unev x y z) b0 m0 k)) _ _
        have h := h1 hkm rfl [] trivial
        cases hs : better (unev x y z k) (bstI (unev x y z) b0 m0 k) (bstM (unev x y z) b0 m0 k)
        · simp only [I65b, (bst_f hs).1, (bst_f hs).2] at h; exact h
        · simp only [I65b, (bst_t hs).1, (bst_t hs).2] at h; exact h
      · refine condE (ge_dec (by omega)) ?_
        obtain rfl : k = n := by omega
        exact h3 rfl
    · exact ⟨fun _ => hL.1 hg, fun N _ h => by cases h⟩
  · cases hF
def bNo (d : Nat → Nat) (n : Nat) : Bool := bif decide (bstI d (Int.negSucc 0) (can .f32 0) n < 0) then true else !fin (bstM d (Int.negSucc 0) (can .f32 0) n)
noncomputable def lp65a : List (Nat × (St → T)) := [(0, sumAt Try.f68.ntmps 112 [0, 1, 11, 12, 7, 8] [] F65a)]
theorem lp65a_ok : LpOK Try.prog (look lp65a) (bodyOf Try.f68) := lp_loops (by kernel_rfl) (by kernel_rfl) fun p hp => by
  simp only [lp65a, List.mem_cons, List.not_mem_nil, or_false] at hp
  rcases hp with rfl
  · exact loop65a
theorem auto65a (n m : Nat) (x y z : Nat → Nat) : autoLp cfg6 (look lp65a) Try.f68 [.int .i64 (.ofNat n), .fn 70 [.rop (.agg [.ro 3 m (.vecs .f32 x y z)]) 0]] =
    some (n.ble m && decide (Int.ofNat n = Int.ofNat n) && n.ble 4611686018427387000 && bif bif decide (bstI (longAt x y z) (-1) (can .f32 0) n < 0) then true else !fin (bstM (longAt x y z) (Int.negSucc 0) (can .f32 0) n) then true else true, A.tup [A.int .i64 (bif bif decide (bstI (longAt x y z) (-1) (can .f32 0) n < 0) then true else !fin (bstM (longAt x y z) (Int.negSucc 0) (can .f32 0) n) then Int.ofNat 0 else bstI (longAt x y z) (Int.negSucc 0) (can .f32 0) n), A.flt .f32 (bif bif decide (bstI (longAt x y z) (-1) (can .f32 0) n < 0) then true else !fin (bstM (longAt x y z) (Int.negSucc 0) (can .f32 0) n) then can .f32 0 else bstM (longAt x y z) (Int.negSucc 0) (can .f32 0) n), A.bool (bif bif decide (bstI (longAt x y z) (-1) (can .f32 0) n < 0) then true else !fin (bstM (longAt x y z) (Int.negSucc 0) (can .f32 0) n) then false else true)]) := by kernel_rfl
noncomputable def s65a : List A → Option (Bool × A)
  | [.int .i64 (.ofNat n), .fn 70 [.rop (.agg [.ro 3 m (.vecs .f32 x y z)]) 0]] => some (Nat.ble n m && Nat.ble n 4611686018427387000, .tup [.int .i64 (bif bNo (longAt x y z) n then 0 else bstI (longAt x y z) (Int.negSucc 0) (can .f32 0) n), .flt .f32 (bif bNo (longAt x y z) n then can .f32 0 else bstM (longAt x y z) (Int.negSucc 0) (can .f32 0) n), .bool (!bNo (longAt x y z) n)])
  | _ => none
theorem s65a_at : EnvAt Try.prog 68 s65a := of_auto cfg6_ok lp65a_ok Try.func68 (by kernel_rfl) (by kernel_rfl) fun ds cc rr h hc => by
  unfold s65a at h
  split at h
  · rename_i n m x y z
    simp only [Option.some.injEq, Prod.mk.injEq] at h
    obtain ⟨rfl, rfl⟩ := h
    refine auto_fit (auto65a n m x y z) ?_ ?_
    · show A.tup [.int .i64 (bif bNo (longAt x y z) n then Int.ofNat 0 else bstI (longAt x y z) (Int.negSucc 0) (can .f32 0) n), .flt .f32 (bif bNo (longAt x y z) n then can .f32 0 else bstM (longAt x y z) (Int.negSucc 0) (can .f32 0) n), .bool (bif bNo (longAt x y z) n then false else true)] = _
      cases bNo (longAt x y z) n <;> rfl
    · simp only [Bool.and_eq_true] at hc
      rw [hc.1, hc.2, Bool.cond_self, decide_eq_true rfl]; rfl
  · cases h
noncomputable def lp65b : List (Nat × (St → T)) := [(0, sumAt Try.f68.ntmps 112 [0, 1, 11, 12, 7, 8] [] F65b)]
theorem lp65b_ok : LpOK Try.prog (look lp65b) (bodyOf Try.f68) := lp_loops (by kernel_rfl) (by kernel_rfl) fun p hp => by
  simp only [lp65b, List.mem_cons, List.not_mem_nil, or_false] at hp
  rcases hp with rfl
  · exact loop65b
theorem auto65b (n m : Nat) (x y z : Nat → Nat) : autoLp cfg6 (look lp65b) Try.f68 [.int .i64 (.ofNat n), .fn 69 [.rop (.agg [.ro 3 m (.vecs .f32 x y z)]) 0]] =
    some (n.ble m && decide (Int.ofNat n = Int.ofNat n) && n.ble 4611686018427387000 && bif bif decide (bstI (unev x y z) (-1) (can .f32 0) n < 0) then true else !fin (bstM (unev x y z) (Int.negSucc 0) (can .f32 0) n) then true else true, A.tup [A.int .i64 (bif bif decide (bstI (unev x y z) (-1) (can .f32 0) n < 0) then true else !fin (bstM (unev x y z) (Int.negSucc 0) (can .f32 0) n) then Int.ofNat 0 else bstI (unev x y z) (Int.negSucc 0) (can .f32 0) n), A.flt .f32 (bif bif decide (bstI (unev x y z) (-1) (can .f32 0) n < 0) then true else !fin (bstM (unev x y z) (Int.negSucc 0) (can .f32 0) n) then can .f32 0 else bstM (unev x y z) (Int.negSucc 0) (can .f32 0) n), A.bool (bif bif decide (bstI (unev x y z) (-1) (can .f32 0) n < 0) then true else !fin (bstM (unev x y z) (Int.negSucc 0) (can .f32 0) n) then false else true)]) := by kernel_rfl
noncomputable def s65b : List A → Option (Bool × A)
  | [.int .i64 (.ofNat n), .fn 69 [.rop (.agg [.ro 3 m (.vecs .f32 x y z)]) 0]] => some (Nat.ble n m && Nat.ble n 4611686018427387000, .tup [.int .i64 (bif bNo (unev x y z) n then 0 else bstI (unev x y z) (Int.negSucc 0) (can .f32 0) n), .flt .f32 (bif bNo (unev x y z) n then can .f32 0 else bstM (unev x y z) (Int.negSucc 0) (can .f32 0) n), .bool (!bNo (unev x y z) n)])
  | _ => none
theorem s65b_at : EnvAt Try.prog 68 s65b := of_auto cfg6_ok lp65b_ok Try.func68 (by kernel_rfl) (by kernel_rfl) fun ds cc rr h hc => by
  unfold s65b at h
  split at h
  · rename_i n m x y z
    simp only [Option.some.injEq, Prod.mk.injEq] at h
    obtain ⟨rfl, rfl⟩ := h
    refine auto_fit (auto65b n m x y z) ?_ ?_
    · show A.tup [.int .i64 (bif bNo (unev x y z) n then Int.ofNat 0 else bstI (unev x y z) (Int.negSucc 0) (can .f32 0) n), .flt .f32 (bif bNo (unev x y z) n then can .f32 0 else bstM (unev x y z) (Int.negSucc 0) (can .f32 0) n), .bool (bif bNo (unev x y z) n then false else true)] = _
      cases bNo (unev x y z) n <;> rfl
    · simp only [Bool.and_eq_true] at hc
      rw [hc.1, hc.2, Bool.cond_self, decide_eq_true rfl]; rfl
  · cases h
noncomputable def s65 : List A → Option (Bool × A)
  | [.int .i64 (.ofNat n), .fn 70 [.rop (.agg [.ro 3 m (.vecs .f32 x y z)]) 0]] => s65a [.int .i64 (.ofNat n), .fn 70 [.rop (.agg [.ro 3 m (.vecs .f32 x y z)]) 0]]
  | ds => s65b ds
theorem s65_at : EnvAt Try.prog 68 s65 := by
  refine ⟨s65a_at.1, fun ds c r h hc => ?_⟩
  unfold s65 at h
  split at h
  · exact s65a_at.2 _ _ _ h hc
  · exact s65b_at.2 _ _ _ h hc
noncomputable def env7 : List (Nat × (List A → Option (Bool × A))) := (68, s65) :: env6
theorem env7_ok : EnvOK Try.prog (look env7) := (env_cons s65_at env6_ok)
noncomputable def cfg7 : Cfg := mkCfg tab [] xts (look env7)
theorem cfg7_ok : CfgOK Try.prog cfg7 := cfg_ok tab_eq (no_fts _) xts_ok env7_ok mixed
theorem auto20 (n : Nat) (x y z : Nat → Nat) : autoLp cfg7 (fun _ => none) Try.f17 [.ro 3 n (.vecs .f32 x y z)] =
    some (bif !inI (Int.ofNat n) (Int.ofNat 1) (Int.ofNat 48) then true else n.ble n && n.ble 4611686018427387000 && true, A.tup [A.int .i64 (bif !inI (Int.ofNat n) (Int.ofNat 1) (Int.ofNat 48) then Int.ofNat 0 else bif bNo (longAt x y z) n then Int.ofNat 0 else bstI (longAt x y z) (Int.negSucc 0) (can .f32 0) n), A.flt .f32 (bif !inI (Int.ofNat n) (Int.ofNat 1) (Int.ofNat 48) then can .f32 0 else bif bNo (longAt x y z) n then can .f32 0 else bstM (longAt x y z) (Int.negSucc 0) (can .f32 0) n), A.bool (bif !inI (Int.ofNat n) (Int.ofNat 1) (Int.ofNat 48) then false else !bNo (longAt x y z) n)]) := by kernel_rfl
noncomputable def s20 : List A → Option (Bool × A)
  | [.ro 3 n (.vecs .f32 x y z)] => some (Nat.ble n 4611686018427387000, .tup [.int .i64 (bif bif !inI (Int.ofNat n) 1 48 then true else bNo (longAt x y z) n then 0 else bstI (longAt x y z) (Int.negSucc 0) (can .f32 0) n), .flt .f32 (bif bif !inI (Int.ofNat n) 1 48 then true else bNo (longAt x y z) n then can .f32 0 else bstM (longAt x y z) (Int.negSucc 0) (can .f32 0) n), .bool (!bif !inI (Int.ofNat n) 1 48 then true else bNo (longAt x y z) n)])
  | _ => none
theorem s20_at : EnvAt Try.prog 17 s20 := of_auto cfg7_ok (lp_none _) Try.func17 (by kernel_rfl) (by kernel_rfl) fun ds cc rr h hc => by
  unfold s20 at h
  split at h
  · rename_i n x y z
    simp only [Option.some.injEq, Prod.mk.injEq] at h
    obtain ⟨rfl, rfl⟩ := h
    refine auto_fit (auto20 n x y z) ?_ ?_
    · show A.tup [.int .i64 (bif !inI (Int.ofNat n) 1 48 then Int.ofNat 0 else bif bNo (longAt x y z) n then 0 else bstI (longAt x y z) (Int.negSucc 0) (can .f32 0) n), .flt .f32 (bif !inI (Int.ofNat n) 1 48 then can .f32 0 else bif bNo (longAt x y z) n then can .f32 0 else bstM (longAt x y z) (Int.negSucc 0) (can .f32 0) n), .bool (bif !inI (Int.ofNat n) 1 48 then false else !bNo (longAt x y z) n)] = _
      cases inI (Int.ofNat n) 1 48 <;> cases bNo (longAt x y z) n <;> rfl
    · simp [hc]
  · cases h
theorem auto24 (n : Nat) (x y z : Nat → Nat) : autoLp cfg7 (fun _ => none) Try.f16 [.ro 3 n (.vecs .f32 x y z)] =
    some (bif !inI (Int.ofNat n) (Int.ofNat 1) (Int.ofNat 48) then true else n.ble n && n.ble 4611686018427387000 && true, A.tup [A.flt .f32 (bif !inI (Int.ofNat n) (Int.ofNat 1) (Int.ofNat 48) then can .f32 0 else bif bNo (unev x y z) n then can .f32 0 else bstM (unev x y z) (Int.negSucc 0) (can .f32 0) n), A.bool (bif !inI (Int.ofNat n) (Int.ofNat 1) (Int.ofNat 48) then false else !bNo (unev x y z) n)]) := by kernel_rfl
noncomputable def s24 : List A → Option (Bool × A)
  | [.ro 3 n (.vecs .f32 x y z)] => some (Nat.ble n 4611686018427387000, .tup [.flt .f32 (bif bif !inI (Int.ofNat n) 1 48 then true else bNo (unev x y z) n then can .f32 0 else bstM (unev x y z) (Int.negSucc 0) (can .f32 0) n), .bool (!bif !inI (Int.ofNat n) 1 48 then true else bNo (unev x y z) n)])
  | _ => none
theorem s24_at : EnvAt Try.prog 16 s24 := of_auto cfg7_ok (lp_none _) Try.func16 (by kernel_rfl) (by kernel_rfl) fun ds cc rr h hc => by
  unfold s24 at h
  split at h
  · rename_i n x y z
    simp only [Option.some.injEq, Prod.mk.injEq] at h
    obtain ⟨rfl, rfl⟩ := h
    refine auto_fit (auto24 n x y z) ?_ ?_
    · show A.tup [.flt .f32 (bif !inI (Int.ofNat n) 1 48 then can .f32 0 else bif bNo (unev x y z) n then can .f32 0 else bstM (unev x y z) (Int.negSucc 0) (can .f32 0) n), .bool (bif !inI (Int.ofNat n) 1 48 then false else !bNo (unev x y z) n)] = _
      cases inI (Int.ofNat n) 1 48 <;> cases bNo (unev x y z) n <;> rfl
    · simp [hc]
  · cases h
noncomputable def env8 : List (Nat × (List A → Option (Bool × A))) := (17, s20) :: (16, s24) :: env7
theorem env8_ok : EnvOK Try.prog (look env8) := (env_cons s20_at (env_cons s24_at env7_ok))
noncomputable def cfg8 : Cfg := mkCfg tab [] xts (look env8)
theorem cfg8_ok : CfgOK Try.prog cfg8 := cfg_ok tab_eq (no_fts _) xts_ok env8_ok mixed
end Go.Fw.E1

/-
  Wires that are valid; their segments.
-/
namespace Go.Fw.E1
open Go.Proofs
def vfinAt (x y z : Nat → Nat) (i : Nat) : Bool := vfin (x i) (y i) (z i)
theorem auto145 (a b c : Nat) : autoLp cfg8 (fun _ => none) Try.f116 [.agg [.flt .f32 a, .flt .f32 b, .flt .f32 c]] =
    some (true, A.bool !vfin a b c) := by kernel_rfl
noncomputable def s145 : List A → Option (Bool × A)
  | [.agg [.flt .f32 a, .flt .f32 b, .flt .f32 c]] => some (true, .bool (!vfin a b c))
  | _ => none
theorem s145_at : EnvAt Try.prog 116 s145 := of_auto cfg8_ok (lp_none _) Try.func116 (by kernel_rfl) (by kernel_rfl) fun ds cc rr h hc => by
  unfold s145 at h
  split at h
  · rename_i a b c
    simp only [Option.some.injEq, Prod.mk.injEq] at h
    obtain ⟨rfl, rfl⟩ := h
    refine auto_fit (auto145 a b c) ?_ ?_
    · rfl
    · rfl
  · cases h
noncomputable def env9 : List (Nat × (List A → Option (Bool × A))) := (116, s145) :: env8
theorem env9_ok : EnvOK Try.prog (look env9) := (env_cons s145_at env8_ok)
noncomputable def cfg9 : Cfg := mkCfg tab [] xts (look env9)
theorem cfg9_ok : CfgOK Try.prog cfg9 := cfg_ok tab_eq (no_fts _) xts_ok env9_ok mixed
noncomputable def I151 (n : Nat) (x y z : Nat → Nat) (k : Nat) : List A := [.ro 3 n (.vecs .f32 x y z), .fn 116 [], .int .i64 (Int.ofNat 0), .int .i64 (Int.ofNat n), .int .i64 (Int.ofNat k)]
noncomputable def J151 (n : Nat) (x y z : Nat → Nat) (k : Nat) : List O := []
theorem round151 (n : Nat) (x y z : Nat → Nat) (k : Nat) (L : XK → List A → List (Option O) → Prop) :
    ((exec cfg9 (fun _ => true) (fun _ => none) 0 1000 (loopOf Try.f125 0) (litSt Try.f125.ntmps 64 [0, 1, 4, 7, 8] [] (I151 n x y z k) (J151 n x y z k))).rt [0, 1, 4, 7, 8] []).Ok L =
    bif decide (Int.ofNat k < Int.ofNat n) then
      bif decide (Int.ofNat k < Int.ofNat n) then
        bif !vfin (x k) (y k) (z k) then
          L (XK.ret) ([A.ro 3 n (Row.vecs .f32 x y z), A.fn 116 [], A.int .i64 (Int.ofNat k), A.int .i64 (Int.ofNat n), A.int .i64 (Int.ofNat k)]) ([])
        else
          L (XK.normal) ([A.ro 3 n (Row.vecs .f32 x y z), A.fn 116 [], A.int .i64 (Int.ofNat 0), A.int .i64 (Int.ofNat n), A.int .i64 (IntKind.i64.wrap (Int.ofNat k + Int.ofNat 1))]) ([])
      else
        False
    else
      L (XK.exit 0) ([A.ro 3 n (Row.vecs .f32 x y z), A.fn 116 [], A.int .i64 (Int.ofNat 0), A.int .i64 (Int.ofNat n), A.int .i64 (Int.ofNat k)]) ([]) := by kernel_rfl
noncomputable def F151 : List A → List (Option O) → Option R3
  | [.ro 3 n (.vecs .f32 x y z), .fn 116 [], .int .i64 0, .int .i64 l, .int .i64 0], [] => some (.ite (decide (l = Int.ofNat n) && Nat.ble n 4611686018427387000) (.ite (allUpTo (vfinAt x y z) (n)) (.leaf .normal (I151 n x y z (n)) (J151 n x y z (n))) (.leaf (.ret) ((fun k => [A.ro 3 n (Row.vecs .f32 x y z), A.fn 116 [], A.int .i64 (Int.ofNat k), A.int .i64 (Int.ofNat n), A.int .i64 (Int.ofNat k)]) (firstIdx (vfinAt x y z) (n))) (J151 n x y z (firstIdx (vfinAt x y z) (n))))) .fail)
  | _, _ => none
theorem loop151 : CodeOK Try.prog (fun _ σ => sumAt Try.f125.ntmps 64 [0, 1, 4, 7, 8] [] F151 σ) (.block 0 (.loop (loopOf Try.f125 0))) := by
  refine block_ok (own := fun _ => true) (lp := (fun _ => none)) (un := 0) (fuel := 1000) cfg9_ok (lp_none _) fun az os R hF hok => ?_
  unfold F151 at hF
  split at hF
  · rename_i n x y z l
    injection hF with hF
    subst hF
    have hg := hok.guard
    have hg' := hg
    simp only [Bool.and_eq_true, Nat.ble_eq, Nat.beq_eq, decide_eq_true_eq] at hg'
    obtain ⟨rfl, hn⟩ := hg'
    refine for_fact (ids := []) (vfinAt x y z) (n) (I151 n x y z) (J151 n x y z) _ (.ret) (fun k => [A.ro 3 n (Row.vecs .f32 x y z), A.fn 116 [], A.int .i64 (Int.ofNat k), A.int .i64 (Int.ofNat n), A.int .i64 (Int.ofNat k)]) (fun k => [A.ro 3 n (Row.vecs .f32 x y z), A.fn 116 [], A.int .i64 (Int.ofNat k), A.int .i64 (Int.ofNat n), A.int .i64 (Int.ofNat k)]) (I151 n x y z (n)) (J151 n x y z (n)) rfl (OSims.self _) (fun _ => rfl) (fun _ => rfl) (fun _ => ALe.self _) (fun _ => rfl) (ALe.self _) (OSims.self _) rfl (fun h => by cases h) (fun k hk L h1 h2 h3 => ?_) fun L hL => ?_
    · rw [round151]
      by_cases hkm : k < n
      · refine condT (lt_dec hkm) ?_
        rw [wrap_succ (by omega)]
        refine condT (lt_dec hkm) ?_
        show cond (!(vfinAt x y z k)) _ _
        cases hs : vfinAt x y z k
        · exact h2 hkm hs
        · exact h1 hkm hs _ trivial
      · refine condE (ge_dec (by omega)) ?_
        obtain rfl : k = n := by omega
        exact h3 rfl
    · exact ⟨fun h => (hL.1 hg).1 h, fun N hN hf hall => by
        have := (hL.1 hg).2 (allUpTo_false hN hf)
        rw [firstIdx_eq hN hf hall] at this
        exact this⟩
  · cases hF
noncomputable def idx (f : Nat → Bool) (n : Nat) : Int := bif allUpTo f n then Int.negSucc 0 else Int.ofNat (firstIdx f n)
theorem idx_ge (f : Nat → Bool) (n : Nat) : decide (idx f n ≥ 0) = !allUpTo f n := by
  unfold idx
  cases allUpTo f n
  · simp
  · rfl
noncomputable def lp151 : List (Nat × (St → T)) := [(0, sumAt Try.f125.ntmps 64 [0, 1, 4, 7, 8] [] F151)]
theorem lp151_ok : LpOK Try.prog (look lp151) (bodyOf Try.f125) := lp_loops (by kernel_rfl) (by kernel_rfl) fun p hp => by
  simp only [lp151, List.mem_cons, List.not_mem_nil, or_false] at hp
  rcases hp with rfl
  · exact loop151
theorem auto151 (n : Nat) (x y z : Nat → Nat) : autoLp cfg9 (look lp151) Try.f125 [.ro 3 n (.vecs .f32 x y z), .fn 116 []] =
    some (decide (Int.ofNat n = Int.ofNat n) && n.ble 4611686018427387000 && bif allUpTo (vfinAt x y z) n then true else true, A.int .i64 (bif allUpTo (vfinAt x y z) n then Int.negSucc 0 else Int.ofNat (Fw.firstIdx (vfinAt x y z) n))) := by kernel_rfl
noncomputable def s151 : List A → Option (Bool × A)
  | [.ro 3 n (.vecs .f32 x y z), .fn 116 []] => some (Nat.ble n 4611686018427387000, .int .i64 (idx (vfinAt x y z) n))
  | _ => none
theorem s151_at : EnvAt Try.prog 125 s151 := of_auto cfg9_ok lp151_ok Try.func125 (by kernel_rfl) (by kernel_rfl) fun ds cc rr h hc => by
  unfold s151 at h
  split at h
  · rename_i n x y z
    simp only [Option.some.injEq, Prod.mk.injEq] at h
    obtain ⟨rfl, rfl⟩ := h
    refine auto_fit (auto151 n x y z) ?_ ?_
    · rfl
    · rw [hc]; simp
  · cases h
noncomputable def env10 : List (Nat × (List A → Option (Bool × A))) := (125, s151) :: env9
theorem env10_ok : EnvOK Try.prog (look env10) := (env_cons s151_at env9_ok)
noncomputable def cfg10 : Cfg := mkCfg tab [] xts (look env10)
theorem cfg10_ok : CfgOK Try.prog cfg10 := cfg_ok tab_eq (no_fts _) xts_ok env10_ok mixed
theorem auto144 (n : Nat) (x y z : Nat → Nat) : autoLp cfg10 (fun _ => none) Try.f115 [.ro 3 n (.vecs .f32 x y z), .fn 116 []] =
    some (n.ble 4611686018427387000 && true, A.bool (decide (idx (vfinAt x y z) n ≥ 0))) := by kernel_rfl
noncomputable def s144 : List A → Option (Bool × A)
  | [.ro 3 n (.vecs .f32 x y z), .fn 116 []] => some (Nat.ble n 4611686018427387000, .bool (!allUpTo (vfinAt x y z) n))
  | _ => none
theorem s144_at : EnvAt Try.prog 115 s144 := of_auto cfg10_ok (lp_none _) Try.func115 (by kernel_rfl) (by kernel_rfl) fun ds cc rr h hc => by
  unfold s144 at h
  split at h
  · rename_i n x y z
    simp only [Option.some.injEq, Prod.mk.injEq] at h
    obtain ⟨rfl, rfl⟩ := h
    refine auto_fit (auto144 n x y z) ?_ ?_
    · rw [← idx_ge]
    · simpa using hc
  · cases h
noncomputable def env11 : List (Nat × (List A → Option (Bool × A))) := (115, s144) :: env10
theorem env11_ok : EnvOK Try.prog (look env11) := (env_cons s144_at env10_ok)
noncomputable def cfg11 : Cfg := mkCfg tab [] xts (look env11)
theorem cfg11_ok : CfgOK Try.prog cfg11 := cfg_ok tab_eq (no_fts _) xts_ok env11_ok mixed
theorem auto130 (n : Nat) (x y z : Nat → Nat) : autoLp cfg11 (fun _ => none) Try.f99 [.ro 3 n (.vecs .f32 x y z)] =
    some (n.ble 4611686018427387000 && true, A.bool !!allUpTo (vfinAt x y z) n) := by kernel_rfl
noncomputable def s130 : List A → Option (Bool × A)
  | [.ro 3 n (.vecs .f32 x y z)] => some (Nat.ble n 4611686018427387000, .bool (allUpTo (vfinAt x y z) n))
  | _ => none
theorem s130_at : EnvAt Try.prog 99 s130 := of_auto cfg11_ok (lp_none _) Try.func99 (by kernel_rfl) (by kernel_rfl) fun ds cc rr h hc => by
  unfold s130 at h
  split at h
  · rename_i n x y z
    simp only [Option.some.injEq, Prod.mk.injEq] at h
    obtain ⟨rfl, rfl⟩ := h
    refine auto_fit (auto130 n x y z) ?_ ?_
    · simp
    · simpa using hc
  · cases h
noncomputable def env12 : List (Nat × (List A → Option (Bool × A))) := (99, s130) :: env11
theorem env12_ok : EnvOK Try.prog (look env12) := (env_cons s130_at env11_ok)
noncomputable def cfg12 : Cfg := mkCfg tab [] xts (look env12)
theorem cfg12_ok : CfgOK Try.prog cfg12 := cfg_ok tab_eq (no_fts _) xts_ok env12_ok mixed
noncomputable def okW (n cur : Nat) (x y z : Nat → Nat) : Bool := decide (2 ≤ n ∧ n ≤ 48) && fin cur && allUpTo (vfinAt x y z) n
theorem okW_n {n cur : Nat} {x y z : Nat → Nat} (h : okW n cur x y z = true) : 2 ≤ n ∧ n ≤ 48 := by
  unfold okW at h
  simp only [Bool.and_eq_true, decide_eq_true_eq] at h
  exact h.1.1
theorem okW_impl (n cur : Nat) (x y z : Nat → Nat) : (bif bif bif decide (Int.ofNat n ≥ 2) then decide (Int.ofNat n ≤ 48) else false then allUpTo (vfinAt x y z) n else false then fin cur else false) = okW n cur x y z := by
  unfold okW
  by_cases h1 : n < 2
  · rw [decide_eq_false (p := Int.ofNat n ≥ 2) (by simp; omega), decide_eq_false (p := 2 ≤ n ∧ n ≤ 48) (by omega)]; rfl
  · by_cases h2 : n > 48
    · rw [decide_eq_true (p := Int.ofNat n ≥ 2) (by simp; omega), decide_eq_false (p := Int.ofNat n ≤ 48) (by simp; omega), decide_eq_false (p := 2 ≤ n ∧ n ≤ 48) (by omega)]; rfl
    · rw [decide_eq_true (p := Int.ofNat n ≥ 2) (by simp; omega), decide_eq_true (p := Int.ofNat n ≤ 48) (by simp; omega), decide_eq_true (p := 2 ≤ n ∧ n ≤ 48) (by omega)]
      cases fin cur <;> cases allUpTo (vfinAt x y z) n <;> rfl
theorem auto89 (n cur : Nat) (x y z : Nat → Nat) (cl : Bool) : autoLp cfg12 (fun _ => none) Try.f49 [.agg [.ro 3 n (.vecs .f32 x y z), .bool cl, .flt .f32 cur]] =
    some ((n.ble 4611686018427387000 || !(bif decide (Int.ofNat n ≥ 2) then decide (Int.ofNat n ≤ 48) else false) == true) && true, A.bool (bif bif bif decide (Int.ofNat n ≥ 2) then decide (Int.ofNat n ≤ 48) else false then allUpTo (vfinAt x y z) n else false then fin cur else false)) := by kernel_rfl
noncomputable def s89 : List A → Option (Bool × A)
  | [.agg [.ro 3 n (.vecs .f32 x y z), .bool cl, .flt .f32 cur]] => some (Nat.ble n 4611686018427387000, .bool (okW n cur x y z))
  | _ => none
theorem s89_at : EnvAt Try.prog 49 s89 := of_auto cfg12_ok (lp_none _) Try.func49 (by kernel_rfl) (by kernel_rfl) fun ds cc rr h hc => by
  unfold s89 at h
  split at h
  · rename_i n x y z cl cur
    simp only [Option.some.injEq, Prod.mk.injEq] at h
    obtain ⟨rfl, rfl⟩ := h
    refine auto_fit (auto89 n cur x y z cl) ?_ ?_
    · rw [← okW_impl]
    · rw [hc]; rfl
  · cases h
def cnt (n : Nat) (cl : Bool) : Nat := bif cl then n else n - 1
def nx (n j : Nat) : Nat := (j + 1) % n
end Go.Fw.E1

/-
  The segments of a wire.
-/
namespace Go.Fw.E1
open Go.Proofs
def sg (n : Nat) (x y z : Nat → Nat) (j c : Nat) : Nat :=
  match c with
  | 0 => x j | 1 => y j | 2 => z j | 3 => x (nx n j) | 4 => y (nx n j) | _ => z (nx n j)
theorem flns_at {k : FloatKind} {f g : Nat → Nat → Nat} {p : Nat} (h : ∀ c, c < 6 → f p c = g p c) : (Row.flns k 6 f : Row A).at p = (Row.flns k 6 g : Row A).at p := by
  simp only [Row.at]
  congr 1
  apply List.map_congr_left
  intro c hc
  rw [h c (by simpa using hc)]
theorem wrap_pred {k : Nat} (h : k ≤ 4611686018427387000) : IntKind.i64.wrap (Int.ofNat (k + 1) - Int.ofNat 1) = Int.ofNat k := by
  rw [show (Int.ofNat (k + 1) - Int.ofNat 1) = Int.ofNat k by simp, wrap_nat h]
theorem wrap_pred' {n : Nat} (h : 1 ≤ n) (hn : n ≤ 4611686018427387000) : IntKind.i64.wrap (Int.ofNat n - Int.ofNat 1) = Int.ofNat (n - 1) := by
  obtain ⟨m, rfl⟩ : ∃ m, n = m + 1 := ⟨n - 1, by omega⟩
  exact wrap_pred (by omega)
theorem nx_lt {n j : Nat} (h : j + 1 < n) : nx n j = j + 1 := Nat.mod_eq_of_lt h
theorem nx_end {n : Nat} (h : 1 ≤ n) : nx n (n - 1) = 0 := by unfold nx; rw [Nat.sub_add_cancel h, Nat.mod_self]
theorem sg_lit {n : Nat} {x y z : Nat → Nat} {k q : Nat} (hq : nx n k = q) (c : Nat) (hc : c < 6) : ([[x k, y k, z k, x q, y q, z q]].getD (k - k) []).getD c 0 = sg n x y z k c := by
  rw [Nat.sub_self]
  subst hq
  match c, hc with
  | 0, _ | 1, _ | 2, _ | 3, _ | 4, _ | 5, _ => rfl
  | c + 6, hc => omega
theorem sg_app {n : Nat} {x y z : Nat → Nat} {k q : Nat} (hq : nx n k = q) {p : Nat} (hp : p < k + 1) (c : Nat) (hc : c < 6) : (match (motive := Bool → Nat → Nat) decide (p < k) with | true => sg n x y z p | false => fun j_1 => ([[x k, y k, z k, x q, y q, z q]].getD (p - k) []).getD j_1 0) c = sg n x y z p c := by
  by_cases h : p < k
  · rw [decide_eq_true h]
  · rw [decide_eq_false h]
    obtain rfl : p = k := by omega
    exact sg_lit hq c hc
noncomputable def env13 : List (Nat × (List A → Option (Bool × A))) := (49, s89) :: env12
theorem env13_ok : EnvOK Try.prog (look env13) := (env_cons s89_at env12_ok)
noncomputable def cfg13 : Cfg := mkCfg tab [] xts (look env13)
theorem cfg13_ok : CfgOK Try.prog cfg13 := cfg_ok tab_eq (no_fts _) xts_ok env13_ok mixed
noncomputable def I90 (n cur : Nat) (x y z : Nat → Nat) (cl : Bool) (k : Nat) : List A := [.ptr 0 0, .sl 32 k, .int .i64 (Int.ofNat n), .int .i64 (Int.ofNat (k + 1))]
noncomputable def J90 (n cur : Nat) (x y z : Nat → Nat) (cl : Bool) (k : Nat) : List O := [.var [.ro 3 n (.vecs .f32 x y z), .bool cl, .flt .f32 cur], .row 102 6 k (.flns .f32 6 (sg n x y z))]
theorem round90 (n cur : Nat) (x y z : Nat → Nat) (cl : Bool) (k : Nat) (L : XK → List A → List (Option O) → Prop) :
    ((exec cfg13 (fun _ => true) (fun _ => none) 0 1000 (loopOf Try.f82 0) (litSt Try.f82.ntmps 144 [1, 3, 4, 5] [0, 32] (I90 n cur x y z cl k) (J90 n cur x y z cl k))).rt [1, 3, 4, 5] [0, 32]).Ok L =
    bif decide (Int.ofNat (k + 1) < Int.ofNat n) then
      bif decide (Int.ofNat (k + 1) < Int.ofNat n) && (decide (0 ≤ IntKind.i64.wrap (Int.ofNat (k + 1) - 1)) && decide (IntKind.i64.wrap (Int.ofNat (k + 1) - 1) < Int.ofNat n) && true) then
        bif decide (k + 1 ≤ 1073741824) then
          L (XK.normal) ([A.ptr 0 0, A.sl 32 (k + 1), A.int .i64 (Int.ofNat n), A.int .i64 (IntKind.i64.wrap (Int.ofNat (k + 1) + Int.ofNat 1))]) ([some (O.var [A.ro 3 n (Row.vecs .f32 x y z), A.bool cl, A.flt .f32 cur]),   some     (O.row 102 6 (k + 1)       (Row.flns .f32 6 fun j =>         match (motive := Bool → Nat → Nat) decide (j < k) with         | true => sg n x y z j         | false => fun j_1 => ([[x (IntKind.i64.wrap (Int.ofNat (k + 1) - Int.ofNat 1)).toNat, y (IntKind.i64.wrap (Int.ofNat (k + 1) - Int.ofNat 1)).toNat, z (IntKind.i64.wrap (Int.ofNat (k + 1) - Int.ofNat 1)).toNat, x (k + 1), y (k + 1), z (k + 1)]].getD (j - k) []).getD j_1 0))])
        else
          False
      else
        False
    else
      L (XK.exit 0) ([A.ptr 0 0, A.sl 32 k, A.int .i64 (Int.ofNat n), A.int .i64 (Int.ofNat (k + 1))]) ([some (O.var [A.ro 3 n (Row.vecs .f32 x y z), A.bool cl, A.flt .f32 cur]), some (O.row 102 6 k (Row.flns .f32 6 fun j => sg n x y z j))]) := by kernel_rfl
noncomputable def F90 : List A → List (Option O) → Option R3
  | [.ptr 0 0, .sl 32 0, .int .i64 l, .int .i64 1], [some (.var [.ro 3 n (.vecs .f32 x y z), .bool cl, .flt .f32 cur]), some (.row 102 6 0 gg)] => some (.ite (decide (l = Int.ofNat n) && Nat.ble 1 n && Nat.ble n 1073741824) (.leaf .normal (I90 n cur x y z cl (n - 1)) (J90 n cur x y z cl (n - 1))) .fail)
  | _, _ => none
theorem loop90 : CodeOK Try.prog (fun _ σ => sumAt Try.f82.ntmps 144 [1, 3, 4, 5] [0, 32] F90 σ) (.block 0 (.loop (loopOf Try.f82 0))) := by
  refine block_ok (own := fun _ => true) (lp := (fun _ => none)) (un := 0) (fuel := 1000) cfg13_ok (lp_none _) fun az os R hF hok => ?_
  unfold F90 at hF
  split at hF
  · rename_i l n x y z cl cur gg
    injection hF with hF
    subst hF
    have hg := hok.guard
    have hg' := hg
    simp only [Bool.and_eq_true, Nat.ble_eq, Nat.beq_eq, decide_eq_true_eq] at hg'
    obtain ⟨⟨rfl, hn1⟩, hn⟩ := hg'
    refine for_fact (ids := [0, 32]) (fun _ => true) (n - 1) (I90 n cur x y z cl) (J90 n cur x y z cl) _ (.ret) (I90 n cur x y z cl) (I90 n cur x y z cl) (I90 n cur x y z cl (n - 1)) (J90 n cur x y z cl (n - 1)) rfl (by unfold J90; exact ⟨rfl, ⟨102, _, rfl, .inr rfl, fun p hp => absurd hp (by omega)⟩, trivial⟩) (fun _ => rfl) (fun _ => rfl) (fun _ => ALe.self _) (fun _ => rfl) (ALe.self _) (OSims.self _) rfl (fun h => by cases h) (fun k hk L h1 h2 h3 => ?_) fun L hL => ?_
    · rw [round90]
      by_cases hkm : k < n - 1
      · refine condT (lt_dec (by omega)) ?_
        rw [wrap_succ (by omega), wrap_pred (by omega)]
        have e : IntKind.i64.wrap (Int.ofNat (k + 1) - 1) = Int.ofNat k := wrap_pred (by omega)
        refine condT (by rw [e, dec0, lt_dec (show k + 1 < n by omega), lt_dec (show k < n by omega)]; rfl) ?_
        refine condT (decide_eq_true (by omega)) ?_
        exact h1 hkm rfl _ ⟨rfl, ⟨102, _, rfl, .inr rfl, fun p hp => flns_at fun c hc => sg_app (nx_lt (by omega)) hp c hc⟩, trivial⟩
      · refine condE (ge_dec (by omega)) ?_
        obtain rfl : k = n - 1 := by omega
        exact h3 rfl
    · exact ⟨fun _ => hL.1 hg, fun N _ h => by cases h⟩
  · cases hF
noncomputable def lp90T : List (Nat × (St → T)) := [(0, sumAt Try.f82.ntmps 144 [1, 3, 4, 5] [0, 32] F90)]
theorem lp90T_ok : LpOK Try.prog (look lp90T) (bodyOf Try.f82) := lp_loops (by kernel_rfl) (by kernel_rfl) fun p hp => by
  simp only [lp90T, List.mem_cons, List.not_mem_nil, or_false] at hp
  rcases hp with rfl
  · exact loop90
theorem auto90T (n cur : Nat) (x y z : Nat → Nat) : autoS cfg13 (look lp90T) true Try.f82 [.agg [.ro 3 n (.vecs .f32 x y z), .bool true, .flt .f32 cur]] =
    some   (decide (Int.ofNat n = Int.ofNat n) && Nat.ble 1 n && n.ble 1073741824 && (decide (0 < Int.ofNat n) && (decide (0 ≤ IntKind.i64.wrap (Int.ofNat n - 1)) && decide (IntKind.i64.wrap (Int.ofNat n - 1) < Int.ofNat n) && true) && (decide (n - 1 + 1 ≤ 1073741824) && true)),     A.ro 6 (n - 1 + 1)       (Row.flns .f32 6 fun j =>         match (motive := Bool → Nat → Nat) decide (j < n - 1) with         | true => sg n x y z j         | false => fun j_1 => ([[x (IntKind.i64.wrap (Int.ofNat n - Int.ofNat 1)).toNat, y (IntKind.i64.wrap (Int.ofNat n - Int.ofNat 1)).toNat, z (IntKind.i64.wrap (Int.ofNat n - Int.ofNat 1)).toNat, x 0, y 0, z 0]].getD (j - (n - 1)) []).getD j_1 0)) := by kernel_rfl
noncomputable def s90T : List A → Option (Bool × A)
  | [.agg [.ro 3 n (.vecs .f32 x y z), .bool true, .flt .f32 cur]] => some (Nat.ble 1 n && Nat.ble n 1073741824, .ro 6 (n - 1 + 1) (.flns .f32 6 fun j => match decide (j < n - 1) with | true => sg n x y z j | false => fun c => ([[x (n - 1), y (n - 1), z (n - 1), x 0, y 0, z 0]].getD (j - (n - 1)) []).getD c 0))
  | _ => none
theorem s90T_at : EnvAt Try.prog 82 s90T := of_autoS cfg13_ok lp90T_ok Try.func82 (by kernel_rfl) (by kernel_rfl) fun ds cc rr h hc => by
  unfold s90T at h
  split at h
  · rename_i n x y z cur
    simp only [Option.some.injEq, Prod.mk.injEq] at h
    obtain ⟨rfl, rfl⟩ := h
    refine auto_fit (auto90T n cur x y z) ?_ ?_
    · simp only [Bool.and_eq_true, Nat.ble_eq] at hc
      rw [wrap_pred' hc.1 (by omega)]; rfl
    · simp only [Bool.and_eq_true, Nat.ble_eq] at hc
      have e : IntKind.i64.wrap (Int.ofNat n - 1) = Int.ofNat (n - 1) := wrap_pred' hc.1 (by omega)
      rw [decide_eq_true rfl, ble_of hc.1, ble_of hc.2, e, dec0, lt_dec (show n - 1 < n by omega), decide_eq_true (p := n - 1 + 1 ≤ 1073741824) (by omega), decide_eq_true (p := 0 < Int.ofNat n) (by simp; omega)]
      rfl
  · cases h
noncomputable def lp90F : List (Nat × (St → T)) := [(0, sumAt Try.f82.ntmps 144 [1, 3, 4, 5] [0, 32] F90)]
theorem lp90F_ok : LpOK Try.prog (look lp90F) (bodyOf Try.f82) := lp_loops (by kernel_rfl) (by kernel_rfl) fun p hp => by
  simp only [lp90F, List.mem_cons, List.not_mem_nil, or_false] at hp
  rcases hp with rfl
  · exact loop90
theorem auto90F (n cur : Nat) (x y z : Nat → Nat) : autoS cfg13 (look lp90F) false Try.f82 [.agg [.ro 3 n (.vecs .f32 x y z), .bool false, .flt .f32 cur]] =
    some (decide (Int.ofNat n = Int.ofNat n) && Nat.ble 1 n && n.ble 1073741824 && true, A.ro 6 (n - 1) (Row.flns .f32 6 fun j => sg n x y z j)) := by kernel_rfl
noncomputable def s90F : List A → Option (Bool × A)
  | [.agg [.ro 3 n (.vecs .f32 x y z), .bool false, .flt .f32 cur]] => some (Nat.ble 1 n && Nat.ble n 1073741824, .ro 6 (n - 1) (.flns .f32 6 (sg n x y z)))
  | _ => none
theorem s90F_at : EnvAt Try.prog 82 s90F := of_autoS cfg13_ok lp90F_ok Try.func82 (by kernel_rfl) (by kernel_rfl) fun ds cc rr h hc => by
  unfold s90F at h
  split at h
  · rename_i n x y z cur
    simp only [Option.some.injEq, Prod.mk.injEq] at h
    obtain ⟨rfl, rfl⟩ := h
    refine auto_fit (auto90F n cur x y z) ?_ ?_
    · rfl
    · simp only [Bool.and_eq_true, Nat.ble_eq] at hc
      rw [decide_eq_true rfl, ble_of hc.1, ble_of hc.2]; rfl
  · cases h
noncomputable def s90 : List A → Option (Bool × A)
  | [.agg [.ro 3 n (.vecs .f32 x y z), .bool cl, .flt .f32 cur]] => some (Nat.ble 1 n && Nat.ble n 1073741824, .ro 6 (cnt n cl) (.flns .f32 6 (sg n x y z)))
  | _ => none
theorem s90_at : EnvAt Try.prog 82 s90 := by
  refine ⟨s90T_at.1, fun ds c r h hc => ?_⟩
  unfold s90 at h
  split at h
  · rename_i n x y z cl cur
    simp only [Option.some.injEq, Prod.mk.injEq] at h
    obtain ⟨rfl, rfl⟩ := h
    have hn : 1 ≤ n := by simp only [Bool.and_eq_true, Nat.ble_eq] at hc; exact hc.1
    cases cl
    · exact s90F_at.2 _ _ _ rfl hc
    · have key := (s90T_at.2 [.agg [.ro 3 n (.vecs .f32 x y z), .bool true, .flt .f32 cur]] _ _ rfl hc).ro_congr (g' := .flns .f32 6 (sg n x y z)) fun p hp => flns_at fun c hc => by
        rw [Nat.sub_add_cancel hn] at hp
        exact sg_app (nx_end hn) (by omega) c hc
      rw [Nat.sub_add_cancel hn] at key
      exact key
  · cases h
noncomputable def env14 : List (Nat × (List A → Option (Bool × A))) := (82, s90) :: (97, auto cfg13 Try.f97) :: env13
theorem env14_ok : EnvOK Try.prog (look env14) := (env_cons s90_at (env_cons (auto_at cfg13_ok Try.func97 (by kernel_rfl) (by kernel_rfl)) env13_ok))
noncomputable def cfg14 : Cfg := mkCfg tab [] xts (look env14)
theorem cfg14_ok : CfgOK Try.prog cfg14 := cfg_ok tab_eq (no_fts _) xts_ok env14_ok mixed
end Go.Fw.E1

/-
  The length of a wire.
-/
namespace Go.Fw.E1
open Go.Proofs
theorem cnt_le (n : Nat) (cl : Bool) : cnt n cl ≤ n := by unfold cnt; cases cl <;> simp
theorem cnt_lt {n k : Nat} {cl : Bool} (h : k < cnt n cl) : k < n := Nat.lt_of_lt_of_le h (cnt_le n cl)
def segLen (g : Nat → Nat → Nat) (j : Nat) : Nat := long (fop .sub .f32 (g j 3) (g j 0)) (fop .sub .f32 (g j 4) (g j 1)) (fop .sub .f32 (g j 5) (g j 2))
def lenS (g : Nat → Nat → Nat) (s : Nat) : Nat → Nat
  | 0 => s
  | k + 1 => fop .add .f32 (lenS g s k) (segLen g k)
noncomputable def I35 (m s : Nat) (gg : Nat → Nat → Nat) (k : Nat) : List A := [.sl 128 m, .int .i64 (Int.ofNat m), .int .i64 (Int.ofNat k), .flt .f32 (lenS gg s k)]
noncomputable def J35 (m s : Nat) (gg : Nat → Nat → Nat) (k : Nat) : List O := [.row 0 6 m (.flns .f32 6 gg)]
theorem round35 (m s : Nat) (gg : Nat → Nat → Nat) (k : Nat) (L : XK → List A → List (Option O) → Prop) :
    ((exec cfg14 (fun _ => true) (fun _ => none) 0 1000 (loopOf Try.f47 0) (litSt Try.f47.ntmps 176 [11, 12, 13, 4] [128] (I35 m s gg k) (J35 m s gg k))).rt [11, 12, 13, 4] [128]).Ok L =
    bif decide (Int.ofNat k < Int.ofNat m) then
      bif decide (Int.ofNat k < Int.ofNat m) then
        L (XK.normal) ([A.sl 128 m, A.int .i64 (Int.ofNat m), A.int .i64 (IntKind.i64.wrap (Int.ofNat k + Int.ofNat 1)), A.flt .f32 (fop .add .f32 (lenS gg s k) (long (fop .sub .f32 (gg k 3) (gg k 0)) (fop .sub .f32 (gg k 4) (gg k 1)) (fop .sub .f32 (gg k 5) (gg k 2))))]) ([some (O.row 0 6 m (Row.flns .f32 6 gg))])
      else
        False
    else
      L (XK.exit 0) ([A.sl 128 m, A.int .i64 (Int.ofNat m), A.int .i64 (Int.ofNat k), A.flt .f32 (lenS gg s k)]) ([some (O.row 0 6 m (Row.flns .f32 6 gg))]) := by kernel_rfl
noncomputable def F35 : List A → List (Option O) → Option R3
  | [.sl 128 m, .int .i64 l, .int .i64 0, .flt .f32 s], [some (.row 0 6 m2 (.flns .f32 6 gg))] => some (.ite (decide (l = Int.ofNat m) && Nat.beq m m2 && Nat.ble m 1073741824) (.leaf .normal (I35 m s gg (m)) (J35 m s gg (m))) .fail)
  | _, _ => none
theorem loop35 : CodeOK Try.prog (fun _ σ => sumAt Try.f47.ntmps 176 [11, 12, 13, 4] [128] F35 σ) (.block 0 (.loop (loopOf Try.f47 0))) := by
  refine block_ok (own := fun _ => true) (lp := (fun _ => none)) (un := 0) (fuel := 1000) cfg14_ok (lp_none _) fun az os R hF hok => ?_
  unfold F35 at hF
  split at hF
  · rename_i m l s m2 gg
    injection hF with hF
    subst hF
    have hg := hok.guard
    have hg' := hg
    simp only [Bool.and_eq_true, Nat.ble_eq, Nat.beq_eq, decide_eq_true_eq] at hg'
    obtain ⟨⟨rfl, rfl⟩, hm⟩ := hg'
    refine for_fact (ids := [128]) (fun _ => true) (m) (I35 m s gg) (J35 m s gg) _ (.ret) (I35 m s gg) (I35 m s gg) (I35 m s gg (m)) (J35 m s gg (m)) rfl (OSims.self _) (fun _ => rfl) (fun _ => rfl) (fun _ => ALe.self _) (fun _ => rfl) (ALe.self _) (OSims.self _) rfl (fun h => by cases h) (fun k hk L h1 h2 h3 => ?_) fun L hL => ?_
    · rw [round35]
      by_cases hkm : k < m
      · refine condT (lt_dec hkm) ?_
        rw [wrap_succ (by omega)]
        refine condT (lt_dec hkm) ?_
        exact h1 hkm rfl _ (OSims.self (J35 m s gg (k + 1)))
      · refine condE (ge_dec (by omega)) ?_
        obtain rfl : k = m := by omega
        exact h3 rfl
    · exact ⟨fun _ => hL.1 hg, fun N _ h => by cases h⟩
  · cases hF
noncomputable def lenW (n : Nat) (x y z : Nat → Nat) (cl : Bool) : Nat := lenS (sg n x y z) (can .f32 0) (cnt n cl)
noncomputable def lenOk (n cur : Nat) (x y z : Nat → Nat) (cl : Bool) : Bool := okW n cur x y z && fin (lenW n x y z cl)
noncomputable def lp35 : List (Nat × (St → T)) := [(0, sumAt Try.f47.ntmps 176 [11, 12, 13, 4] [128] F35)]
theorem lp35_ok : LpOK Try.prog (look lp35) (bodyOf Try.f47) := lp_loops (by kernel_rfl) (by kernel_rfl) fun p hp => by
  simp only [lp35, List.mem_cons, List.not_mem_nil, or_false] at hp
  rcases hp with rfl
  · exact loop35
theorem auto35 (n cur : Nat) (x y z : Nat → Nat) (cl : Bool) : autoLp cfg14 (look lp35) Try.f47 [.agg [.ro 3 n (.vecs .f32 x y z), .bool cl, .flt .f32 cur]] =
    some (n.ble 4611686018427387000 && bif !okW n cur x y z then true else Nat.ble 1 n && n.ble 1073741824 && (decide (Int.ofNat (cnt n cl) = Int.ofNat (cnt n cl)) && (cnt n cl).beq (cnt n cl) && (cnt n cl).ble 1073741824 && true), A.tup [A.flt .f32 (bif !okW n cur x y z then can .f32 0 else bif fin (lenS (sg n x y z) (can .f32 0) (cnt n cl)) then lenS (sg n x y z) (can .f32 0) (cnt n cl) else can .f32 0), A.bool (bif !okW n cur x y z then false else fin (lenS (sg n x y z) (can .f32 0) (cnt n cl)))]) := by kernel_rfl
noncomputable def s35 : List A → Option (Bool × A)
  | [.agg [.ro 3 n (.vecs .f32 x y z), .bool cl, .flt .f32 cur]] => some (Nat.ble n 1073741824, .tup [.flt .f32 (bif lenOk n cur x y z cl then lenW n x y z cl else can .f32 0), .bool (lenOk n cur x y z cl)])
  | _ => none
theorem s35_at : EnvAt Try.prog 47 s35 := of_auto cfg14_ok lp35_ok Try.func47 (by kernel_rfl) (by kernel_rfl) fun ds cc rr h hc => by
  unfold s35 at h
  split at h
  · rename_i n x y z cl cur
    simp only [Option.some.injEq, Prod.mk.injEq] at h
    obtain ⟨rfl, rfl⟩ := h
    refine auto_fit (auto35 n cur x y z cl) ?_ ?_
    · unfold lenOk
      cases okW n cur x y z
      · rfl
      · rfl
    · simp only [Nat.ble_eq] at hc
      rw [ble_of (show n ≤ 4611686018427387000 by omega)]
      cases hw : okW n cur x y z
      · rfl
      · have h2 := okW_n hw
        have h3 := cnt_le n cl
        rw [ble_of (show 1 ≤ n by omega), ble_of hc, ble_of (show cnt n cl ≤ 1073741824 by omega)]
        simp
  · cases h
noncomputable def env15 : List (Nat × (List A → Option (Bool × A))) := (47, s35) :: env14
theorem env15_ok : EnvOK Try.prog (look env15) := (env_cons s35_at env14_ok)
noncomputable def cfg15 : Cfg := mkCfg tab [] xts (look env15)
theorem cfg15_ok : CfgOK Try.prog cfg15 := cfg_ok tab_eq (no_fts _) xts_ok env15_ok mixed
end Go.Fw.E1

/-
  The field of a wire.
-/
namespace Go.Fw.E1
open Go.Proofs
def segX (g : Nat → Nat → Nat) (p q r j : Nat) : Nat := sgX (fop .sub .f32 p (g j 0)) (fop .sub .f32 q (g j 1)) (fop .sub .f32 r (g j 2)) (fop .sub .f32 p (g j 3)) (fop .sub .f32 q (g j 4)) (fop .sub .f32 r (g j 5))
def segY (g : Nat → Nat → Nat) (p q r j : Nat) : Nat := sgY (fop .sub .f32 p (g j 0)) (fop .sub .f32 q (g j 1)) (fop .sub .f32 r (g j 2)) (fop .sub .f32 p (g j 3)) (fop .sub .f32 q (g j 4)) (fop .sub .f32 r (g j 5))
def segZ (g : Nat → Nat → Nat) (p q r j : Nat) : Nat := sgZ (fop .sub .f32 p (g j 0)) (fop .sub .f32 q (g j 1)) (fop .sub .f32 r (g j 2)) (fop .sub .f32 p (g j 3)) (fop .sub .f32 q (g j 4)) (fop .sub .f32 r (g j 5))
def fX (g : Nat → Nat → Nat) (p q r s : Nat) : Nat → Nat
  | 0 => s
  | k + 1 => fop .add .f32 (fX g p q r s k) (segX g p q r k)
def fY (g : Nat → Nat → Nat) (p q r s : Nat) : Nat → Nat
  | 0 => s
  | k + 1 => fop .add .f32 (fY g p q r s k) (segY g p q r k)
def fZ (g : Nat → Nat → Nat) (p q r s : Nat) : Nat → Nat
  | 0 => s
  | k + 1 => fop .add .f32 (fZ g p q r s k) (segZ g p q r k)
noncomputable def I102 (n cur s t u s2 t2 u2 p q r m : Nat) (x y z : Nat → Nat) (cl : Bool) (gg : Nat → Nat → Nat) (k : Nat) : List A := [.ptr 0 0, .ptr 16 0, .ptr 64 0, .ptr 32 0, .sl 112 m, .int .i64 (Int.ofNat m), .int .i64 (Int.ofNat k)]
noncomputable def J102 (n cur s t u s2 t2 u2 p q r m : Nat) (x y z : Nat → Nat) (cl : Bool) (gg : Nat → Nat → Nat) (k : Nat) : List O := [.row 0 6 m (.flns .f32 6 gg), .var [.flt .f32 (fX gg p q r s k), .flt .f32 (fY gg p q r t k), .flt .f32 (fZ gg p q r u k)], .var [.flt .f32 s2, .flt .f32 t2, .flt .f32 u2], .var [.flt .f32 p, .flt .f32 q, .flt .f32 r], .var [.ro 3 n (.vecs .f32 x y z), .bool cl, .flt .f32 cur]]
theorem round102 (n cur s t u s2 t2 u2 p q r m : Nat) (x y z : Nat → Nat) (cl : Bool) (gg : Nat → Nat → Nat) (k : Nat) (L : XK → List A → List (Option O) → Prop) :
    ((exec cfg15 (fun _ => true) (fun _ => none) 0 1000 (loopOf Try.f77 0) (litSt Try.f77.ntmps 160 [2, 3, 5, 4, 10, 11, 12] [112, 64, 32, 16, 0] (I102 n cur s t u s2 t2 u2 p q r m x y z cl gg k) (J102 n cur s t u s2 t2 u2 p q r m x y z cl gg k))).rt [2, 3, 5, 4, 10, 11, 12] [112, 64, 32, 16, 0]).Ok L =
    bif decide (Int.ofNat k < Int.ofNat m) then
      bif decide (Int.ofNat k < Int.ofNat m) then
        L (XK.normal) ([A.ptr 0 0, A.ptr 16 0, A.ptr 64 0, A.ptr 32 0, A.sl 112 m, A.int .i64 (Int.ofNat m), A.int .i64 (IntKind.i64.wrap (Int.ofNat k + Int.ofNat 1))]) ([some (O.row 0 6 m (Row.flns .f32 6 gg)), some (O.var [A.flt .f32 (fop .add .f32 (fX gg p q r s k) (sgX (fop .sub .f32 p (gg k 0)) (fop .sub .f32 q (gg k 1)) (fop .sub .f32 r (gg k 2)) (fop .sub .f32 p (gg k 3)) (fop .sub .f32 q (gg k 4)) (fop .sub .f32 r (gg k 5)))), A.flt .f32 (fop .add .f32 (fY gg p q r t k) (sgY (fop .sub .f32 p (gg k 0)) (fop .sub .f32 q (gg k 1)) (fop .sub .f32 r (gg k 2)) (fop .sub .f32 p (gg k 3)) (fop .sub .f32 q (gg k 4)) (fop .sub .f32 r (gg k 5)))), A.flt .f32 (fop .add .f32 (fZ gg p q r u k) (sgZ (fop .sub .f32 p (gg k 0)) (fop .sub .f32 q (gg k 1)) (fop .sub .f32 r (gg k 2)) (fop .sub .f32 p (gg k 3)) (fop .sub .f32 q (gg k 4)) (fop .sub .f32 r (gg k 5))))]), some (O.var [A.flt .f32 s2, A.flt .f32 t2, A.flt .f32 u2]), some (O.var [A.flt .f32 p, A.flt .f32 q, A.flt .f32 r]), some (O.var [A.ro 3 n (Row.vecs .f32 x y z), A.bool cl, A.flt .f32 cur])])
      else
        False
    else
      L (XK.exit 0) ([A.ptr 0 0, A.ptr 16 0, A.ptr 64 0, A.ptr 32 0, A.sl 112 m, A.int .i64 (Int.ofNat m), A.int .i64 (Int.ofNat k)]) ([some (O.row 0 6 m (Row.flns .f32 6 gg)), some (O.var [A.flt .f32 (fX gg p q r s k), A.flt .f32 (fY gg p q r t k), A.flt .f32 (fZ gg p q r u k)]), some (O.var [A.flt .f32 s2, A.flt .f32 t2, A.flt .f32 u2]), some (O.var [A.flt .f32 p, A.flt .f32 q, A.flt .f32 r]), some (O.var [A.ro 3 n (Row.vecs .f32 x y z), A.bool cl, A.flt .f32 cur])]) := by kernel_rfl
noncomputable def F102 : List A → List (Option O) → Option R3
  | [.ptr 0 0, .ptr 16 0, .ptr 64 0, .ptr 32 0, .sl 112 m, .int .i64 l, .int .i64 0], [some (.row 0 6 m2 (.flns .f32 6 gg)), some (.var [.flt .f32 s, .flt .f32 t, .flt .f32 u]), some (.var [.flt .f32 s2, .flt .f32 t2, .flt .f32 u2]), some (.var [.flt .f32 p, .flt .f32 q, .flt .f32 r]), some (.var [.ro 3 n (.vecs .f32 x y z), .bool cl, .flt .f32 cur])] => some (.ite (decide (l = Int.ofNat m) && Nat.beq m m2 && Nat.ble m 1073741824) (.leaf .normal (I102 n cur s t u s2 t2 u2 p q r m x y z cl gg (m)) (J102 n cur s t u s2 t2 u2 p q r m x y z cl gg (m))) .fail)
  | _, _ => none
theorem loop102 : CodeOK Try.prog (fun _ σ => sumAt Try.f77.ntmps 160 [2, 3, 5, 4, 10, 11, 12] [112, 64, 32, 16, 0] F102 σ) (.block 0 (.loop (loopOf Try.f77 0))) := by
  refine block_ok (own := fun _ => true) (lp := (fun _ => none)) (un := 0) (fuel := 1000) cfg15_ok (lp_none _) fun az os R hF hok => ?_
  unfold F102 at hF
  split at hF
  · rename_i m l m2 gg s t u s2 t2 u2 p q r n x y z cl cur
    injection hF with hF
    subst hF
    have hg := hok.guard
    have hg' := hg
    simp only [Bool.and_eq_true, Nat.ble_eq, Nat.beq_eq, decide_eq_true_eq] at hg'
    obtain ⟨⟨rfl, rfl⟩, hm⟩ := hg'
    refine for_fact (ids := [112, 64, 32, 16, 0]) (fun _ => true) (m) (I102 n cur s t u s2 t2 u2 p q r m x y z cl gg) (J102 n cur s t u s2 t2 u2 p q r m x y z cl gg) _ (.ret) (I102 n cur s t u s2 t2 u2 p q r m x y z cl gg) (I102 n cur s t u s2 t2 u2 p q r m x y z cl gg) (I102 n cur s t u s2 t2 u2 p q r m x y z cl gg (m)) (J102 n cur s t u s2 t2 u2 p q r m x y z cl gg (m)) rfl (OSims.self _) (fun _ => rfl) (fun _ => rfl) (fun _ => ALe.self _) (fun _ => rfl) (ALe.self _) (OSims.self _) rfl (fun h => by cases h) (fun k hk L h1 h2 h3 => ?_) fun L hL => ?_
    · rw [round102]
      by_cases hkm : k < m
      · refine condT (lt_dec hkm) ?_
        rw [wrap_succ (by omega)]
        refine condT (lt_dec hkm) ?_
        exact h1 hkm rfl _ (OSims.self (J102 n cur s t u s2 t2 u2 p q r m x y z cl gg (k + 1)))
      · refine condE (ge_dec (by omega)) ?_
        obtain rfl : k = m := by omega
        exact h3 rfl
    · exact ⟨fun _ => hL.1 hg, fun N _ h => by cases h⟩
  · cases hF
noncomputable def fwX (n : Nat) (x y z : Nat → Nat) (cl : Bool) (cur p q r : Nat) : Nat := fop .mul .f32 (fX (sg n x y z) p q r 0 (cnt n cl)) cur
noncomputable def fwY (n : Nat) (x y z : Nat → Nat) (cl : Bool) (cur p q r : Nat) : Nat := fop .mul .f32 (fY (sg n x y z) p q r 0 (cnt n cl)) cur
noncomputable def fwZ (n : Nat) (x y z : Nat → Nat) (cl : Bool) (cur p q r : Nat) : Nat := fop .mul .f32 (fZ (sg n x y z) p q r 0 (cnt n cl)) cur
noncomputable def lp102 : List (Nat × (St → T)) := [(0, sumAt Try.f77.ntmps 160 [2, 3, 5, 4, 10, 11, 12] [112, 64, 32, 16, 0] F102)]
theorem lp102_ok : LpOK Try.prog (look lp102) (bodyOf Try.f77) := lp_loops (by kernel_rfl) (by kernel_rfl) fun p hp => by
  simp only [lp102, List.mem_cons, List.not_mem_nil, or_false] at hp
  rcases hp with rfl
  · exact loop102
theorem auto102 (n cur p q r : Nat) (x y z : Nat → Nat) (cl : Bool) : autoLp cfg15 (look lp102) Try.f77 [.agg [.ro 3 n (.vecs .f32 x y z), .bool cl, .flt .f32 cur], .agg [.flt .f32 p, .flt .f32 q, .flt .f32 r]] =
    some (Nat.ble 1 n && n.ble 1073741824 && (decide (Int.ofNat (cnt n cl) = Int.ofNat (cnt n cl)) && (cnt n cl).beq (cnt n cl) && (cnt n cl).ble 1073741824 && true), A.agg [A.flt .f32 (fop .mul .f32 (fX (sg n x y z) p q r 0 (cnt n cl)) cur), A.flt .f32 (fop .mul .f32 (fY (sg n x y z) p q r 0 (cnt n cl)) cur), A.flt .f32 (fop .mul .f32 (fZ (sg n x y z) p q r 0 (cnt n cl)) cur)]) := by kernel_rfl
noncomputable def s102 : List A → Option (Bool × A)
  | [.agg [.ro 3 n (.vecs .f32 x y z), .bool cl, .flt .f32 cur], .agg [.flt .f32 p, .flt .f32 q, .flt .f32 r]] => some (Nat.ble 1 n && Nat.ble n 1073741824, .agg [.flt .f32 (fwX n x y z cl cur p q r), .flt .f32 (fwY n x y z cl cur p q r), .flt .f32 (fwZ n x y z cl cur p q r)])
  | _ => none
theorem s102_at : EnvAt Try.prog 77 s102 := of_auto cfg15_ok lp102_ok Try.func77 (by kernel_rfl) (by kernel_rfl) fun ds cc rr h hc => by
  unfold s102 at h
  split at h
  · rename_i n x y z cl cur p q r
    simp only [Option.some.injEq, Prod.mk.injEq] at h
    obtain ⟨rfl, rfl⟩ := h
    refine auto_fit (auto102 n cur p q r x y z cl) ?_ ?_
    · rfl
    · simp only [Bool.and_eq_true, Nat.ble_eq] at hc
      have h3 := cnt_le n cl
      rw [ble_of hc.1, ble_of hc.2, ble_of (show cnt n cl ≤ 1073741824 by omega)]
      simp
  · cases h
end Go.Fw.E1

/-
  The field of a wire: the law; pieces of segments.
-/
namespace Go.Fw.E1
open Go.Proofs
noncomputable def env16 : List (Nat × (List A → Option (Bool × A))) := (77, s102) :: env15
theorem env16_ok : EnvOK Try.prog (look env16) := (env_cons s102_at env15_ok)
noncomputable def cfg16 : Cfg := mkCfg tab [] xts (look env16)
theorem cfg16_ok : CfgOK Try.prog cfg16 := cfg_ok tab_eq (no_fts _) xts_ok env16_ok mixed
noncomputable def fOk (n cur : Nat) (x y z : Nat → Nat) (cl : Bool) (p q r : Nat) : Bool := (bif okW n cur x y z then vfin p q r else false) && vfin (fwX n x y z cl cur p q r) (fwY n x y z cl cur p q r) (fwZ n x y z cl cur p q r)
theorem auto45 (n cur p q r : Nat) (x y z : Nat → Nat) (cl : Bool) : autoLp cfg16 (fun _ => none) Try.f21 [.agg [.ro 3 n (.vecs .f32 x y z), .bool cl, .flt .f32 cur], .agg [.flt .f32 p, .flt .f32 q, .flt .f32 r]] =
    some (n.ble 4611686018427387000 && bif bif !okW n cur x y z then true else !vfin p q r then true else Nat.ble 1 n && n.ble 1073741824 && true, A.tup [A.agg [A.flt .f32 (bif bif !okW n cur x y z then true else !vfin p q r then 0 else bif vfin (fwX n x y z cl cur p q r) (fwY n x y z cl cur p q r) (fwZ n x y z cl cur p q r) then fwX n x y z cl cur p q r else can .f32 0), A.flt .f32 (bif bif !okW n cur x y z then true else !vfin p q r then 0 else bif vfin (fwX n x y z cl cur p q r) (fwY n x y z cl cur p q r) (fwZ n x y z cl cur p q r) then fwY n x y z cl cur p q r else can .f32 0), A.flt .f32 (bif bif !okW n cur x y z then true else !vfin p q r then 0 else bif vfin (fwX n x y z cl cur p q r) (fwY n x y z cl cur p q r) (fwZ n x y z cl cur p q r) then fwZ n x y z cl cur p q r else can .f32 0)], A.bool (bif bif !okW n cur x y z then true else !vfin p q r then false else vfin (fwX n x y z cl cur p q r) (fwY n x y z cl cur p q r) (fwZ n x y z cl cur p q r))]) := by kernel_rfl
noncomputable def s45 : List A → Option (Bool × A)
  | [.agg [.ro 3 n (.vecs .f32 x y z), .bool cl, .flt .f32 cur], .agg [.flt .f32 p, .flt .f32 q, .flt .f32 r]] => some (Nat.ble n 1073741824, .tup [.agg [.flt .f32 (bif fOk n cur x y z cl p q r then fwX n x y z cl cur p q r else 0), .flt .f32 (bif fOk n cur x y z cl p q r then fwY n x y z cl cur p q r else 0), .flt .f32 (bif fOk n cur x y z cl p q r then fwZ n x y z cl cur p q r else 0)], .bool (fOk n cur x y z cl p q r)])
  | _ => none
theorem s45_at : EnvAt Try.prog 21 s45 := of_auto cfg16_ok (lp_none _) Try.func21 (by kernel_rfl) (by kernel_rfl) fun ds cc rr h hc => by
  unfold s45 at h
  split at h
  · rename_i n x y z cl cur p q r
    simp only [Option.some.injEq, Prod.mk.injEq] at h
    obtain ⟨rfl, rfl⟩ := h
    refine auto_fit (auto45 n cur p q r x y z cl) ?_ ?_
    · unfold fOk
      cases okW n cur x y z <;> cases vfin p q r <;> rfl
    · simp only [Nat.ble_eq] at hc
      rw [ble_of (show n ≤ 4611686018427387000 by omega)]
      cases hw : okW n cur x y z
      · rfl
      · have h2 := okW_n hw
        rw [ble_of (show 1 ≤ n by omega), ble_of hc]
        simp
  · cases h
noncomputable def env17 : List (Nat × (List A → Option (Bool × A))) := (21, s45) :: env16
theorem env17_ok : EnvOK Try.prog (look env17) := (env_cons s45_at env16_ok)
noncomputable def cfg17 : Cfg := mkCfg tab [] xts (look env17)
theorem cfg17_ok : CfgOK Try.prog cfg17 := cfg_ok tab_eq (no_fts _) xts_ok env17_ok mixed
def inv (pp : Nat) : Nat := fop .quo .f32 (can .f32 1065353216) (fofInt .f32 (Int.ofNat pp))
def mid (k pp : Nat) : Nat := fop .quo .f32 (fop .add .f32 (fofInt .f32 (Int.ofNat k)) (can .f32 1056964608)) (fofInt .f32 (Int.ofNat pp))
def pcS (a b c u v w pp k d : Nat) : Nat :=
  match d with
  | 0 => fop .mul .f32 (fop .sub .f32 u a) (inv pp)
  | 1 => fop .mul .f32 (fop .sub .f32 v b) (inv pp)
  | 2 => fop .mul .f32 (fop .sub .f32 w c) (inv pp)
  | 3 => fop .add .f32 a (fop .mul .f32 (fop .sub .f32 u a) (mid k pp))
  | 4 => fop .add .f32 b (fop .mul .f32 (fop .sub .f32 v b) (mid k pp))
  | _ => fop .add .f32 c (fop .mul .f32 (fop .sub .f32 w c) (mid k pp))
def pc (g : Nat → Nat → Nat) (pp j d : Nat) : Nat := pcS (g (j / pp) 0) (g (j / pp) 1) (g (j / pp) 2) (g (j / pp) 3) (g (j / pp) 4) (g (j / pp) 5) pp (j % pp) d
theorem auto126 (a b c u v w pp : Nat) : autoLp cfg17 (fun _ => none) Try.f84 [.agg [.flt .f32 a, .flt .f32 b, .flt .f32 c, .flt .f32 u, .flt .f32 v, .flt .f32 w], .int .i64 (.ofNat pp)] =
    some (true, A.agg [A.flt .f32 (fop .mul .f32 (fop .sub .f32 u a) (fop .quo .f32 (can .f32 1065353216) (fofInt .f32 (Int.ofNat pp)))), A.flt .f32 (fop .mul .f32 (fop .sub .f32 v b) (fop .quo .f32 (can .f32 1065353216) (fofInt .f32 (Int.ofNat pp)))), A.flt .f32 (fop .mul .f32 (fop .sub .f32 w c) (fop .quo .f32 (can .f32 1065353216) (fofInt .f32 (Int.ofNat pp))))]) := by kernel_rfl
noncomputable def s126 : List A → Option (Bool × A)
  | [.agg [.flt .f32 a, .flt .f32 b, .flt .f32 c, .flt .f32 u, .flt .f32 v, .flt .f32 w], .int .i64 (.ofNat pp)] => some (true, .agg [.flt .f32 (pcS a b c u v w pp 0 0), .flt .f32 (pcS a b c u v w pp 0 1), .flt .f32 (pcS a b c u v w pp 0 2)])
  | _ => none
theorem s126_at : EnvAt Try.prog 84 s126 := of_auto cfg17_ok (lp_none _) Try.func84 (by kernel_rfl) (by kernel_rfl) fun ds cc rr h hc => by
  unfold s126 at h
  split at h
  · rename_i a b c u v w pp
    simp only [Option.some.injEq, Prod.mk.injEq] at h
    obtain ⟨rfl, rfl⟩ := h
    refine auto_fit (auto126 a b c u v w pp) ?_ ?_
    · rfl
    · rfl
  · cases h
theorem auto125 (a b c u v w pp k : Nat) : autoLp cfg17 (fun _ => none) Try.f83 [.agg [.flt .f32 a, .flt .f32 b, .flt .f32 c, .flt .f32 u, .flt .f32 v, .flt .f32 w], .int .i64 (.ofNat k), .int .i64 (.ofNat pp)] =
    some (true, A.agg [A.flt .f32 (fop .add .f32 a (fop .mul .f32 (fop .sub .f32 u a) (fop .quo .f32 (fop .add .f32 (fofInt .f32 (Int.ofNat k)) (can .f32 1056964608)) (fofInt .f32 (Int.ofNat pp))))), A.flt .f32 (fop .add .f32 b (fop .mul .f32 (fop .sub .f32 v b) (fop .quo .f32 (fop .add .f32 (fofInt .f32 (Int.ofNat k)) (can .f32 1056964608)) (fofInt .f32 (Int.ofNat pp))))), A.flt .f32 (fop .add .f32 c (fop .mul .f32 (fop .sub .f32 w c) (fop .quo .f32 (fop .add .f32 (fofInt .f32 (Int.ofNat k)) (can .f32 1056964608)) (fofInt .f32 (Int.ofNat pp)))))]) := by kernel_rfl
noncomputable def s125 : List A → Option (Bool × A)
  | [.agg [.flt .f32 a, .flt .f32 b, .flt .f32 c, .flt .f32 u, .flt .f32 v, .flt .f32 w], .int .i64 (.ofNat k), .int .i64 (.ofNat pp)] => some (true, .agg [.flt .f32 (pcS a b c u v w pp k 3), .flt .f32 (pcS a b c u v w pp k 4), .flt .f32 (pcS a b c u v w pp k 5)])
  | _ => none
theorem s125_at : EnvAt Try.prog 83 s125 := of_auto cfg17_ok (lp_none _) Try.func83 (by kernel_rfl) (by kernel_rfl) fun ds cc rr h hc => by
  unfold s125 at h
  split at h
  · rename_i a b c u v w k pp
    simp only [Option.some.injEq, Prod.mk.injEq] at h
    obtain ⟨rfl, rfl⟩ := h
    refine auto_fit (auto125 a b c u v w pp k) ?_ ?_
    · rfl
    · rfl
  · cases h
noncomputable def env18 : List (Nat × (List A → Option (Bool × A))) := (84, s126) :: (83, s125) :: env17
theorem env18_ok : EnvOK Try.prog (look env18) := (env_cons s126_at (env_cons s125_at env17_ok))
noncomputable def cfg18 : Cfg := mkCfg tab [] xts (look env18)
theorem cfg18_ok : CfgOK Try.prog cfg18 := cfg_ok tab_eq (no_fts _) xts_ok env18_ok mixed
end Go.Fw.E1

/-
  The pieces of wires.
-/
namespace Go.Fw.E1
open Go.Proofs
def jn (l : Nat) (u v : Nat → Nat) (p : Nat) : Nat := match decide (p < l) with | true => u p | false => v (p - l)
def jnR (l : Nat) (hh f : Nat → Nat → Nat) (p c : Nat) : Nat := match decide (p < l) with | true => hh p c | false => f (p - l) c
theorem jnR_app {l k : Nat} {hh f y : Nat → Nat → Nat} {p : Nat} (hp : p < l + k + 1) {c : Nat} (hy : y 0 c = f k c) : (match (motive := Bool → Nat → Nat) decide (p < l + k) with | true => jnR l hh f p | false => fun c => y (p - (l + k)) c) c = jnR l hh f p c := by
  by_cases h : p < l + k
  · rw [decide_eq_true h]
  · rw [decide_eq_false h]
    obtain rfl : p = l + k := by omega
    unfold jnR
    rw [decide_eq_false (by omega), show l + k - l = k by omega]
    show y (l + k - (l + k)) c = _
    rw [Nat.sub_self, hy]
theorem jnR_lit {l k : Nat} {hh f : Nat → Nat → Nat} {x0 x1 x2 x3 x4 x5 p : Nat} (hp : p < l + k + 1) {c : Nat} (h : [x0, x1, x2, x3, x4, x5].getD c 0 = f k c) : (match (motive := Bool → Nat → Nat) decide (p < l + k) with | true => jnR l hh f p | false => fun c => ([[x0, x1, x2, x3, x4, x5]].getD (p - (l + k)) []).getD c 0) c = jnR l hh f p c :=
  jnR_app (y := fun t c => ([[x0, x1, x2, x3, x4, x5]].getD t []).getD c 0) hp h
theorem jnR_zero {l : Nat} {hh f : Nat → Nat → Nat} {p : Nat} (hp : p < l) (c : Nat) : hh p c = jnR l hh f p c := by unfold jnR; rw [decide_eq_true hp]
theorem ix_div {i k n : Nat} (hk : k < n) : (n * i + k) / n = i := by
  rw [Nat.mul_add_div (by omega), Nat.div_eq_of_lt hk, Nat.add_zero]
theorem ix_mod {i k n : Nat} (hk : k < n) : (n * i + k) % n = k := by
  rw [Nat.mul_add_mod, Nat.mod_eq_of_lt hk]
theorem pc_at {g : Nat → Nat → Nat} {pp i k : Nat} (hk : k < pp) (c : Nat) : pc g pp (pp * i + k) c = pcS (g i 0) (g i 1) (g i 2) (g i 3) (g i 4) (g i 5) pp k c := by
  unfold pc; rw [ix_div hk, ix_mod hk]
theorem pc_step {g : Nat → Nat → Nat} {pp i : Nat} {p : Nat} (hp : p < pp * i + pp) (c : Nat) : jnR (pp * i) (pc g pp) (fun t => pcS (g i 0) (g i 1) (g i 2) (g i 3) (g i 4) (g i 5) pp t) p c = pc g pp p c := by
  unfold jnR
  rcases Nat.lt_or_ge p (pp * i) with h | h
  · rw [decide_eq_true h]
  · rw [decide_eq_false (by omega)]
    obtain ⟨s, rfl⟩ : ∃ s, p = pp * i + s := ⟨p - pp * i, by omega⟩
    rw [pc_at (show s < pp by omega), show pp * i + s - pp * i = s by omega]
noncomputable def I106k (m l pp a b c u v w : Nat) (p1 p2 : Int) (gg hh : Nat → Nat → Nat) (k : Nat) : List A := [.int .i64 (.ofNat pp), .sl 32 (l + k), .ptr 176 0, .sl 80 m, .int .i64 p1, .int .i64 p2, .int .i64 (Int.ofNat pp), .int .i64 (Int.ofNat k)]
noncomputable def J106k (m l pp a b c u v w : Nat) (p1 p2 : Int) (gg hh : Nat → Nat → Nat) (k : Nat) : List O := [.var [.flt .f32 a, .flt .f32 b, .flt .f32 c, .flt .f32 u, .flt .f32 v, .flt .f32 w], .row 0 6 m (.flns .f32 6 gg), .row 119 6 (l + k) (.flns .f32 6 (jnR l hh fun t => pcS a b c u v w pp t))]
theorem round106k (m l pp a b c u v w : Nat) (p1 p2 : Int) (gg hh : Nat → Nat → Nat) (k : Nat) (L : XK → List A → List (Option O) → Prop) :
    ((exec cfg18 (fun _ => true) (fun _ => none) 0 1000 (loopOf Try.f104 2) (litSt Try.f104.ntmps 240 [1, 5, 7, 11, 12, 13, 17, 18] [176, 80, 32] (I106k m l pp a b c u v w p1 p2 gg hh k) (J106k m l pp a b c u v w p1 p2 gg hh k))).rt [1, 5, 7, 11, 12, 13, 17, 18] [176, 80, 32]).Ok L =
    bif decide (Int.ofNat k < Int.ofNat pp) then
      bif decide (l + k + 1 ≤ 1073741824) then
        L (XK.normal) ([A.int .i64 (Int.ofNat pp), A.sl 32 (l + k + 1), A.ptr 176 0, A.sl 80 m, A.int .i64 p1, A.int .i64 p2, A.int .i64 (Int.ofNat pp), A.int .i64 (IntKind.i64.wrap (Int.ofNat k + Int.ofNat 1))]) ([some (O.var [A.flt .f32 a, A.flt .f32 b, A.flt .f32 c, A.flt .f32 u, A.flt .f32 v, A.flt .f32 w]), some (O.row 0 6 m (Row.flns .f32 6 gg)),   some     (O.row 119 6 (l + k + 1)       (Row.flns .f32 6 fun j =>         match (motive := Bool → Nat → Nat) decide (j < l + k) with         | true => jnR l hh (fun t => pcS a b c u v w pp t) j         | false => fun j_1 => ([[pcS a b c u v w pp 0 0, pcS a b c u v w pp 0 1, pcS a b c u v w pp 0 2, pcS a b c u v w pp k 3, pcS a b c u v w pp k 4, pcS a b c u v w pp k 5]].getD (j - (l + k)) []).getD j_1 0))])
      else
        False
    else
      L (XK.exit 2) ([A.int .i64 (Int.ofNat pp), A.sl 32 (l + k), A.ptr 176 0, A.sl 80 m, A.int .i64 p1, A.int .i64 p2, A.int .i64 (Int.ofNat pp), A.int .i64 (Int.ofNat k)]) ([some (O.var [A.flt .f32 a, A.flt .f32 b, A.flt .f32 c, A.flt .f32 u, A.flt .f32 v, A.flt .f32 w]), some (O.row 0 6 m (Row.flns .f32 6 gg)), some (O.row 119 6 (l + k) (Row.flns .f32 6 fun p => jnR l hh (fun t => pcS a b c u v w pp t) p))]) := by kernel_rfl
noncomputable def F106k : List A → List (Option O) → Option R3
  | [.int .i64 (.ofNat pp), .sl 32 l, .ptr 176 0, .sl 80 m, .int .i64 p1, .int .i64 p2, .int .i64 q, .int .i64 0], [some (.var [.flt .f32 a, .flt .f32 b, .flt .f32 c, .flt .f32 u, .flt .f32 v, .flt .f32 w]), some (.row 0 6 m2 (.flns .f32 6 gg)), some (.row 119 6 l2 (.flns .f32 6 hh))] => some (.ite (decide (q = Int.ofNat pp) && Nat.beq m m2 && Nat.beq l l2 && Nat.ble pp 32 && Nat.ble l 100000) (.leaf .normal (I106k m l pp a b c u v w p1 p2 gg hh (pp)) (J106k m l pp a b c u v w p1 p2 gg hh (pp))) .fail)
  | _, _ => none
theorem loop106k : CodeOK Try.prog (fun _ σ => sumAt Try.f104.ntmps 240 [1, 5, 7, 11, 12, 13, 17, 18] [176, 80, 32] F106k σ) (.block 2 (.loop (loopOf Try.f104 2))) := by
  refine block_ok (own := fun _ => true) (lp := (fun _ => none)) (un := 0) (fuel := 1000) cfg18_ok (lp_none _) fun az os R hF hok => ?_
  unfold F106k at hF
  split at hF
  · rename_i pp l m p1 p2 q a b c u v w m2 gg l2 hh
    injection hF with hF
    subst hF
    have hg := hok.guard
    have hg' := hg
    simp only [Bool.and_eq_true, Nat.ble_eq, Nat.beq_eq, decide_eq_true_eq] at hg'
    obtain ⟨⟨⟨⟨rfl, rfl⟩, rfl⟩, hpp⟩, hl⟩ := hg'
    refine for_fact (ids := [176, 80, 32]) (fun _ => true) (pp) (I106k m l pp a b c u v w p1 p2 gg hh) (J106k m l pp a b c u v w p1 p2 gg hh) _ (.ret) (I106k m l pp a b c u v w p1 p2 gg hh) (I106k m l pp a b c u v w p1 p2 gg hh) (I106k m l pp a b c u v w p1 p2 gg hh (pp)) (J106k m l pp a b c u v w p1 p2 gg hh (pp)) rfl (by unfold J106k; exact ⟨rfl, ⟨0, _, rfl, .inr rfl, fun _ _ => rfl⟩, ⟨119, _, rfl, .inr rfl, fun p hp => flns_at fun d _ => jnR_zero hp d⟩, trivial⟩) (fun _ => rfl) (fun _ => rfl) (fun _ => ALe.self _) (fun _ => rfl) (ALe.self _) (OSims.self _) rfl (fun h => by cases h) (fun k hk L h1 h2 h3 => ?_) fun L hL => ?_
    · rw [round106k]
      by_cases hkm : k < pp
      · refine condT (lt_dec hkm) ?_
        rw [wrap_succ (by omega)]
        refine condT (decide_eq_true (by omega)) ?_
        exact h1 hkm rfl _ ⟨rfl, ⟨0, _, rfl, .inr rfl, fun _ _ => rfl⟩, ⟨119, _, rfl, .inr rfl, fun p hp => flns_at fun d hd => jnR_lit hp (by
          match d, hd with
          | 0, _ | 1, _ | 2, _ | 3, _ | 4, _ | 5, _ => rfl
          | d + 6, hd => omega)⟩, trivial⟩
      · refine condE (ge_dec (by omega)) ?_
        obtain rfl : k = pp := by omega
        exact h3 rfl
    · exact ⟨fun _ => hL.1 hg, fun N _ h => by cases h⟩
  · cases hF
noncomputable def lpi106i : List (Nat × (St → T)) := [(2, sumAt Try.f104.ntmps 240 [1, 5, 7, 11, 12, 13, 17, 18] [176, 80, 32] F106k)]
theorem lpi106i_ok : LpOK Try.prog (look lpi106i) (loopOf Try.f104 0) := lp_in (lp_loops (by kernel_rfl) (by kernel_rfl) fun p hp => by
  simp only [lpi106i, List.mem_cons, List.not_mem_nil, or_false] at hp
  rcases hp with rfl
  · exact loop106k) _
noncomputable def I106i (m pp : Nat) (gg : Nat → Nat → Nat) (k : Nat) : List A := [.int .i64 (.ofNat pp), .sl 32 (pp * k), .sl 80 m, .int .i64 (Int.ofNat m), .int .i64 (Int.ofNat k)]
noncomputable def J106i (m pp : Nat) (gg : Nat → Nat → Nat) (k : Nat) : List O := [.row 0 6 m (.flns .f32 6 gg), .row 119 6 (pp * k) (.flns .f32 6 (pc gg pp))]
theorem round106i (m pp : Nat) (gg : Nat → Nat → Nat) (k : Nat) (L : XK → List A → List (Option O) → Prop) :
    ((exec cfg18 (fun _ => true) (look lpi106i) 0 1000 (loopOf Try.f104 0) (litSt Try.f104.ntmps 128 [1, 5, 11, 12, 13] [80, 32] (I106i m pp gg k) (J106i m pp gg k))).rt [1, 5, 11, 12, 13] [80, 32]).Ok L =
    bif decide (Int.ofNat k < Int.ofNat m) then
      bif decide (Int.ofNat k < Int.ofNat m) then
        bif decide (Int.ofNat pp = Int.ofNat pp) && m.beq m && (pp * k).beq (pp * k) && pp.ble 32 && (pp * k).ble 100000 then
          L (XK.normal) ([A.int .i64 (Int.ofNat pp), A.sl 32 (pp * k + pp), A.sl 80 m, A.int .i64 (Int.ofNat m), A.int .i64 (IntKind.i64.wrap (Int.ofNat k + Int.ofNat 1))]) ([some (O.row 0 6 m (Row.flns .f32 6 gg)), some (O.row 119 6 (pp * k + pp) (Row.flns .f32 6 fun p => jnR (pp * k) (pc gg pp) (fun t => pcS (gg k 0) (gg k 1) (gg k 2) (gg k 3) (gg k 4) (gg k 5) pp t) p))])
        else
          False
      else
        False
    else
      L (XK.exit 0) ([A.int .i64 (Int.ofNat pp), A.sl 32 (pp * k), A.sl 80 m, A.int .i64 (Int.ofNat m), A.int .i64 (Int.ofNat k)]) ([some (O.row 0 6 m (Row.flns .f32 6 gg)), some (O.row 119 6 (pp * k) (Row.flns .f32 6 fun j => pc gg pp j))]) := by kernel_rfl
noncomputable def F106i : List A → List (Option O) → Option R3
  | [.int .i64 (.ofNat pp), .sl 32 0, .sl 80 m, .int .i64 q, .int .i64 0], [some (.row 0 6 m2 (.flns .f32 6 gg)), some (.row 119 6 0 g1)] => some (.ite (decide (q = Int.ofNat m) && Nat.beq m m2 && Nat.ble pp 32 && Nat.ble m 1000) (.leaf .normal (I106i m pp gg (m)) (J106i m pp gg (m))) .fail)
  | _, _ => none
theorem loop106i : CodeOK Try.prog (fun _ σ => sumAt Try.f104.ntmps 128 [1, 5, 11, 12, 13] [80, 32] F106i σ) (.block 0 (.loop (loopOf Try.f104 0))) := by
  refine block_ok (own := fun _ => true) (lp := (look lpi106i)) (un := 0) (fuel := 1000) cfg18_ok lpi106i_ok fun az os R hF hok => ?_
  unfold F106i at hF
  split at hF
  · rename_i pp m q m2 gg g1
    injection hF with hF
    subst hF
    have hg := hok.guard
    have hg' := hg
    simp only [Bool.and_eq_true, Nat.ble_eq, Nat.beq_eq, decide_eq_true_eq] at hg'
    obtain ⟨⟨⟨rfl, rfl⟩, hpp⟩, hm⟩ := hg'
    refine for_fact (ids := [80, 32]) (fun _ => true) (m) (I106i m pp gg) (J106i m pp gg) _ (.ret) (I106i m pp gg) (I106i m pp gg) (I106i m pp gg (m)) (J106i m pp gg (m)) rfl (by unfold J106i; exact ⟨⟨0, _, rfl, .inr rfl, fun _ _ => rfl⟩, ⟨119, _, rfl, .inr rfl, fun p hp => absurd hp (by omega)⟩, trivial⟩) (fun _ => rfl) (fun _ => rfl) (fun _ => ALe.self _) (fun _ => rfl) (ALe.self _) (OSims.self _) rfl (fun h => by cases h) (fun k hk L h1 h2 h3 => ?_) fun L hL => ?_
    · rw [round106i]
      by_cases hkm : k < m
      · refine condT (lt_dec hkm) ?_
        have hmul : pp * k ≤ 32 * 1000 := Nat.mul_le_mul hpp (by omega)
        rw [wrap_succ (by omega)]
        refine condT (lt_dec hkm) ?_
        refine condT (by rw [decide_eq_true rfl, Nat.beq_refl, Nat.beq_refl, ble_of hpp, ble_of (show pp * k ≤ 100000 by omega)]; rfl) ?_
        exact h1 hkm rfl _ (by
          unfold J106i
          exact ⟨⟨0, _, rfl, .inr rfl, fun _ _ => rfl⟩, ⟨119, _, rfl, .inr rfl, fun p hp => flns_at fun d _ => pc_step hp d⟩, trivial⟩)
      · refine condE (ge_dec (by omega)) ?_
        obtain rfl : k = m := by omega
        exact h3 rfl
    · exact ⟨fun _ => hL.1 hg, fun N _ h => by cases h⟩
  · cases hF
noncomputable def lp106 : List (Nat × (St → T)) := [(0, sumAt Try.f104.ntmps 128 [1, 5, 11, 12, 13] [80, 32] F106i)]
theorem lp106_ok : LpOK Try.prog (look lp106) (bodyOf Try.f104) := lp_loops (by kernel_rfl) (by kernel_rfl) fun p hp => by
  simp only [lp106, List.mem_cons, List.not_mem_nil, or_false] at hp
  rcases hp with rfl
  · exact loop106i
theorem auto106 (n cur pp : Nat) (x y z : Nat → Nat) (cl : Bool) : autoLp cfg18 (look lp106) Try.f104 [.agg [.ro 3 n (.vecs .f32 x y z), .bool cl, .flt .f32 cur], .int .i64 (.ofNat pp)] =
    some (Nat.ble 1 n && n.ble 1073741824 && (decide (Int.ofNat (cnt n cl) = Int.ofNat (cnt n cl)) && (cnt n cl).beq (cnt n cl) && pp.ble 32 && (cnt n cl).ble 1000 && true), A.ro 6 (pp * cnt n cl) (Row.flns .f32 6 fun j => pc (sg n x y z) pp j)) := by kernel_rfl
noncomputable def s106 : List A → Option (Bool × A)
  | [.agg [.ro 3 n (.vecs .f32 x y z), .bool cl, .flt .f32 cur], .int .i64 (.ofNat pp)] => some (Nat.ble 1 n && Nat.ble n 1000 && Nat.ble pp 32, .ro 6 (pp * cnt n cl) (.flns .f32 6 (pc (sg n x y z) pp)))
  | _ => none
theorem s106_at : EnvAt Try.prog 104 s106 := of_auto cfg18_ok lp106_ok Try.func104 (by kernel_rfl) (by kernel_rfl) fun ds cc rr h hc => by
  unfold s106 at h
  split at h
  · rename_i n x y z cl cur pp
    simp only [Option.some.injEq, Prod.mk.injEq] at h
    obtain ⟨rfl, rfl⟩ := h
    refine auto_fit (auto106 n cur pp x y z cl) ?_ ?_
    · rfl
    · simp only [Bool.and_eq_true, Nat.ble_eq] at hc
      have h3 := cnt_le n cl
      rw [ble_of hc.1.1, ble_of (show n ≤ 1073741824 by omega), decide_eq_true rfl, Nat.beq_refl, ble_of hc.2, ble_of (show cnt n cl ≤ 1000 by omega)]; rfl
  · cases h
end Go.Fw.E1

/-
  The pieces of wires, as the reference has them; sums of pairs.
-/
namespace Go.Fw.E1
open Go.Proofs
noncomputable def env19 : List (Nat × (List A → Option (Bool × A))) := (104, s106) :: env18
theorem env19_ok : EnvOK Try.prog (look env19) := (env_cons s106_at env18_ok)
noncomputable def cfg19 : Cfg := mkCfg tab [] xts (look env19)
theorem cfg19_ok : CfgOK Try.prog cfg19 := cfg_ok tab_eq (no_fts _) xts_ok env19_ok mixed
end Go.Fw.E1

/-
  Sums over all pairs of pieces.
-/
namespace Go.Fw.E1
open Go.Proofs
def psR (u v w : Nat) (q : Nat → Nat → Nat) (th j : Nat) : Nat := root32 (fop .add .f32 (inn (fop .sub .f32 u (q j 3)) (fop .sub .f32 v (q j 4)) (fop .sub .f32 w (q j 5)) (fop .sub .f32 u (q j 3)) (fop .sub .f32 v (q j 4)) (fop .sub .f32 w (q j 5))) (fop .mul .f32 th th))
def psC (u v w : Nat) (q : Nat → Nat → Nat) (th j : Nat) : Bool := forder .f32 (psR u v w q th j) (can .f32 0) == some .gt
def psA (a b c u v w : Nat) (q : Nat → Nat → Nat) (th j s : Nat) : Nat := fop .add .f32 s (fop .quo .f32 (inn a b c (q j 0) (q j 1) (q j 2)) (psR u v w q th j))
def psIn (a b c u v w : Nat) (q : Nat → Nat → Nat) (th s : Nat) : Nat → Nat
  | 0 => s
  | k + 1 => bif psC u v w q th k then psA a b c u v w q th k (psIn a b c u v w q th s k) else psIn a b c u v w q th s k
theorem psIn_t {a b c u v w : Nat} {q : Nat → Nat → Nat} {th s k : Nat} (h : psC u v w q th k = true) : psIn a b c u v w q th s (k + 1) = psA a b c u v w q th k (psIn a b c u v w q th s k) := by simp only [psIn, h, cond_true]
theorem psIn_f {a b c u v w : Nat} {q : Nat → Nat → Nat} {th s k : Nat} (h : psC u v w q th k = false) : psIn a b c u v w q th s (k + 1) = psIn a b c u v w q th s k := by simp only [psIn, h, cond_false]
def psOut (p q : Nat → Nat → Nat) (th lq s : Nat) : Nat → Nat
  | 0 => s
  | k + 1 => psIn (p k 0) (p k 1) (p k 2) (p k 3) (p k 4) (p k 5) q th (psOut p q th lq s k) lq
noncomputable def I114j (lp lq th s a b c u v w : Nat) (p1 p2 : Int) (gg hh : Nat → Nat → Nat) (k : Nat) : List A := [.flt .f32 th, .flt .f32 (psIn a b c u v w hh th s k), .sl 96 lq, .ptr 256 0, .sl 160 lp, .int .i64 p1, .int .i64 p2, .sl 96 lq, .int .i64 (Int.ofNat lq), .int .i64 (Int.ofNat k)]
noncomputable def J114j (lp lq th s a b c u v w : Nat) (p1 p2 : Int) (gg hh : Nat → Nat → Nat) (k : Nat) : List O := [.var [.flt .f32 a, .flt .f32 b, .flt .f32 c, .flt .f32 u, .flt .f32 v, .flt .f32 w], .row 0 6 lp (.flns .f32 6 gg), .row 0 6 lq (.flns .f32 6 hh)]
theorem round114j (lp lq th s a b c u v w : Nat) (p1 p2 : Int) (gg hh : Nat → Nat → Nat) (k : Nat) (L : XK → List A → List (Option O) → Prop) :
    ((exec cfg19 (fun _ => true) (fun _ => none) 0 1000 (loopOf Try.f106 2) (litSt Try.f106.ntmps 336 [2, 9, 10, 12, 22, 23, 24, 28, 29, 30] [256, 160, 96] (I114j lp lq th s a b c u v w p1 p2 gg hh k) (J114j lp lq th s a b c u v w p1 p2 gg hh k))).rt [2, 9, 10, 12, 22, 23, 24, 28, 29, 30] [256, 160, 96]).Ok L =
    bif decide (Int.ofNat k < Int.ofNat lq) then
      bif decide (Int.ofNat k < Int.ofNat lq) then
        bif forder .f32 (root32 (fop .add .f32 (inn (fop .sub .f32 u (hh k 3)) (fop .sub .f32 v (hh k 4)) (fop .sub .f32 w (hh k 5)) (fop .sub .f32 u (hh k 3)) (fop .sub .f32 v (hh k 4)) (fop .sub .f32 w (hh k 5))) (fop .mul .f32 th th))) (can .f32 0) == some Ordering.gt then
          L (XK.normal) ([A.flt .f32 th, A.flt .f32 (fop .add .f32 (psIn a b c u v w hh th s k) (fop .quo .f32 (inn a b c (hh k 0) (hh k 1) (hh k 2)) (root32 (fop .add .f32 (inn (fop .sub .f32 u (hh k 3)) (fop .sub .f32 v (hh k 4)) (fop .sub .f32 w (hh k 5)) (fop .sub .f32 u (hh k 3)) (fop .sub .f32 v (hh k 4)) (fop .sub .f32 w (hh k 5))) (fop .mul .f32 th th))))), A.sl 96 lq, A.ptr 256 0, A.sl 160 lp, A.int .i64 p1, A.int .i64 p2, A.sl 96 lq, A.int .i64 (Int.ofNat lq), A.int .i64 (IntKind.i64.wrap (Int.ofNat k + Int.ofNat 1))]) ([some (O.var [A.flt .f32 a, A.flt .f32 b, A.flt .f32 c, A.flt .f32 u, A.flt .f32 v, A.flt .f32 w]), some (O.row 0 6 lp (Row.flns .f32 6 gg)), some (O.row 0 6 lq (Row.flns .f32 6 hh))])
        else
          L (XK.normal) ([A.flt .f32 th, A.flt .f32 (psIn a b c u v w hh th s k), A.sl 96 lq, A.ptr 256 0, A.sl 160 lp, A.int .i64 p1, A.int .i64 p2, A.sl 96 lq, A.int .i64 (Int.ofNat lq), A.int .i64 (IntKind.i64.wrap (Int.ofNat k + Int.ofNat 1))]) ([some (O.var [A.flt .f32 a, A.flt .f32 b, A.flt .f32 c, A.flt .f32 u, A.flt .f32 v, A.flt .f32 w]), some (O.row 0 6 lp (Row.flns .f32 6 gg)), some (O.row 0 6 lq (Row.flns .f32 6 hh))])
      else
        False
    else
      L (XK.exit 2) ([A.flt .f32 th, A.flt .f32 (psIn a b c u v w hh th s k), A.sl 96 lq, A.ptr 256 0, A.sl 160 lp, A.int .i64 p1, A.int .i64 p2, A.sl 96 lq, A.int .i64 (Int.ofNat lq), A.int .i64 (Int.ofNat k)]) ([some (O.var [A.flt .f32 a, A.flt .f32 b, A.flt .f32 c, A.flt .f32 u, A.flt .f32 v, A.flt .f32 w]), some (O.row 0 6 lp (Row.flns .f32 6 gg)), some (O.row 0 6 lq (Row.flns .f32 6 hh))]) := by kernel_rfl
noncomputable def F114j : List A → List (Option O) → Option R3
  | [.flt .f32 th, .flt .f32 s, .sl 96 lq, .ptr 256 0, .sl 160 lp, .int .i64 p1, .int .i64 p2, .sl 96 lq3, .int .i64 q, .int .i64 0], [some (.var [.flt .f32 a, .flt .f32 b, .flt .f32 c, .flt .f32 u, .flt .f32 v, .flt .f32 w]), some (.row 0 6 lp2 (.flns .f32 6 gg)), some (.row 0 6 lq2 (.flns .f32 6 hh))] => some (.ite (decide (q = Int.ofNat lq) && Nat.beq lp lp2 && Nat.beq lq lq2 && Nat.beq lq lq3 && Nat.ble lq 100000) (.leaf .normal (I114j lp lq th s a b c u v w p1 p2 gg hh (lq)) (J114j lp lq th s a b c u v w p1 p2 gg hh (lq))) .fail)
  | _, _ => none
theorem loop114j : CodeOK Try.prog (fun _ σ => sumAt Try.f106.ntmps 336 [2, 9, 10, 12, 22, 23, 24, 28, 29, 30] [256, 160, 96] F114j σ) (.block 2 (.loop (loopOf Try.f106 2))) := by
  refine block_ok (own := fun _ => true) (lp := (fun _ => none)) (un := 0) (fuel := 1000) cfg19_ok (lp_none _) fun az os R hF hok => ?_
  unfold F114j at hF
  split at hF
  · rename_i th s lq lp p1 p2 lq3 q a b c u v w lp2 gg lq2 hh
    injection hF with hF
    subst hF
    have hg := hok.guard
    have hg' := hg
    simp only [Bool.and_eq_true, Nat.ble_eq, Nat.beq_eq, decide_eq_true_eq] at hg'
    obtain ⟨⟨⟨⟨rfl, rfl⟩, rfl⟩, rfl⟩, hlq⟩ := hg'
    refine for_fact (ids := [256, 160, 96]) (fun _ => true) (lq) (I114j lp lq th s a b c u v w p1 p2 gg hh) (J114j lp lq th s a b c u v w p1 p2 gg hh) _ (.ret) (I114j lp lq th s a b c u v w p1 p2 gg hh) (I114j lp lq th s a b c u v w p1 p2 gg hh) (I114j lp lq th s a b c u v w p1 p2 gg hh (lq)) (J114j lp lq th s a b c u v w p1 p2 gg hh (lq)) rfl (OSims.self _) (fun _ => rfl) (fun _ => rfl) (fun _ => ALe.self _) (fun _ => rfl) (ALe.self _) (OSims.self _) rfl (fun h => by cases h) (fun k hk L h1 h2 h3 => ?_) fun L hL => ?_
    · rw [round114j]
      by_cases hkm : k < lq
      · refine condT (lt_dec hkm) ?_
        rw [wrap_succ (by omega)]
        refine condT (lt_dec hkm) ?_
        show cond (psC u v w hh th k) _ _
        have h := h1 hkm rfl _ (OSims.self (J114j lp lq th s a b c u v w p1 p2 gg hh (k + 1)))
        cases hs : psC u v w hh th k
        · simp only [I114j, psIn_f hs] at h; exact h
        · simp only [I114j, psIn_t hs] at h; exact h
      · refine condE (ge_dec (by omega)) ?_
        obtain rfl : k = lq := by omega
        exact h3 rfl
    · exact ⟨fun _ => hL.1 hg, fun N _ h => by cases h⟩
  · cases hF
noncomputable def lpi114i : List (Nat × (St → T)) := [(2, sumAt Try.f106.ntmps 336 [2, 9, 10, 12, 22, 23, 24, 28, 29, 30] [256, 160, 96] F114j)]
theorem lpi114i_ok : LpOK Try.prog (look lpi114i) (loopOf Try.f106 0) := lp_in (lp_loops (by kernel_rfl) (by kernel_rfl) fun p hp => by
  simp only [lpi114i, List.mem_cons, List.not_mem_nil, or_false] at hp
  rcases hp with rfl
  · exact loop114j) _
noncomputable def I114i (lp lq th s : Nat) (gg hh : Nat → Nat → Nat) (k : Nat) : List A := [.flt .f32 th, .flt .f32 (psOut gg hh th lq s k), .sl 96 lq, .sl 160 lp, .int .i64 (Int.ofNat lp), .int .i64 (Int.ofNat k)]
noncomputable def J114i (lp lq th s : Nat) (gg hh : Nat → Nat → Nat) (k : Nat) : List O := [.row 0 6 lp (.flns .f32 6 gg), .row 0 6 lq (.flns .f32 6 hh)]
theorem round114i (lp lq th s : Nat) (gg hh : Nat → Nat → Nat) (k : Nat) (L : XK → List A → List (Option O) → Prop) :
    ((exec cfg19 (fun _ => true) (look lpi114i) 0 1000 (loopOf Try.f106 0) (litSt Try.f106.ntmps 208 [2, 9, 10, 22, 23, 24] [160, 96] (I114i lp lq th s gg hh k) (J114i lp lq th s gg hh k))).rt [2, 9, 10, 22, 23, 24] [160, 96]).Ok L =
    bif decide (Int.ofNat k < Int.ofNat lp) then
      bif decide (Int.ofNat k < Int.ofNat lp) then
        bif decide (Int.ofNat lq = Int.ofNat lq) && lp.beq lp && lq.beq lq && lq.beq lq && lq.ble 100000 then
          L (XK.normal) ([A.flt .f32 th, A.flt .f32 (psIn (gg k 0) (gg k 1) (gg k 2) (gg k 3) (gg k 4) (gg k 5) hh th (psOut gg hh th lq s k) lq), A.sl 96 lq, A.sl 160 lp, A.int .i64 (Int.ofNat lp), A.int .i64 (IntKind.i64.wrap (Int.ofNat k + Int.ofNat 1))]) ([some (O.row 0 6 lp (Row.flns .f32 6 gg)), some (O.row 0 6 lq (Row.flns .f32 6 hh))])
        else
          False
      else
        False
    else
      L (XK.exit 0) ([A.flt .f32 th, A.flt .f32 (psOut gg hh th lq s k), A.sl 96 lq, A.sl 160 lp, A.int .i64 (Int.ofNat lp), A.int .i64 (Int.ofNat k)]) ([some (O.row 0 6 lp (Row.flns .f32 6 gg)), some (O.row 0 6 lq (Row.flns .f32 6 hh))]) := by kernel_rfl
noncomputable def F114i : List A → List (Option O) → Option R3
  | [.flt .f32 th, .flt .f32 s, .sl 96 lq, .sl 160 lp, .int .i64 q, .int .i64 0], [some (.row 0 6 lp2 (.flns .f32 6 gg)), some (.row 0 6 lq2 (.flns .f32 6 hh))] => some (.ite (decide (q = Int.ofNat lp) && Nat.beq lp lp2 && Nat.beq lq lq2 && Nat.ble lp 100000 && Nat.ble lq 100000) (.leaf .normal (I114i lp lq th s gg hh (lp)) (J114i lp lq th s gg hh (lp))) .fail)
  | _, _ => none
theorem loop114i : CodeOK Try.prog (fun _ σ => sumAt Try.f106.ntmps 208 [2, 9, 10, 22, 23, 24] [160, 96] F114i σ) (.block 0 (.loop (loopOf Try.f106 0))) := by
  refine block_ok (own := fun _ => true) (lp := (look lpi114i)) (un := 0) (fuel := 1000) cfg19_ok lpi114i_ok fun az os R hF hok => ?_
  unfold F114i at hF
  split at hF
  · rename_i th s lq lp q lp2 gg lq2 hh
    injection hF with hF
    subst hF
    have hg := hok.guard
    have hg' := hg
    simp only [Bool.and_eq_true, Nat.ble_eq, Nat.beq_eq, decide_eq_true_eq] at hg'
    obtain ⟨⟨⟨⟨rfl, rfl⟩, rfl⟩, hlp⟩, hlq⟩ := hg'
    refine for_fact (ids := [160, 96]) (fun _ => true) (lp) (I114i lp lq th s gg hh) (J114i lp lq th s gg hh) _ (.ret) (I114i lp lq th s gg hh) (I114i lp lq th s gg hh) (I114i lp lq th s gg hh (lp)) (J114i lp lq th s gg hh (lp)) rfl (OSims.self _) (fun _ => rfl) (fun _ => rfl) (fun _ => ALe.self _) (fun _ => rfl) (ALe.self _) (OSims.self _) rfl (fun h => by cases h) (fun k hk L h1 h2 h3 => ?_) fun L hL => ?_
    · rw [round114i]
      by_cases hkm : k < lp
      · refine condT (lt_dec hkm) ?_
        rw [wrap_succ (by omega)]
        refine condT (lt_dec hkm) ?_
        refine condT (by rw [decide_eq_true rfl, Nat.beq_refl, Nat.beq_refl, ble_of hlq]; rfl) ?_
        exact h1 hkm rfl _ (OSims.self (J114i lp lq th s gg hh (k + 1)))
      · refine condE (ge_dec (by omega)) ?_
        obtain rfl : k = lp := by omega
        exact h3 rfl
    · exact ⟨fun _ => hL.1 hg, fun N _ h => by cases h⟩
  · cases hF
noncomputable def psW (n : Nat) (x y z : Nat → Nat) (cl : Bool) (n2 : Nat) (x2 y2 z2 : Nat → Nat) (cl2 : Bool) (th pp : Nat) : Nat := psOut (pc (sg n x y z) pp) (pc (sg n2 x2 y2 z2) pp) th (pp * cnt n2 cl2) (can .f32 0) (pp * cnt n cl)
theorem pcnt_le {n pp : Nat} {cl : Bool} (hn : n ≤ 1000) (hpp : pp ≤ 32) : pp * cnt n cl ≤ 100000 := by
  have h1 := cnt_le n cl
  have h2 : pp * cnt n cl ≤ 32 * 1000 := Nat.mul_le_mul hpp (by omega)
  omega
noncomputable def lp114 : List (Nat × (St → T)) := [(0, sumAt Try.f106.ntmps 208 [2, 9, 10, 22, 23, 24] [160, 96] F114i)]
theorem lp114_ok : LpOK Try.prog (look lp114) (bodyOf Try.f106) := lp_loops (by kernel_rfl) (by kernel_rfl) fun p hp => by
  simp only [lp114, List.mem_cons, List.not_mem_nil, or_false] at hp
  rcases hp with rfl
  · exact loop114i
theorem auto114 (n cur n2 cur2 th pp : Nat) (x y z x2 y2 z2 : Nat → Nat) (cl cl2 : Bool) : autoLp cfg19 (look lp114) Try.f106 [.agg [.ro 3 n (.vecs .f32 x y z), .bool cl, .flt .f32 cur], .agg [.ro 3 n2 (.vecs .f32 x2 y2 z2), .bool cl2, .flt .f32 cur2], .flt .f32 th, .int .i64 (.ofNat pp)] =
    some (Nat.ble 1 n2 && n2.ble 1000 && pp.ble 32 && (Nat.ble 1 n && n.ble 1000 && pp.ble 32 && (decide (Int.ofNat (pp * cnt n cl) = Int.ofNat (pp * cnt n cl)) && (pp * cnt n cl).beq (pp * cnt n cl) && (pp * cnt n2 cl2).beq (pp * cnt n2 cl2) && (pp * cnt n cl).ble 100000 && (pp * cnt n2 cl2).ble 100000 && true)), A.flt .f32 (psOut (pc (sg n x y z) pp) (pc (sg n2 x2 y2 z2) pp) th (pp * cnt n2 cl2) (can .f32 0) (pp * cnt n cl))) := by kernel_rfl
noncomputable def s114 : List A → Option (Bool × A)
  | [.agg [.ro 3 n (.vecs .f32 x y z), .bool cl, .flt .f32 cur], .agg [.ro 3 n2 (.vecs .f32 x2 y2 z2), .bool cl2, .flt .f32 cur2], .flt .f32 th, .int .i64 (.ofNat pp)] => some (Nat.ble 1 n && Nat.ble n 1000 && Nat.ble 1 n2 && Nat.ble n2 1000 && Nat.ble pp 32, .flt .f32 (psW n x y z cl n2 x2 y2 z2 cl2 th pp))
  | _ => none
theorem s114_at : EnvAt Try.prog 106 s114 := of_auto cfg19_ok lp114_ok Try.func106 (by kernel_rfl) (by kernel_rfl) fun ds cc rr h hc => by
  unfold s114 at h
  split at h
  · rename_i n x y z cl cur n2 x2 y2 z2 cl2 cur2 th pp
    simp only [Option.some.injEq, Prod.mk.injEq] at h
    obtain ⟨rfl, rfl⟩ := h
    refine auto_fit (auto114 n cur n2 cur2 th pp x y z x2 y2 z2 cl cl2) ?_ ?_
    · rfl
    · simp only [Bool.and_eq_true, Nat.ble_eq] at hc
      obtain ⟨⟨⟨⟨k1, k2⟩, k3⟩, k4⟩, k5⟩ := hc
      rw [ble_of k1, ble_of k2, ble_of k3, ble_of k4, ble_of k5, decide_eq_true rfl, Nat.beq_refl, Nat.beq_refl, ble_of (pcnt_le (cl := cl) k2 k5), ble_of (pcnt_le (cl := cl2) k4 k5)]; rfl
  · cases h
end Go.Fw.E1

/-
  The sum over pairs of pieces of two wires: the law.
-/
namespace Go.Fw.E1
open Go.Proofs
noncomputable def env20 : List (Nat × (List A → Option (Bool × A))) := (106, s114) :: env19
theorem env20_ok : EnvOK Try.prog (look env20) := (env_cons s114_at env19_ok)
noncomputable def two (n cur : Nat) (x y z : Nat → Nat) (n2 cur2 : Nat) (x2 y2 z2 : Nat → Nat) (th : Nat) (p : Int) : Bool := bif bif bif okW n cur x y z then okW n2 cur2 x2 y2 z2 else false then least th else false then inI p 1 8 else false
theorem two_ok {n cur : Nat} {x y z : Nat → Nat} {n2 cur2 : Nat} {x2 y2 z2 : Nat → Nat} {th : Nat} {p : Int} (h : two n cur x y z n2 cur2 x2 y2 z2 th p = true) : (2 ≤ n ∧ n ≤ 48) ∧ (2 ≤ n2 ∧ n2 ≤ 48) ∧ 1 ≤ p ∧ p ≤ 8 := by
  unfold two at h
  cases h1 : okW n cur x y z
  · rw [h1] at h; cases h
  cases h2 : okW n2 cur2 x2 y2 z2
  · rw [h1, h2] at h; cases h
  rw [h1, h2] at h
  cases h3 : least th
  · rw [h3] at h; cases h
  rw [h3] at h
  have h4 : inI p 1 8 = true := h
  unfold inI at h4
  cases h5 : decide (p ≥ 1)
  · rw [h5] at h4; cases h4
  · rw [h5] at h4
    exact ⟨okW_n h1, okW_n h2, of_decide_eq_true h5, of_decide_eq_true h4⟩
theorem not_two (n cur : Nat) (x y z : Nat → Nat) (n2 cur2 : Nat) (x2 y2 z2 : Nat → Nat) (th : Nat) (p : Int) : (bif bif bif !okW n cur x y z then true else !okW n2 cur2 x2 y2 z2 then true else !least th then true else !inI p (Int.ofNat 1) (Int.ofNat 8)) = !two n cur x y z n2 cur2 x2 y2 z2 th p := by
  show (bif bif bif !okW n cur x y z then true else !okW n2 cur2 x2 y2 z2 then true else !least th then true else !inI p 1 8) = _
  unfold two
  cases okW n cur x y z <;> cases okW n2 cur2 x2 y2 z2 <;> cases least th <;> cases inI p 1 8 <;> rfl
theorem two_neg (n cur : Nat) (x y z : Nat → Nat) (n2 cur2 : Nat) (x2 y2 z2 : Nat → Nat) (th pp : Nat) : two n cur x y z n2 cur2 x2 y2 z2 th (Int.negSucc pp) = false := by
  cases h : two n cur x y z n2 cur2 x2 y2 z2 th (Int.negSucc pp)
  · rfl
  · have := (two_ok h).2.2.1; omega
noncomputable def env21 : List (Nat × (List A → Option (Bool × A))) := env20
theorem env21_ok : EnvOK Try.prog (look env21) := env20_ok
noncomputable def cfg21 : Cfg := mkCfg tab [] xts (look env21)
theorem cfg21_ok : CfgOK Try.prog cfg21 := cfg_ok tab_eq (no_fts _) xts_ok env21_ok mixed
noncomputable def psOk (n cur : Nat) (x y z : Nat → Nat) (cl : Bool) (n2 cur2 : Nat) (x2 y2 z2 : Nat → Nat) (cl2 : Bool) (th pp : Nat) : Bool := two n cur x y z n2 cur2 x2 y2 z2 th (Int.ofNat pp) && fin (psW n x y z cl n2 x2 y2 z2 cl2 th pp)
theorem auto50a (n cur n2 cur2 th pp : Nat) (x y z x2 y2 z2 : Nat → Nat) (cl cl2 : Bool) : autoLp cfg21 (fun _ => none) Try.f58 [.agg [.ro 3 n (.vecs .f32 x y z), .bool cl, .flt .f32 cur], .agg [.ro 3 n2 (.vecs .f32 x2 y2 z2), .bool cl2, .flt .f32 cur2], .flt .f32 th, .int .i64 (.ofNat pp)] =
    some (n.ble 4611686018427387000 && ((n2.ble 4611686018427387000 || !(!okW n cur x y z) == false) && bif bif bif bif !okW n cur x y z then true else !okW n2 cur2 x2 y2 z2 then true else !least th then true else !inI (Int.ofNat pp) (Int.ofNat 1) (Int.ofNat 8) then true else Nat.ble 1 n && n.ble 1000 && Nat.ble 1 n2 && n2.ble 1000 && pp.ble 32 && true), A.tup [A.flt .f32 (bif bif bif bif !okW n cur x y z then true else !okW n2 cur2 x2 y2 z2 then true else !least th then true else !inI (Int.ofNat pp) (Int.ofNat 1) (Int.ofNat 8) then can .f32 0 else bif fin (psW n x y z cl n2 x2 y2 z2 cl2 th pp) then psW n x y z cl n2 x2 y2 z2 cl2 th pp else can .f32 0), A.bool (bif bif bif bif !okW n cur x y z then true else !okW n2 cur2 x2 y2 z2 then true else !least th then true else !inI (Int.ofNat pp) (Int.ofNat 1) (Int.ofNat 8) then false else fin (psW n x y z cl n2 x2 y2 z2 cl2 th pp))]) := by kernel_rfl
noncomputable def s50a : List A → Option (Bool × A)
  | [.agg [.ro 3 n (.vecs .f32 x y z), .bool cl, .flt .f32 cur], .agg [.ro 3 n2 (.vecs .f32 x2 y2 z2), .bool cl2, .flt .f32 cur2], .flt .f32 th, .int .i64 (.ofNat pp)] => some (Nat.ble n 1048576 && Nat.ble n2 1048576, .tup [.flt .f32 (bif psOk n cur x y z cl n2 cur2 x2 y2 z2 cl2 th pp then psW n x y z cl n2 x2 y2 z2 cl2 th pp else can .f32 0), .bool (psOk n cur x y z cl n2 cur2 x2 y2 z2 cl2 th pp)])
  | _ => none
theorem s50a_at : EnvAt Try.prog 58 s50a := of_auto cfg21_ok (lp_none _) Try.func58 (by kernel_rfl) (by kernel_rfl) fun ds cc rr h hc => by
  unfold s50a at h
  split at h
  · rename_i n x y z cl cur n2 x2 y2 z2 cl2 cur2 th pp
    simp only [Option.some.injEq, Prod.mk.injEq] at h
    obtain ⟨rfl, rfl⟩ := h
    refine auto_fit (auto50a n cur n2 cur2 th pp x y z x2 y2 z2 cl cl2) ?_ ?_
    · rw [not_two]
      unfold psOk
      cases two n cur x y z n2 cur2 x2 y2 z2 th (Int.ofNat pp) <;> rfl
    · simp only [Bool.and_eq_true, Nat.ble_eq] at hc
      rw [ble_of (show n ≤ 4611686018427387000 by omega), ble_of (show n2 ≤ 4611686018427387000 by omega), not_two]
      cases ht : two n cur x y z n2 cur2 x2 y2 z2 th (Int.ofNat pp)
      · simp
      · obtain ⟨k1, k2, k3, k4⟩ := two_ok ht
        simp at k4
        rw [ble_of (show 1 ≤ n by omega), ble_of (show n ≤ 1000 by omega), ble_of (show 1 ≤ n2 by omega), ble_of (show n2 ≤ 1000 by omega), ble_of (show pp ≤ 32 by omega)]
        simp
  · cases h
theorem auto50b (n cur n2 cur2 th pp : Nat) (x y z x2 y2 z2 : Nat → Nat) (cl cl2 : Bool) : autoLp cfg21 (fun _ => none) Try.f58 [.agg [.ro 3 n (.vecs .f32 x y z), .bool cl, .flt .f32 cur], .agg [.ro 3 n2 (.vecs .f32 x2 y2 z2), .bool cl2, .flt .f32 cur2], .flt .f32 th, .int .i64 (.negSucc pp)] =
    some (n.ble 4611686018427387000 && ((n2.ble 4611686018427387000 || !(!okW n cur x y z) == false) && ((bif bif bif !okW n cur x y z then true else !okW n2 cur2 x2 y2 z2 then true else !least th then true else !inI (Int.negSucc pp) (Int.ofNat 1) (Int.ofNat 8)) && true)), A.tup [A.flt .f32 (can .f32 0), A.bool false]) := by kernel_rfl
noncomputable def s50b : List A → Option (Bool × A)
  | [.agg [.ro 3 n (.vecs .f32 x y z), .bool cl, .flt .f32 cur], .agg [.ro 3 n2 (.vecs .f32 x2 y2 z2), .bool cl2, .flt .f32 cur2], .flt .f32 th, .int .i64 (.negSucc pp)] => some (Nat.ble n 1048576 && Nat.ble n2 1048576, .tup [.flt .f32 (can .f32 0), .bool false])
  | _ => none
theorem s50b_at : EnvAt Try.prog 58 s50b := of_auto cfg21_ok (lp_none _) Try.func58 (by kernel_rfl) (by kernel_rfl) fun ds cc rr h hc => by
  unfold s50b at h
  split at h
  · rename_i n x y z cl cur n2 x2 y2 z2 cl2 cur2 th pp
    simp only [Option.some.injEq, Prod.mk.injEq] at h
    obtain ⟨rfl, rfl⟩ := h
    refine auto_fit (auto50b n cur n2 cur2 th pp x y z x2 y2 z2 cl cl2) ?_ ?_
    · rfl
    · simp only [Bool.and_eq_true, Nat.ble_eq] at hc
      rw [ble_of (show n ≤ 4611686018427387000 by omega), ble_of (show n2 ≤ 4611686018427387000 by omega), not_two, two_neg]
      simp
  · cases h
noncomputable def s50 : List A → Option (Bool × A)
  | [a, b, t, .int .i64 (.ofNat pp)] => s50a [a, b, t, .int .i64 (.ofNat pp)]
  | ds => s50b ds
theorem s50_at : EnvAt Try.prog 58 s50 := by
  refine ⟨s50a_at.1, fun ds c r h hc => ?_⟩
  unfold s50 at h
  split at h
  · exact s50a_at.2 _ _ _ h hc
  · exact s50b_at.2 _ _ _ h hc
noncomputable def env22 : List (Nat × (List A → Option (Bool × A))) := (58, s50) :: env21
theorem env22_ok : EnvOK Try.prog (look env22) := (env_cons s50_at env21_ok)
noncomputable def cfg22 : Cfg := mkCfg tab [] xts (look env22)
theorem cfg22_ok : CfgOK Try.prog cfg22 := cfg_ok tab_eq (no_fts _) xts_ok env22_ok mixed
end Go.Fw.E1

/-
  Forces between wires: sums over all pairs of pieces.
-/
namespace Go.Fw.E1
open Go.Proofs
def fbQ (u v w : Nat) (q : Nat → Nat → Nat) (j : Nat) : Nat := inn (fop .sub .f32 u (q j 3)) (fop .sub .f32 v (q j 4)) (fop .sub .f32 w (q j 5)) (fop .sub .f32 u (q j 3)) (fop .sub .f32 v (q j 4)) (fop .sub .f32 w (q j 5))
def fbC (u v w : Nat) (q : Nat → Nat → Nat) (j : Nat) : Bool := forder .f32 (fbQ u v w q j) (can .f32 0) == some .gt
def fbF (a b c u v w : Nat) (q : Nat → Nat → Nat) (j : Nat) : Nat := fop .quo .f32 (fneg .f32 (inn a b c (q j 0) (q j 1) (q j 2))) (fop .mul .f32 (fbQ u v w q j) (root32 (fbQ u v w q j)))
def fbX (a b c u v w : Nat) (q : Nat → Nat → Nat) (s : Nat) : Nat → Nat
  | 0 => s
  | k + 1 => bif fbC u v w q k then fop .add .f32 (fbX a b c u v w q s k) (fop .mul .f32 (fop .sub .f32 u (q k 3)) (fbF a b c u v w q k)) else fbX a b c u v w q s k
theorem fbX_t {a b c u v w : Nat} {q : Nat → Nat → Nat} {s k : Nat} (h : fbC u v w q k = true) : fbX a b c u v w q s (k + 1) = fop .add .f32 (fbX a b c u v w q s k) (fop .mul .f32 (fop .sub .f32 u (q k 3)) (fbF a b c u v w q k)) := by simp only [fbX, h, cond_true]
theorem fbX_f {a b c u v w : Nat} {q : Nat → Nat → Nat} {s k : Nat} (h : fbC u v w q k = false) : fbX a b c u v w q s (k + 1) = fbX a b c u v w q s k := by simp only [fbX, h, cond_false]
def foX (p q : Nat → Nat → Nat) (lq s : Nat) : Nat → Nat
  | 0 => s
  | k + 1 => fbX (p k 0) (p k 1) (p k 2) (p k 3) (p k 4) (p k 5) q (foX p q lq s k) lq
def fbY (a b c u v w : Nat) (q : Nat → Nat → Nat) (s : Nat) : Nat → Nat
  | 0 => s
  | k + 1 => bif fbC u v w q k then fop .add .f32 (fbY a b c u v w q s k) (fop .mul .f32 (fop .sub .f32 v (q k 4)) (fbF a b c u v w q k)) else fbY a b c u v w q s k
theorem fbY_t {a b c u v w : Nat} {q : Nat → Nat → Nat} {s k : Nat} (h : fbC u v w q k = true) : fbY a b c u v w q s (k + 1) = fop .add .f32 (fbY a b c u v w q s k) (fop .mul .f32 (fop .sub .f32 v (q k 4)) (fbF a b c u v w q k)) := by simp only [fbY, h, cond_true]
theorem fbY_f {a b c u v w : Nat} {q : Nat → Nat → Nat} {s k : Nat} (h : fbC u v w q k = false) : fbY a b c u v w q s (k + 1) = fbY a b c u v w q s k := by simp only [fbY, h, cond_false]
def foY (p q : Nat → Nat → Nat) (lq s : Nat) : Nat → Nat
  | 0 => s
  | k + 1 => fbY (p k 0) (p k 1) (p k 2) (p k 3) (p k 4) (p k 5) q (foY p q lq s k) lq
def fbZ (a b c u v w : Nat) (q : Nat → Nat → Nat) (s : Nat) : Nat → Nat
  | 0 => s
  | k + 1 => bif fbC u v w q k then fop .add .f32 (fbZ a b c u v w q s k) (fop .mul .f32 (fop .sub .f32 w (q k 5)) (fbF a b c u v w q k)) else fbZ a b c u v w q s k
theorem fbZ_t {a b c u v w : Nat} {q : Nat → Nat → Nat} {s k : Nat} (h : fbC u v w q k = true) : fbZ a b c u v w q s (k + 1) = fop .add .f32 (fbZ a b c u v w q s k) (fop .mul .f32 (fop .sub .f32 w (q k 5)) (fbF a b c u v w q k)) := by simp only [fbZ, h, cond_true]
theorem fbZ_f {a b c u v w : Nat} {q : Nat → Nat → Nat} {s k : Nat} (h : fbC u v w q k = false) : fbZ a b c u v w q s (k + 1) = fbZ a b c u v w q s k := by simp only [fbZ, h, cond_false]
def foZ (p q : Nat → Nat → Nat) (lq s : Nat) : Nat → Nat
  | 0 => s
  | k + 1 => fbZ (p k 0) (p k 1) (p k 2) (p k 3) (p k 4) (p k 5) q (foZ p q lq s k) lq
noncomputable def I48j (lp lq s t r a b c u v w : Nat) (p1 p2 : Int) (gg hh : Nat → Nat → Nat) (n cur n2 cur2 : Nat) (x y z x2 y2 z2 : Nat → Nat) (cl cl2 : Bool) (k : Nat) : List A := [.ptr 0 0, .ptr 16 0, .ptr 32 0, .bool false, .ptr 288 0, .sl 352 lq, .ptr 512 0, .sl 416 lp, .int .i64 p1, .int .i64 p2, .sl 352 lq, .int .i64 (Int.ofNat lq), .int .i64 (Int.ofNat k)]
noncomputable def J48j (lp lq s t r a b c u v w : Nat) (p1 p2 : Int) (gg hh : Nat → Nat → Nat) (n cur n2 cur2 : Nat) (x y z x2 y2 z2 : Nat → Nat) (cl cl2 : Bool) (k : Nat) : List O := [.var [.flt .f32 a, .flt .f32 b, .flt .f32 c, .flt .f32 u, .flt .f32 v, .flt .f32 w], .var [.flt .f32 (fbX a b c u v w hh s k), .flt .f32 (fbY a b c u v w hh t k), .flt .f32 (fbZ a b c u v w hh r k)], .row 0 6 lq (.flns .f32 6 hh), .row 0 6 lp (.flns .f32 6 gg), .var [.flt .f32 0, .flt .f32 0, .flt .f32 0], .var [.ro 3 n2 (.vecs .f32 x2 y2 z2), .bool cl2, .flt .f32 cur2], .var [.ro 3 n (.vecs .f32 x y z), .bool cl, .flt .f32 cur]]
theorem round48j (lp lq s t r a b c u v w : Nat) (p1 p2 : Int) (gg hh : Nat → Nat → Nat) (n cur n2 cur2 : Nat) (x y z x2 y2 z2 : Nat → Nat) (cl cl2 : Bool) (k : Nat) (L : XK → List A → List (Option O) → Prop) :
    ((exec cfg22 (fun _ => true) (fun _ => none) 0 1000 (loopOf Try.f53 2) (litSt Try.f53.ntmps 592 [3, 4, 6, 7, 8, 9, 11, 36, 37, 38, 42, 43, 44] [512, 288, 352, 416, 32, 16, 0] (I48j lp lq s t r a b c u v w p1 p2 gg hh n cur n2 cur2 x y z x2 y2 z2 cl cl2 k) (J48j lp lq s t r a b c u v w p1 p2 gg hh n cur n2 cur2 x y z x2 y2 z2 cl cl2 k))).rt [3, 4, 6, 7, 8, 9, 11, 36, 37, 38, 42, 43, 44] [512, 288, 352, 416, 32, 16, 0]).Ok L =
    bif decide (Int.ofNat k < Int.ofNat lq) then
      bif decide (Int.ofNat k < Int.ofNat lq) then
        bif forder .f32 (inn (fop .sub .f32 u (hh k 3)) (fop .sub .f32 v (hh k 4)) (fop .sub .f32 w (hh k 5)) (fop .sub .f32 u (hh k 3)) (fop .sub .f32 v (hh k 4)) (fop .sub .f32 w (hh k 5))) (can .f32 0) == some Ordering.gt then
          L (XK.normal) ([A.ptr 0 0, A.ptr 16 0, A.ptr 32 0, A.bool false, A.ptr 288 0, A.sl 352 lq, A.ptr 512 0, A.sl 416 lp, A.int .i64 p1, A.int .i64 p2, A.sl 352 lq, A.int .i64 (Int.ofNat lq), A.int .i64 (IntKind.i64.wrap (Int.ofNat k + Int.ofNat 1))]) ([some (O.var [A.flt .f32 a, A.flt .f32 b, A.flt .f32 c, A.flt .f32 u, A.flt .f32 v, A.flt .f32 w]), some (O.var [A.flt .f32 (fop .add .f32 (fbX a b c u v w hh s k) (fop .mul .f32 (fop .sub .f32 u (hh k 3)) (fop .quo .f32 (fneg .f32 (inn a b c (hh k 0) (hh k 1) (hh k 2))) (fop .mul .f32 (inn (fop .sub .f32 u (hh k 3)) (fop .sub .f32 v (hh k 4)) (fop .sub .f32 w (hh k 5)) (fop .sub .f32 u (hh k 3)) (fop .sub .f32 v (hh k 4)) (fop .sub .f32 w (hh k 5))) (root32 (inn (fop .sub .f32 u (hh k 3)) (fop .sub .f32 v (hh k 4)) (fop .sub .f32 w (hh k 5)) (fop .sub .f32 u (hh k 3)) (fop .sub .f32 v (hh k 4)) (fop .sub .f32 w (hh k 5)))))))), A.flt .f32 (fop .add .f32 (fbY a b c u v w hh t k) (fop .mul .f32 (fop .sub .f32 v (hh k 4)) (fop .quo .f32 (fneg .f32 (inn a b c (hh k 0) (hh k 1) (hh k 2))) (fop .mul .f32 (inn (fop .sub .f32 u (hh k 3)) (fop .sub .f32 v (hh k 4)) (fop .sub .f32 w (hh k 5)) (fop .sub .f32 u (hh k 3)) (fop .sub .f32 v (hh k 4)) (fop .sub .f32 w (hh k 5))) (root32 (inn (fop .sub .f32 u (hh k 3)) (fop .sub .f32 v (hh k 4)) (fop .sub .f32 w (hh k 5)) (fop .sub .f32 u (hh k 3)) (fop .sub .f32 v (hh k 4)) (fop .sub .f32 w (hh k 5)))))))), A.flt .f32 (fop .add .f32 (fbZ a b c u v w hh r k) (fop .mul .f32 (fop .sub .f32 w (hh k 5)) (fop .quo .f32 (fneg .f32 (inn a b c (hh k 0) (hh k 1) (hh k 2))) (fop .mul .f32 (inn (fop .sub .f32 u (hh k 3)) (fop .sub .f32 v (hh k 4)) (fop .sub .f32 w (hh k 5)) (fop .sub .f32 u (hh k 3)) (fop .sub .f32 v (hh k 4)) (fop .sub .f32 w (hh k 5))) (root32 (inn (fop .sub .f32 u (hh k 3)) (fop .sub .f32 v (hh k 4)) (fop .sub .f32 w (hh k 5)) (fop .sub .f32 u (hh k 3)) (fop .sub .f32 v (hh k 4)) (fop .sub .f32 w (hh k 5))))))))]), some (O.row 0 6 lq (Row.flns .f32 6 hh)), some (O.row 0 6 lp (Row.flns .f32 6 gg)), some (O.var [A.flt .f32 0, A.flt .f32 0, A.flt .f32 0]), some (O.var [A.ro 3 n2 (Row.vecs .f32 x2 y2 z2), A.bool cl2, A.flt .f32 cur2]), some (O.var [A.ro 3 n (Row.vecs .f32 x y z), A.bool cl, A.flt .f32 cur])])
        else
          L (XK.normal) ([A.ptr 0 0, A.ptr 16 0, A.ptr 32 0, A.bool false, A.ptr 288 0, A.sl 352 lq, A.ptr 512 0, A.sl 416 lp, A.int .i64 p1, A.int .i64 p2, A.sl 352 lq, A.int .i64 (Int.ofNat lq), A.int .i64 (IntKind.i64.wrap (Int.ofNat k + Int.ofNat 1))]) ([some (O.var [A.flt .f32 a, A.flt .f32 b, A.flt .f32 c, A.flt .f32 u, A.flt .f32 v, A.flt .f32 w]), some (O.var [A.flt .f32 (fbX a b c u v w hh s k), A.flt .f32 (fbY a b c u v w hh t k), A.flt .f32 (fbZ a b c u v w hh r k)]), some (O.row 0 6 lq (Row.flns .f32 6 hh)), some (O.row 0 6 lp (Row.flns .f32 6 gg)), some (O.var [A.flt .f32 0, A.flt .f32 0, A.flt .f32 0]), some (O.var [A.ro 3 n2 (Row.vecs .f32 x2 y2 z2), A.bool cl2, A.flt .f32 cur2]), some (O.var [A.ro 3 n (Row.vecs .f32 x y z), A.bool cl, A.flt .f32 cur])])
      else
        False
    else
      L (XK.exit 2) ([A.ptr 0 0, A.ptr 16 0, A.ptr 32 0, A.bool false, A.ptr 288 0, A.sl 352 lq, A.ptr 512 0, A.sl 416 lp, A.int .i64 p1, A.int .i64 p2, A.sl 352 lq, A.int .i64 (Int.ofNat lq), A.int .i64 (Int.ofNat k)]) ([some (O.var [A.flt .f32 a, A.flt .f32 b, A.flt .f32 c, A.flt .f32 u, A.flt .f32 v, A.flt .f32 w]), some (O.var [A.flt .f32 (fbX a b c u v w hh s k), A.flt .f32 (fbY a b c u v w hh t k), A.flt .f32 (fbZ a b c u v w hh r k)]), some (O.row 0 6 lq (Row.flns .f32 6 hh)), some (O.row 0 6 lp (Row.flns .f32 6 gg)), some (O.var [A.flt .f32 0, A.flt .f32 0, A.flt .f32 0]), some (O.var [A.ro 3 n2 (Row.vecs .f32 x2 y2 z2), A.bool cl2, A.flt .f32 cur2]), some (O.var [A.ro 3 n (Row.vecs .f32 x y z), A.bool cl, A.flt .f32 cur])]) := by kernel_rfl
noncomputable def F48j : List A → List (Option O) → Option R3
  | [.ptr 0 0, .ptr 16 0, .ptr 32 0, .bool false, .ptr 288 0, .sl 352 lq, .ptr 512 0, .sl 416 lp, .int .i64 p1, .int .i64 p2, .sl 352 lq3, .int .i64 q, .int .i64 0], [some (.var [.flt .f32 a, .flt .f32 b, .flt .f32 c, .flt .f32 u, .flt .f32 v, .flt .f32 w]), some (.var [.flt .f32 s, .flt .f32 t, .flt .f32 r]), some (.row 0 6 lq2 (.flns .f32 6 hh)), some (.row 0 6 lp2 (.flns .f32 6 gg)), some (.var [.flt .f32 0, .flt .f32 0, .flt .f32 0]), some (.var [.ro 3 n2 (.vecs .f32 x2 y2 z2), .bool cl2, .flt .f32 cur2]), some (.var [.ro 3 n (.vecs .f32 x y z), .bool cl, .flt .f32 cur])] => some (.ite (decide (q = Int.ofNat lq) && Nat.beq lp lp2 && Nat.beq lq lq2 && Nat.beq lq lq3 && Nat.ble lq 100000) (.leaf .normal (I48j lp lq s t r a b c u v w p1 p2 gg hh n cur n2 cur2 x y z x2 y2 z2 cl cl2 (lq)) (J48j lp lq s t r a b c u v w p1 p2 gg hh n cur n2 cur2 x y z x2 y2 z2 cl cl2 (lq))) .fail)
  | _, _ => none
theorem loop48j : CodeOK Try.prog (fun _ σ => sumAt Try.f53.ntmps 592 [3, 4, 6, 7, 8, 9, 11, 36, 37, 38, 42, 43, 44] [512, 288, 352, 416, 32, 16, 0] F48j σ) (.block 2 (.loop (loopOf Try.f53 2))) := by
  refine block_ok (own := fun _ => true) (lp := (fun _ => none)) (un := 0) (fuel := 1000) cfg22_ok (lp_none _) fun az os R hF hok => ?_
  unfold F48j at hF
  split at hF
  · rename_i lq lp p1 p2 lq3 q a b c u v w s t r lq2 hh lp2 gg n2 x2 y2 z2 cl2 cur2 n x y z cl cur
    injection hF with hF
    subst hF
    have hg := hok.guard
    have hg' := hg
    simp only [Bool.and_eq_true, Nat.ble_eq, Nat.beq_eq, decide_eq_true_eq] at hg'
    obtain ⟨⟨⟨⟨rfl, rfl⟩, rfl⟩, rfl⟩, hlq⟩ := hg'
    refine for_fact (ids := [512, 288, 352, 416, 32, 16, 0]) (fun _ => true) (lq) (I48j lp lq s t r a b c u v w p1 p2 gg hh n cur n2 cur2 x y z x2 y2 z2 cl cl2) (J48j lp lq s t r a b c u v w p1 p2 gg hh n cur n2 cur2 x y z x2 y2 z2 cl cl2) _ (.ret) (I48j lp lq s t r a b c u v w p1 p2 gg hh n cur n2 cur2 x y z x2 y2 z2 cl cl2) (I48j lp lq s t r a b c u v w p1 p2 gg hh n cur n2 cur2 x y z x2 y2 z2 cl cl2) (I48j lp lq s t r a b c u v w p1 p2 gg hh n cur n2 cur2 x y z x2 y2 z2 cl cl2 (lq)) (J48j lp lq s t r a b c u v w p1 p2 gg hh n cur n2 cur2 x y z x2 y2 z2 cl cl2 (lq)) rfl (OSims.self _) (fun _ => rfl) (fun _ => rfl) (fun _ => ALe.self _) (fun _ => rfl) (ALe.self _) (OSims.self _) rfl (fun h => by cases h) (fun k hk L h1 h2 h3 => ?_) fun L hL => ?_
    · rw [round48j]
      by_cases hkm : k < lq
      · refine condT (lt_dec hkm) ?_
        rw [wrap_succ (by omega)]
        refine condT (lt_dec hkm) ?_
        show cond (fbC u v w hh k) _ _
        cases hs : fbC u v w hh k
        · exact h1 hkm rfl _ (by unfold J48j; rw [fbX_f hs, fbY_f hs, fbZ_f hs]; exact OSims.self [_, _, _, _, _, _, _])
        · exact h1 hkm rfl _ (by unfold J48j; rw [fbX_t hs, fbY_t hs, fbZ_t hs]; exact OSims.self [_, _, _, _, _, _, _])
      · refine condE (ge_dec (by omega)) ?_
        obtain rfl : k = lq := by omega
        exact h3 rfl
    · exact ⟨fun _ => hL.1 hg, fun N _ h => by cases h⟩
  · cases hF
noncomputable def lpi48i : List (Nat × (St → T)) := [(2, sumAt Try.f53.ntmps 592 [3, 4, 6, 7, 8, 9, 11, 36, 37, 38, 42, 43, 44] [512, 288, 352, 416, 32, 16, 0] F48j)]
theorem lpi48i_ok : LpOK Try.prog (look lpi48i) (loopOf Try.f53 0) := lp_in (lp_loops (by kernel_rfl) (by kernel_rfl) fun p hp => by
  simp only [lpi48i, List.mem_cons, List.not_mem_nil, or_false] at hp
  rcases hp with rfl
  · exact loop48j) _
noncomputable def I48i (lp lq s t r : Nat) (gg hh : Nat → Nat → Nat) (n cur n2 cur2 : Nat) (x y z x2 y2 z2 : Nat → Nat) (cl cl2 : Bool) (k : Nat) : List A := [.ptr 0 0, .ptr 16 0, .ptr 32 0, .bool false, .ptr 288 0, .sl 352 lq, .sl 416 lp, .int .i64 (Int.ofNat lp), .int .i64 (Int.ofNat k)]
noncomputable def J48i (lp lq s t r : Nat) (gg hh : Nat → Nat → Nat) (n cur n2 cur2 : Nat) (x y z x2 y2 z2 : Nat → Nat) (cl cl2 : Bool) (k : Nat) : List O := [.var [.flt .f32 (foX gg hh lq s k), .flt .f32 (foY gg hh lq t k), .flt .f32 (foZ gg hh lq r k)], .row 0 6 lq (.flns .f32 6 hh), .row 0 6 lp (.flns .f32 6 gg), .var [.flt .f32 0, .flt .f32 0, .flt .f32 0], .var [.ro 3 n2 (.vecs .f32 x2 y2 z2), .bool cl2, .flt .f32 cur2], .var [.ro 3 n (.vecs .f32 x y z), .bool cl, .flt .f32 cur]]
theorem round48i (lp lq s t r : Nat) (gg hh : Nat → Nat → Nat) (n cur n2 cur2 : Nat) (x y z x2 y2 z2 : Nat → Nat) (cl cl2 : Bool) (k : Nat) (L : XK → List A → List (Option O) → Prop) :
    ((exec cfg22 (fun _ => true) (look lpi48i) 0 1000 (loopOf Try.f53 0) (litSt Try.f53.ntmps 464 [3, 4, 6, 7, 8, 9, 36, 37, 38] [288, 352, 416, 32, 16, 0] (I48i lp lq s t r gg hh n cur n2 cur2 x y z x2 y2 z2 cl cl2 k) (J48i lp lq s t r gg hh n cur n2 cur2 x y z x2 y2 z2 cl cl2 k))).rt [3, 4, 6, 7, 8, 9, 36, 37, 38] [288, 352, 416, 32, 16, 0]).Ok L =
    bif decide (Int.ofNat k < Int.ofNat lp) then
      bif decide (Int.ofNat k < Int.ofNat lp) then
        bif decide (Int.ofNat lq = Int.ofNat lq) && lp.beq lp && lq.beq lq && lq.beq lq && lq.ble 100000 then
          L (XK.normal) ([A.ptr 0 0, A.ptr 16 0, A.ptr 32 0, A.bool false, A.ptr 288 0, A.sl 352 lq, A.sl 416 lp, A.int .i64 (Int.ofNat lp), A.int .i64 (IntKind.i64.wrap (Int.ofNat k + Int.ofNat 1))]) ([some (O.var [A.flt .f32 (fbX (gg k 0) (gg k 1) (gg k 2) (gg k 3) (gg k 4) (gg k 5) hh (foX gg hh lq s k) lq), A.flt .f32 (fbY (gg k 0) (gg k 1) (gg k 2) (gg k 3) (gg k 4) (gg k 5) hh (foY gg hh lq t k) lq), A.flt .f32 (fbZ (gg k 0) (gg k 1) (gg k 2) (gg k 3) (gg k 4) (gg k 5) hh (foZ gg hh lq r k) lq)]), some (O.row 0 6 lq (Row.flns .f32 6 hh)), some (O.row 0 6 lp (Row.flns .f32 6 gg)), some (O.var [A.flt .f32 0, A.flt .f32 0, A.flt .f32 0]), some (O.var [A.ro 3 n2 (Row.vecs .f32 x2 y2 z2), A.bool cl2, A.flt .f32 cur2]), some (O.var [A.ro 3 n (Row.vecs .f32 x y z), A.bool cl, A.flt .f32 cur])])
        else
          False
      else
        False
    else
      L (XK.exit 0) ([A.ptr 0 0, A.ptr 16 0, A.ptr 32 0, A.bool false, A.ptr 288 0, A.sl 352 lq, A.sl 416 lp, A.int .i64 (Int.ofNat lp), A.int .i64 (Int.ofNat k)]) ([some (O.var [A.flt .f32 (foX gg hh lq s k), A.flt .f32 (foY gg hh lq t k), A.flt .f32 (foZ gg hh lq r k)]), some (O.row 0 6 lq (Row.flns .f32 6 hh)), some (O.row 0 6 lp (Row.flns .f32 6 gg)), some (O.var [A.flt .f32 0, A.flt .f32 0, A.flt .f32 0]), some (O.var [A.ro 3 n2 (Row.vecs .f32 x2 y2 z2), A.bool cl2, A.flt .f32 cur2]), some (O.var [A.ro 3 n (Row.vecs .f32 x y z), A.bool cl, A.flt .f32 cur])]) := by kernel_rfl
noncomputable def F48i : List A → List (Option O) → Option R3
  | [.ptr 0 0, .ptr 16 0, .ptr 32 0, .bool false, .ptr 288 0, .sl 352 lq, .sl 416 lp, .int .i64 q, .int .i64 0], [some (.var [.flt .f32 s, .flt .f32 t, .flt .f32 r]), some (.row 0 6 lq2 (.flns .f32 6 hh)), some (.row 0 6 lp2 (.flns .f32 6 gg)), some (.var [.flt .f32 0, .flt .f32 0, .flt .f32 0]), some (.var [.ro 3 n2 (.vecs .f32 x2 y2 z2), .bool cl2, .flt .f32 cur2]), some (.var [.ro 3 n (.vecs .f32 x y z), .bool cl, .flt .f32 cur])] => some (.ite (decide (q = Int.ofNat lp) && Nat.beq lp lp2 && Nat.beq lq lq2 && Nat.ble lq 100000 && Nat.ble lp 100000) (.leaf .normal (I48i lp lq s t r gg hh n cur n2 cur2 x y z x2 y2 z2 cl cl2 (lp)) (J48i lp lq s t r gg hh n cur n2 cur2 x y z x2 y2 z2 cl cl2 (lp))) .fail)
  | _, _ => none
theorem loop48i : CodeOK Try.prog (fun _ σ => sumAt Try.f53.ntmps 464 [3, 4, 6, 7, 8, 9, 36, 37, 38] [288, 352, 416, 32, 16, 0] F48i σ) (.block 0 (.loop (loopOf Try.f53 0))) := by
  refine block_ok (own := fun _ => true) (lp := (look lpi48i)) (un := 0) (fuel := 1000) cfg22_ok lpi48i_ok fun az os R hF hok => ?_
  unfold F48i at hF
  split at hF
  · rename_i lq lp q s t r lq2 hh lp2 gg n2 x2 y2 z2 cl2 cur2 n x y z cl cur
    injection hF with hF
    subst hF
    have hg := hok.guard
    have hg' := hg
    simp only [Bool.and_eq_true, Nat.ble_eq, Nat.beq_eq, decide_eq_true_eq] at hg'
    obtain ⟨⟨⟨⟨rfl, rfl⟩, rfl⟩, hlq⟩, hlp⟩ := hg'
    refine for_fact (ids := [288, 352, 416, 32, 16, 0]) (fun _ => true) (lp) (I48i lp lq s t r gg hh n cur n2 cur2 x y z x2 y2 z2 cl cl2) (J48i lp lq s t r gg hh n cur n2 cur2 x y z x2 y2 z2 cl cl2) _ (.ret) (I48i lp lq s t r gg hh n cur n2 cur2 x y z x2 y2 z2 cl cl2) (I48i lp lq s t r gg hh n cur n2 cur2 x y z x2 y2 z2 cl cl2) (I48i lp lq s t r gg hh n cur n2 cur2 x y z x2 y2 z2 cl cl2 (lp)) (J48i lp lq s t r gg hh n cur n2 cur2 x y z x2 y2 z2 cl cl2 (lp)) rfl (OSims.self _) (fun _ => rfl) (fun _ => rfl) (fun _ => ALe.self _) (fun _ => rfl) (ALe.self _) (OSims.self _) rfl (fun h => by cases h) (fun k hk L h1 h2 h3 => ?_) fun L hL => ?_
    · rw [round48i]
      by_cases hkm : k < lp
      · refine condT (lt_dec hkm) ?_
        rw [wrap_succ (by omega)]
        refine condT (lt_dec hkm) ?_
        refine condT (by rw [decide_eq_true rfl, Nat.beq_refl, Nat.beq_refl, ble_of hlq]; rfl) ?_
        exact h1 hkm rfl _ (OSims.self (J48i lp lq s t r gg hh n cur n2 cur2 x y z x2 y2 z2 cl cl2 (k + 1)))
      · refine condE (ge_dec (by omega)) ?_
        obtain rfl : k = lp := by omega
        exact h3 rfl
    · exact ⟨fun _ => hL.1 hg, fun N _ h => by cases h⟩
  · cases hF
end Go.Fw.E1

/-
  Forces between wires: the law.
-/
namespace Go.Fw.E1
open Go.Proofs
noncomputable def two3 (n cur : Nat) (x y z : Nat → Nat) (n2 cur2 : Nat) (x2 y2 z2 : Nat → Nat) (p : Int) : Bool := bif bif okW n cur x y z then okW n2 cur2 x2 y2 z2 else false then inI p 1 8 else false
theorem two3_ok {n cur : Nat} {x y z : Nat → Nat} {n2 cur2 : Nat} {x2 y2 z2 : Nat → Nat} {p : Int} (h : two3 n cur x y z n2 cur2 x2 y2 z2 p = true) : (2 ≤ n ∧ n ≤ 48) ∧ (2 ≤ n2 ∧ n2 ≤ 48) ∧ 1 ≤ p ∧ p ≤ 8 := by
  unfold two3 at h
  cases h1 : okW n cur x y z
  · rw [h1] at h; cases h
  cases h2 : okW n2 cur2 x2 y2 z2
  · rw [h1, h2] at h; cases h
  rw [h1, h2] at h
  have h4 : inI p 1 8 = true := h
  unfold inI at h4
  cases h5 : decide (p ≥ 1)
  · rw [h5] at h4; cases h4
  · rw [h5] at h4
    exact ⟨okW_n h1, okW_n h2, of_decide_eq_true h5, of_decide_eq_true h4⟩
theorem not_two3 (n cur : Nat) (x y z : Nat → Nat) (n2 cur2 : Nat) (x2 y2 z2 : Nat → Nat) (p : Int) : (bif bif !okW n cur x y z then true else !okW n2 cur2 x2 y2 z2 then true else !inI p (Int.ofNat 1) (Int.ofNat 8)) = !two3 n cur x y z n2 cur2 x2 y2 z2 p := by
  show (bif bif !okW n cur x y z then true else !okW n2 cur2 x2 y2 z2 then true else !inI p 1 8) = _
  unfold two3
  cases okW n cur x y z <;> cases okW n2 cur2 x2 y2 z2 <;> cases inI p 1 8 <;> rfl
theorem two3_neg (n cur : Nat) (x y z : Nat → Nat) (n2 cur2 : Nat) (x2 y2 z2 : Nat → Nat) (pp : Nat) : two3 n cur x y z n2 cur2 x2 y2 z2 (Int.negSucc pp) = false := by
  cases h : two3 n cur x y z n2 cur2 x2 y2 z2 (Int.negSucc pp)
  · rfl
  · have := (two3_ok h).2.2.1; omega
noncomputable def fwXb (n cur : Nat) (x y z : Nat → Nat) (cl : Bool) (n2 cur2 : Nat) (x2 y2 z2 : Nat → Nat) (cl2 : Bool) (pp : Nat) : Nat := fop .mul .f32 (foX (pc (sg n x y z) pp) (pc (sg n2 x2 y2 z2) pp) (pp * cnt n2 cl2) 0 (pp * cnt n cl)) (fop .mul .f32 cur cur2)
noncomputable def fwYb (n cur : Nat) (x y z : Nat → Nat) (cl : Bool) (n2 cur2 : Nat) (x2 y2 z2 : Nat → Nat) (cl2 : Bool) (pp : Nat) : Nat := fop .mul .f32 (foY (pc (sg n x y z) pp) (pc (sg n2 x2 y2 z2) pp) (pp * cnt n2 cl2) 0 (pp * cnt n cl)) (fop .mul .f32 cur cur2)
noncomputable def fwZb (n cur : Nat) (x y z : Nat → Nat) (cl : Bool) (n2 cur2 : Nat) (x2 y2 z2 : Nat → Nat) (cl2 : Bool) (pp : Nat) : Nat := fop .mul .f32 (foZ (pc (sg n x y z) pp) (pc (sg n2 x2 y2 z2) pp) (pp * cnt n2 cl2) 0 (pp * cnt n cl)) (fop .mul .f32 cur cur2)
noncomputable def fbOk (n cur : Nat) (x y z : Nat → Nat) (cl : Bool) (n2 cur2 : Nat) (x2 y2 z2 : Nat → Nat) (cl2 : Bool) (pp : Nat) : Bool := two3 n cur x y z n2 cur2 x2 y2 z2 (Int.ofNat pp) && vfin (fwXb n cur x y z cl n2 cur2 x2 y2 z2 cl2 pp) (fwYb n cur x y z cl n2 cur2 x2 y2 z2 cl2 pp) (fwZb n cur x y z cl n2 cur2 x2 y2 z2 cl2 pp)
noncomputable def env23 : List (Nat × (List A → Option (Bool × A))) := env22
theorem env23_ok : EnvOK Try.prog (look env23) := env22_ok
noncomputable def cfg23 : Cfg := mkCfg tab [] xts (look env23)
theorem cfg23_ok : CfgOK Try.prog cfg23 := cfg_ok tab_eq (no_fts _) xts_ok env23_ok mixed
noncomputable def lp48a : List (Nat × (St → T)) := [(0, sumAt Try.f53.ntmps 464 [3, 4, 6, 7, 8, 9, 36, 37, 38] [288, 352, 416, 32, 16, 0] F48i)]
theorem lp48a_ok : LpOK Try.prog (look lp48a) (bodyOf Try.f53) := lp_loops (by kernel_rfl) (by kernel_rfl) fun p hp => by
  simp only [lp48a, List.mem_cons, List.not_mem_nil, or_false] at hp
  rcases hp with rfl
  · exact loop48i
theorem auto48a (n cur n2 cur2 pp : Nat) (x y z x2 y2 z2 : Nat → Nat) (cl cl2 : Bool) : autoLp cfg23 (look lp48a) Try.f53 [.agg [.ro 3 n (.vecs .f32 x y z), .bool cl, .flt .f32 cur], .agg [.ro 3 n2 (.vecs .f32 x2 y2 z2), .bool cl2, .flt .f32 cur2], .int .i64 (.ofNat pp)] =
    some (n.ble 4611686018427387000 && ((n2.ble 4611686018427387000 || !(!okW n cur x y z) == false) && bif bif bif !okW n cur x y z then true else !okW n2 cur2 x2 y2 z2 then true else !inI (Int.ofNat pp) (Int.ofNat 1) (Int.ofNat 8) then true else Nat.ble 1 n2 && n2.ble 1000 && pp.ble 32 && (Nat.ble 1 n && n.ble 1000 && pp.ble 32 && (decide (Int.ofNat (pp * cnt n cl) = Int.ofNat (pp * cnt n cl)) && (pp * cnt n cl).beq (pp * cnt n cl) && (pp * cnt n2 cl2).beq (pp * cnt n2 cl2) && (pp * cnt n2 cl2).ble 100000 && (pp * cnt n cl).ble 100000 && true))), A.tup [A.agg [A.flt .f32 (bif bif bif !okW n cur x y z then true else !okW n2 cur2 x2 y2 z2 then true else !inI (Int.ofNat pp) (Int.ofNat 1) (Int.ofNat 8) then 0 else bif vfin (fop .mul .f32 (foX (pc (sg n x y z) pp) (pc (sg n2 x2 y2 z2) pp) (pp * cnt n2 cl2) 0 (pp * cnt n cl)) (fop .mul .f32 cur cur2)) (fop .mul .f32 (foY (pc (sg n x y z) pp) (pc (sg n2 x2 y2 z2) pp) (pp * cnt n2 cl2) 0 (pp * cnt n cl)) (fop .mul .f32 cur cur2)) (fop .mul .f32 (foZ (pc (sg n x y z) pp) (pc (sg n2 x2 y2 z2) pp) (pp * cnt n2 cl2) 0 (pp * cnt n cl)) (fop .mul .f32 cur cur2)) then fop .mul .f32 (foX (pc (sg n x y z) pp) (pc (sg n2 x2 y2 z2) pp) (pp * cnt n2 cl2) 0 (pp * cnt n cl)) (fop .mul .f32 cur cur2) else can .f32 0), A.flt .f32 (bif bif bif !okW n cur x y z then true else !okW n2 cur2 x2 y2 z2 then true else !inI (Int.ofNat pp) (Int.ofNat 1) (Int.ofNat 8) then 0 else bif vfin (fop .mul .f32 (foX (pc (sg n x y z) pp) (pc (sg n2 x2 y2 z2) pp) (pp * cnt n2 cl2) 0 (pp * cnt n cl)) (fop .mul .f32 cur cur2)) (fop .mul .f32 (foY (pc (sg n x y z) pp) (pc (sg n2 x2 y2 z2) pp) (pp * cnt n2 cl2) 0 (pp * cnt n cl)) (fop .mul .f32 cur cur2)) (fop .mul .f32 (foZ (pc (sg n x y z) pp) (pc (sg n2 x2 y2 z2) pp) (pp * cnt n2 cl2) 0 (pp * cnt n cl)) (fop .mul .f32 cur cur2)) then fop .mul .f32 (foY (pc (sg n x y z) pp) (pc (sg n2 x2 y2 z2) pp) (pp * cnt n2 cl2) 0 (pp * cnt n cl)) (fop .mul .f32 cur cur2) else can .f32 0), A.flt .f32 (bif bif bif !okW n cur x y z then true else !okW n2 cur2 x2 y2 z2 then true else !inI (Int.ofNat pp) (Int.ofNat 1) (Int.ofNat 8) then 0 else bif vfin (fop .mul .f32 (foX (pc (sg n x y z) pp) (pc (sg n2 x2 y2 z2) pp) (pp * cnt n2 cl2) 0 (pp * cnt n cl)) (fop .mul .f32 cur cur2)) (fop .mul .f32 (foY (pc (sg n x y z) pp) (pc (sg n2 x2 y2 z2) pp) (pp * cnt n2 cl2) 0 (pp * cnt n cl)) (fop .mul .f32 cur cur2)) (fop .mul .f32 (foZ (pc (sg n x y z) pp) (pc (sg n2 x2 y2 z2) pp) (pp * cnt n2 cl2) 0 (pp * cnt n cl)) (fop .mul .f32 cur cur2)) then fop .mul .f32 (foZ (pc (sg n x y z) pp) (pc (sg n2 x2 y2 z2) pp) (pp * cnt n2 cl2) 0 (pp * cnt n cl)) (fop .mul .f32 cur cur2) else can .f32 0)], A.bool (bif bif bif !okW n cur x y z then true else !okW n2 cur2 x2 y2 z2 then true else !inI (Int.ofNat pp) (Int.ofNat 1) (Int.ofNat 8) then false else vfin (fop .mul .f32 (foX (pc (sg n x y z) pp) (pc (sg n2 x2 y2 z2) pp) (pp * cnt n2 cl2) 0 (pp * cnt n cl)) (fop .mul .f32 cur cur2)) (fop .mul .f32 (foY (pc (sg n x y z) pp) (pc (sg n2 x2 y2 z2) pp) (pp * cnt n2 cl2) 0 (pp * cnt n cl)) (fop .mul .f32 cur cur2)) (fop .mul .f32 (foZ (pc (sg n x y z) pp) (pc (sg n2 x2 y2 z2) pp) (pp * cnt n2 cl2) 0 (pp * cnt n cl)) (fop .mul .f32 cur cur2)))]) := by kernel_rfl
noncomputable def s48a : List A → Option (Bool × A)
  | [.agg [.ro 3 n (.vecs .f32 x y z), .bool cl, .flt .f32 cur], .agg [.ro 3 n2 (.vecs .f32 x2 y2 z2), .bool cl2, .flt .f32 cur2], .int .i64 (.ofNat pp)] => some (Nat.ble n 1048576 && Nat.ble n2 1048576, .tup [.agg [.flt .f32 (bif fbOk n cur x y z cl n2 cur2 x2 y2 z2 cl2 pp then fwXb n cur x y z cl n2 cur2 x2 y2 z2 cl2 pp else 0), .flt .f32 (bif fbOk n cur x y z cl n2 cur2 x2 y2 z2 cl2 pp then fwYb n cur x y z cl n2 cur2 x2 y2 z2 cl2 pp else 0), .flt .f32 (bif fbOk n cur x y z cl n2 cur2 x2 y2 z2 cl2 pp then fwZb n cur x y z cl n2 cur2 x2 y2 z2 cl2 pp else 0)], .bool (fbOk n cur x y z cl n2 cur2 x2 y2 z2 cl2 pp)])
  | _ => none
theorem s48a_at : EnvAt Try.prog 53 s48a := of_auto cfg23_ok lp48a_ok Try.func53 (by kernel_rfl) (by kernel_rfl) fun ds cc rr h hc => by
  unfold s48a at h
  split at h
  · rename_i n x y z cl cur n2 x2 y2 z2 cl2 cur2 pp
    simp only [Option.some.injEq, Prod.mk.injEq] at h
    obtain ⟨rfl, rfl⟩ := h
    refine auto_fit (auto48a n cur n2 cur2 pp x y z x2 y2 z2 cl cl2) ?_ ?_
    · rw [not_two3]
      unfold fbOk
      cases two3 n cur x y z n2 cur2 x2 y2 z2 (Int.ofNat pp) <;> rfl
    · simp only [Bool.and_eq_true, Nat.ble_eq] at hc
      rw [ble_of (show n ≤ 4611686018427387000 by omega), ble_of (show n2 ≤ 4611686018427387000 by omega), not_two3]
      cases ht : two3 n cur x y z n2 cur2 x2 y2 z2 (Int.ofNat pp)
      · simp
      · obtain ⟨k1, k2, k3, k4⟩ := two3_ok ht
        simp at k4
        rw [ble_of (show 1 ≤ n by omega), ble_of (show n ≤ 1000 by omega), ble_of (show 1 ≤ n2 by omega), ble_of (show n2 ≤ 1000 by omega), ble_of (show pp ≤ 32 by omega), decide_eq_true rfl, Nat.beq_refl, Nat.beq_refl, ble_of (pcnt_le (cl := cl) (show n ≤ 1000 by omega) (show pp ≤ 32 by omega)), ble_of (pcnt_le (cl := cl2) (show n2 ≤ 1000 by omega) (show pp ≤ 32 by omega))]
        simp
  · cases h
noncomputable def lp48b : List (Nat × (St → T)) := [(0, sumAt Try.f53.ntmps 464 [3, 4, 6, 7, 8, 9, 36, 37, 38] [288, 352, 416, 32, 16, 0] F48i)]
theorem lp48b_ok : LpOK Try.prog (look lp48b) (bodyOf Try.f53) := lp_loops (by kernel_rfl) (by kernel_rfl) fun p hp => by
  simp only [lp48b, List.mem_cons, List.not_mem_nil, or_false] at hp
  rcases hp with rfl
  · exact loop48i
theorem auto48b (n cur n2 cur2 pp : Nat) (x y z x2 y2 z2 : Nat → Nat) (cl cl2 : Bool) : autoS cfg23 (look lp48b) true Try.f53 [.agg [.ro 3 n (.vecs .f32 x y z), .bool cl, .flt .f32 cur], .agg [.ro 3 n2 (.vecs .f32 x2 y2 z2), .bool cl2, .flt .f32 cur2], .int .i64 (.negSucc pp)] =
    some (n.ble 4611686018427387000 && ((n2.ble 4611686018427387000 || !(!okW n cur x y z) == false) && ((bif bif !okW n cur x y z then true else !okW n2 cur2 x2 y2 z2 then true else !inI (Int.negSucc pp) (Int.ofNat 1) (Int.ofNat 8)) && true)), A.tup [A.agg [A.flt .f32 0, A.flt .f32 0, A.flt .f32 0], A.bool false]) := by kernel_rfl
noncomputable def s48b : List A → Option (Bool × A)
  | [.agg [.ro 3 n (.vecs .f32 x y z), .bool cl, .flt .f32 cur], .agg [.ro 3 n2 (.vecs .f32 x2 y2 z2), .bool cl2, .flt .f32 cur2], .int .i64 (.negSucc pp)] => some (Nat.ble n 1048576 && Nat.ble n2 1048576, .tup [.agg [.flt .f32 0, .flt .f32 0, .flt .f32 0], .bool false])
  | _ => none
theorem s48b_at : EnvAt Try.prog 53 s48b := of_autoS cfg23_ok lp48b_ok Try.func53 (by kernel_rfl) (by kernel_rfl) fun ds cc rr h hc => by
  unfold s48b at h
  split at h
  · rename_i n x y z cl cur n2 x2 y2 z2 cl2 cur2 pp
    simp only [Option.some.injEq, Prod.mk.injEq] at h
    obtain ⟨rfl, rfl⟩ := h
    refine auto_fit (auto48b n cur n2 cur2 pp x y z x2 y2 z2 cl cl2) ?_ ?_
    · rfl
    · simp only [Bool.and_eq_true, Nat.ble_eq] at hc
      rw [ble_of (show n ≤ 4611686018427387000 by omega), ble_of (show n2 ≤ 4611686018427387000 by omega), not_two3, two3_neg]
      simp
  · cases h
noncomputable def s48 : List A → Option (Bool × A)
  | [a, b, .int .i64 (.ofNat pp)] => s48a [a, b, .int .i64 (.ofNat pp)]
  | ds => s48b ds
theorem s48_at : EnvAt Try.prog 53 s48 := by
  refine ⟨s48a_at.1, fun ds c r h hc => ?_⟩
  unfold s48 at h
  split at h
  · exact s48a_at.2 _ _ _ h hc
  · exact s48b_at.2 _ _ _ h hc
noncomputable def env24 : List (Nat × (List A → Option (Bool × A))) := (53, s48) :: env23
theorem env24_ok : EnvOK Try.prog (look env24) := (env_cons s48_at env23_ok)
noncomputable def cfg24 : Cfg := mkCfg tab [] xts (look env24)
theorem cfg24_ok : CfgOK Try.prog cfg24 := cfg_ok tab_eq (no_fts _) xts_ok env24_ok mixed
end Go.Fw.E1

/-
  Lists of wires: fields.
-/
namespace Go.Fw.E1
open Go.Proofs
noncomputable def okAt (n : Nat → Nat) (x y z : Nat → Nat → Nat) (cur : Nat → Nat) (i : Nat) : Bool := okW (n i) (cur i) (x i) (y i) (z i)
theorem W.at_ok {m : Nat} {f : Nat → Bool} (h : allUpTo f m = true) {k : Nat} (hk : k < m) : f k = true := allUpTo_iff.1 h k hk
def smallW (n : Nat → Nat) (i : Nat) : Bool := Nat.ble 1 (n i) && Nat.ble (n i) 1000
theorem smallW_ok {n : Nat → Nat} {k : Nat} (h : smallW n k = true) : 1 ≤ n k ∧ n k ≤ 1000 := by
  unfold smallW at h
  simp only [Bool.and_eq_true, Nat.ble_eq] at h
  exact h
noncomputable def faX (n : Nat → Nat) (x y z : Nat → Nat → Nat) (cl : Nat → Bool) (cur : Nat → Nat) (p q r s : Nat) : Nat → Nat
  | 0 => s
  | k + 1 => fop .add .f32 (faX n x y z cl cur p q r s k) (fwX (n k) (x k) (y k) (z k) (cl k) (cur k) p q r)
noncomputable def faY (n : Nat → Nat) (x y z : Nat → Nat → Nat) (cl : Nat → Bool) (cur : Nat → Nat) (p q r s : Nat) : Nat → Nat
  | 0 => s
  | k + 1 => fop .add .f32 (faY n x y z cl cur p q r s k) (fwY (n k) (x k) (y k) (z k) (cl k) (cur k) p q r)
noncomputable def faZ (n : Nat → Nat) (x y z : Nat → Nat → Nat) (cl : Nat → Bool) (cur : Nat → Nat) (p q r s : Nat) : Nat → Nat
  | 0 => s
  | k + 1 => fop .add .f32 (faZ n x y z cl cur p q r s k) (fwZ (n k) (x k) (y k) (z k) (cl k) (cur k) p q r)
noncomputable def I118 (m : Nat) (n : Nat → Nat) (x y z : Nat → Nat → Nat) (cl : Nat → Bool) (cur : Nat → Nat) (p q r s t u s2 t2 u2 : Nat) (k : Nat) : List A := [.ptr 0 0, .ptr 16 0, .bool false, .ptr 64 0, .ro 3 m (.wires n x y z cl cur), .int .i64 (Int.ofNat m), .int .i64 (Int.ofNat k)]
noncomputable def J118 (m : Nat) (n : Nat → Nat) (x y z : Nat → Nat → Nat) (cl : Nat → Bool) (cur : Nat → Nat) (p q r s t u s2 t2 u2 : Nat) (k : Nat) : List O := [.var [.flt .f32 (faX n x y z cl cur p q r s k), .flt .f32 (faY n x y z cl cur p q r t k), .flt .f32 (faZ n x y z cl cur p q r u k)], .var [.flt .f32 s2, .flt .f32 t2, .flt .f32 u2], .var [.flt .f32 p, .flt .f32 q, .flt .f32 r]]
theorem round118 (m : Nat) (n : Nat → Nat) (x y z : Nat → Nat → Nat) (cl : Nat → Bool) (cur : Nat → Nat) (p q r s t u s2 t2 u2 : Nat) (k : Nat) (L : XK → List A → List (Option O) → Prop) :
    ((exec cfg24 (fun _ => true) (fun _ => none) 0 1000 (loopOf Try.f67 0) (litSt Try.f67.ntmps 144 [3, 4, 5, 6, 10, 11, 12] [64, 16, 0] (I118 m n x y z cl cur p q r s t u s2 t2 u2 k) (J118 m n x y z cl cur p q r s t u s2 t2 u2 k))).rt [3, 4, 5, 6, 10, 11, 12] [64, 16, 0]).Ok L =
    bif decide (Int.ofNat k < Int.ofNat m) then
      bif decide (Int.ofNat k < Int.ofNat m) then
        bif Nat.ble 1 (n k) && (n k).ble 1073741824 && true then
          L (XK.normal) ([A.ptr 0 0, A.ptr 16 0, A.bool false, A.ptr 64 0, A.ro 3 m (Row.wires n x y z cl cur), A.int .i64 (Int.ofNat m), A.int .i64 (IntKind.i64.wrap (Int.ofNat k + Int.ofNat 1))]) ([some (O.var [A.flt .f32 (fop .add .f32 (faX n x y z cl cur p q r s k) (fwX (n k) (x (Int.ofNat k).toNat) (y (Int.ofNat k).toNat) (z (Int.ofNat k).toNat) (cl k) (cur k) p q r)), A.flt .f32 (fop .add .f32 (faY n x y z cl cur p q r t k) (fwY (n k) (x (Int.ofNat k).toNat) (y (Int.ofNat k).toNat) (z (Int.ofNat k).toNat) (cl k) (cur k) p q r)), A.flt .f32 (fop .add .f32 (faZ n x y z cl cur p q r u k) (fwZ (n k) (x (Int.ofNat k).toNat) (y (Int.ofNat k).toNat) (z (Int.ofNat k).toNat) (cl k) (cur k) p q r))]), some (O.var [A.flt .f32 s2, A.flt .f32 t2, A.flt .f32 u2]), some (O.var [A.flt .f32 p, A.flt .f32 q, A.flt .f32 r])])
        else
          False
      else
        False
    else
      L (XK.exit 0) ([A.ptr 0 0, A.ptr 16 0, A.bool false, A.ptr 64 0, A.ro 3 m (Row.wires n x y z cl cur), A.int .i64 (Int.ofNat m), A.int .i64 (Int.ofNat k)]) ([some (O.var [A.flt .f32 (faX n x y z cl cur p q r s k), A.flt .f32 (faY n x y z cl cur p q r t k), A.flt .f32 (faZ n x y z cl cur p q r u k)]), some (O.var [A.flt .f32 s2, A.flt .f32 t2, A.flt .f32 u2]), some (O.var [A.flt .f32 p, A.flt .f32 q, A.flt .f32 r])]) := by kernel_rfl
noncomputable def F118 : List A → List (Option O) → Option R3
  | [.ptr 0 0, .ptr 16 0, .bool false, .ptr 64 0, .ro 3 m (.wires n x y z cl cur), .int .i64 l, .int .i64 0], [some (.var [.flt .f32 s, .flt .f32 t, .flt .f32 u]), some (.var [.flt .f32 s2, .flt .f32 t2, .flt .f32 u2]), some (.var [.flt .f32 p, .flt .f32 q, .flt .f32 r])] => some (.ite (decide (l = Int.ofNat m) && Nat.ble m 1048576 && allUpTo (smallW n) m) (.leaf .normal (I118 m n x y z cl cur p q r s t u s2 t2 u2 (m)) (J118 m n x y z cl cur p q r s t u s2 t2 u2 (m))) .fail)
  | _, _ => none
theorem loop118 : CodeOK Try.prog (fun _ σ => sumAt Try.f67.ntmps 144 [3, 4, 5, 6, 10, 11, 12] [64, 16, 0] F118 σ) (.block 0 (.loop (loopOf Try.f67 0))) := by
  refine block_ok (own := fun _ => true) (lp := (fun _ => none)) (un := 0) (fuel := 1000) cfg24_ok (lp_none _) fun az os R hF hok => ?_
  unfold F118 at hF
  split at hF
  · rename_i m n x y z cl cur l s t u s2 t2 u2 p q r
    injection hF with hF
    subst hF
    have hg := hok.guard
    have hg' := hg
    simp only [Bool.and_eq_true, Nat.ble_eq, Nat.beq_eq, decide_eq_true_eq] at hg'
    obtain ⟨⟨rfl, hm⟩, hsm⟩ := hg'
    refine for_fact (ids := [64, 16, 0]) (fun _ => true) (m) (I118 m n x y z cl cur p q r s t u s2 t2 u2) (J118 m n x y z cl cur p q r s t u s2 t2 u2) _ (.ret) (I118 m n x y z cl cur p q r s t u s2 t2 u2) (I118 m n x y z cl cur p q r s t u s2 t2 u2) (I118 m n x y z cl cur p q r s t u s2 t2 u2 (m)) (J118 m n x y z cl cur p q r s t u s2 t2 u2 (m)) rfl (OSims.self _) (fun _ => rfl) (fun _ => rfl) (fun _ => ALe.self _) (fun _ => rfl) (ALe.self _) (OSims.self _) rfl (fun h => by cases h) (fun k hk L h1 h2 h3 => ?_) fun L hL => ?_
    · rw [round118]
      by_cases hkm : k < m
      · refine condT (lt_dec hkm) ?_
        obtain ⟨k1, k2⟩ := smallW_ok (W.at_ok hsm hkm)
        rw [wrap_succ (by omega)]
        refine condT (lt_dec hkm) ?_
        refine condT (by rw [ble_of k1, ble_of (show n k ≤ 1073741824 by omega)]; rfl) ?_
        exact h1 hkm rfl _ (OSims.self (J118 m n x y z cl cur p q r s t u s2 t2 u2 (k + 1)))
      · refine condE (ge_dec (by omega)) ?_
        obtain rfl : k = m := by omega
        exact h3 rfl
    · exact ⟨fun _ => hL.1 hg, fun N _ h => by cases h⟩
  · cases hF
noncomputable def st0 (p q r c : Nat) : Nat := bif vfin p q r then 0 else fop .sub .f32 c c
noncomputable def fOkA (m : Nat) (n : Nat → Nat) (x y z : Nat → Nat → Nat) (cl : Nat → Bool) (cur : Nat → Nat) (p q r : Nat) : Bool := vfin (faX n x y z cl cur p q r 0 m) (faY n x y z cl cur p q r 0 m) (faZ n x y z cl cur p q r 0 m)
noncomputable def lp118 : List (Nat × (St → T)) := [(0, sumAt Try.f67.ntmps 144 [3, 4, 5, 6, 10, 11, 12] [64, 16, 0] F118)]
theorem lp118_ok : LpOK Try.prog (look lp118) (bodyOf Try.f67) := lp_loops (by kernel_rfl) (by kernel_rfl) fun p hp => by
  simp only [lp118, List.mem_cons, List.not_mem_nil, or_false] at hp
  rcases hp with rfl
  · exact loop118
theorem auto118 (m : Nat) (n : Nat → Nat) (x y z : Nat → Nat → Nat) (cl : Nat → Bool) (cur : Nat → Nat) (p q r : Nat) : autoLp cfg24 (look lp118) Try.f67 [.ro 3 m (.wires n x y z cl cur), .agg [.flt .f32 p, .flt .f32 q, .flt .f32 r]] =
    some (decide (Int.ofNat m = Int.ofNat m) && m.ble 1048576 && allUpTo (smallW n) m && true, A.tup [A.agg [A.flt .f32 (faX n x y z cl cur p q r 0 m), A.flt .f32 (faY n x y z cl cur p q r 0 m), A.flt .f32 (faZ n x y z cl cur p q r 0 m)], A.bool (bif vfin p q r then vfin (faX n x y z cl cur p q r 0 m) (faY n x y z cl cur p q r 0 m) (faZ n x y z cl cur p q r 0 m) else false)]) := by kernel_rfl
noncomputable def s118 : List A → Option (Bool × A)
  | [.ro 3 m (.wires n x y z cl cur), .agg [.flt .f32 p, .flt .f32 q, .flt .f32 r]] => some (Nat.ble m 1048576 && allUpTo (smallW n) m, .tup [.agg [.flt .f32 (faX n x y z cl cur p q r 0 m), .flt .f32 (faY n x y z cl cur p q r 0 m), .flt .f32 (faZ n x y z cl cur p q r 0 m)], .bool (bif vfin p q r then fOkA m n x y z cl cur p q r else false)])
  | _ => none
theorem s118_at : EnvAt Try.prog 67 s118 := of_auto cfg24_ok lp118_ok Try.func67 (by kernel_rfl) (by kernel_rfl) fun ds cc rr h hc => by
  unfold s118 at h
  split at h
  · rename_i m n x y z cl cur p q r
    simp only [Option.some.injEq, Prod.mk.injEq] at h
    obtain ⟨rfl, rfl⟩ := h
    refine auto_fit (auto118 m n x y z cl cur p q r) ?_ ?_
    · rfl
    · simp only [Bool.and_eq_true] at hc; rw [hc.1, hc.2, decide_eq_true rfl]; simp
  · cases h
theorem auto139 (n cur : Nat) (x y z : Nat → Nat) (cl : Bool) : autoLp cfg24 (fun _ => none) Try.f109 [.agg [.ro 3 n (.vecs .f32 x y z), .bool cl, .flt .f32 cur]] =
    some (n.ble 4611686018427387000 && true, A.bool !okW n cur x y z) := by kernel_rfl
noncomputable def s139 : List A → Option (Bool × A)
  | [.agg [.ro 3 n (.vecs .f32 x y z), .bool cl, .flt .f32 cur]] => some (Nat.ble n 4611686018427387000, .bool (!okW n cur x y z))
  | _ => none
theorem s139_at : EnvAt Try.prog 109 s139 := of_auto cfg24_ok (lp_none _) Try.func109 (by kernel_rfl) (by kernel_rfl) fun ds cc rr h hc => by
  unfold s139 at h
  split at h
  · rename_i n x y z cl cur
    simp only [Option.some.injEq, Prod.mk.injEq] at h
    obtain ⟨rfl, rfl⟩ := h
    refine auto_fit (auto139 n cur x y z cl) ?_ ?_
    · rfl
    · rw [hc]; rfl
  · cases h
noncomputable def env25 : List (Nat × (List A → Option (Bool × A))) := (67, s118) :: (109, s139) :: env24
theorem env25_ok : EnvOK Try.prog (look env25) := (env_cons s118_at (env_cons s139_at env24_ok))
noncomputable def cfg25 : Cfg := mkCfg tab [] xts (look env25)
theorem cfg25_ok : CfgOK Try.prog cfg25 := cfg_ok tab_eq (no_fts _) xts_ok env25_ok mixed
def shortW (n : Nat → Nat) (i : Nat) : Bool := Nat.ble (n i) 1048576
theorem shortW_ok {n : Nat → Nat} {k : Nat} (h : shortW n k = true) : n k ≤ 1048576 := by unfold shortW at h; simpa using h
noncomputable def I150 (m : Nat) (n : Nat → Nat) (x y z : Nat → Nat → Nat) (cl : Nat → Bool) (cur : Nat → Nat) (k : Nat) : List A := [.ro 3 m (.wires n x y z cl cur), .fn 109 [], .int .i64 (Int.ofNat 0), .int .i64 (Int.ofNat m), .int .i64 (Int.ofNat k)]
noncomputable def J150 (m : Nat) (n : Nat → Nat) (x y z : Nat → Nat → Nat) (cl : Nat → Bool) (cur : Nat → Nat) (k : Nat) : List O := []
theorem round150 (m : Nat) (n : Nat → Nat) (x y z : Nat → Nat → Nat) (cl : Nat → Bool) (cur : Nat → Nat) (k : Nat) (L : XK → List A → List (Option O) → Prop) :
    ((exec cfg25 (fun _ => true) (fun _ => none) 0 1000 (loopOf Try.f120 0) (litSt Try.f120.ntmps 64 [0, 1, 4, 7, 8] [] (I150 m n x y z cl cur k) (J150 m n x y z cl cur k))).rt [0, 1, 4, 7, 8] []).Ok L =
    bif decide (Int.ofNat k < Int.ofNat m) then
      bif decide (Int.ofNat k < Int.ofNat m) then
        bif (n k).ble 4611686018427387000 then
          bif !okW (n k) (cur k) (x (Int.ofNat k).toNat) (y (Int.ofNat k).toNat) (z (Int.ofNat k).toNat) then
            L (XK.ret) ([A.ro 3 m (Row.wires n x y z cl cur), A.fn 109 [], A.int .i64 (Int.ofNat k), A.int .i64 (Int.ofNat m), A.int .i64 (Int.ofNat k)]) ([])
          else
            L (XK.normal) ([A.ro 3 m (Row.wires n x y z cl cur), A.fn 109 [], A.int .i64 (Int.ofNat 0), A.int .i64 (Int.ofNat m), A.int .i64 (IntKind.i64.wrap (Int.ofNat k + Int.ofNat 1))]) ([])
        else
          False
      else
        False
    else
      L (XK.exit 0) ([A.ro 3 m (Row.wires n x y z cl cur), A.fn 109 [], A.int .i64 (Int.ofNat 0), A.int .i64 (Int.ofNat m), A.int .i64 (Int.ofNat k)]) ([]) := by kernel_rfl
noncomputable def F150 : List A → List (Option O) → Option R3
  | [.ro 3 m (.wires n x y z cl cur), .fn 109 [], .int .i64 0, .int .i64 l, .int .i64 0], [] => some (.ite (decide (l = Int.ofNat m) && Nat.ble m 1048576 && allUpTo (shortW n) m) (.ite (allUpTo (okAt n x y z cur) (m)) (.leaf .normal (I150 m n x y z cl cur (m)) (J150 m n x y z cl cur (m))) (.leaf (.ret) ((fun k => [.ro 3 m (.wires n x y z cl cur), A.fn 109 [], A.int .i64 (Int.ofNat k), A.int .i64 (Int.ofNat m), A.int .i64 (Int.ofNat k)]) (firstIdx (okAt n x y z cur) (m))) (J150 m n x y z cl cur (firstIdx (okAt n x y z cur) (m))))) .fail)
  | _, _ => none
theorem loop150 : CodeOK Try.prog (fun _ σ => sumAt Try.f120.ntmps 64 [0, 1, 4, 7, 8] [] F150 σ) (.block 0 (.loop (loopOf Try.f120 0))) := by
  refine block_ok (own := fun _ => true) (lp := (fun _ => none)) (un := 0) (fuel := 1000) cfg25_ok (lp_none _) fun az os R hF hok => ?_
  unfold F150 at hF
  split at hF
  · rename_i m n x y z cl cur l
    injection hF with hF
    subst hF
    have hg := hok.guard
    have hg' := hg
    simp only [Bool.and_eq_true, Nat.ble_eq, Nat.beq_eq, decide_eq_true_eq] at hg'
    obtain ⟨⟨rfl, hm⟩, hsm⟩ := hg'
    refine for_fact (ids := []) (okAt n x y z cur) (m) (I150 m n x y z cl cur) (J150 m n x y z cl cur) _ (.ret) (fun k => [.ro 3 m (.wires n x y z cl cur), A.fn 109 [], A.int .i64 (Int.ofNat k), A.int .i64 (Int.ofNat m), A.int .i64 (Int.ofNat k)]) (fun k => [.ro 3 m (.wires n x y z cl cur), A.fn 109 [], A.int .i64 (Int.ofNat k), A.int .i64 (Int.ofNat m), A.int .i64 (Int.ofNat k)]) (I150 m n x y z cl cur (m)) (J150 m n x y z cl cur (m)) rfl (OSims.self _) (fun _ => rfl) (fun _ => rfl) (fun _ => ALe.self _) (fun _ => rfl) (ALe.self _) (OSims.self _) rfl (fun h => by cases h) (fun k hk L h1 h2 h3 => ?_) fun L hL => ?_
    · rw [round150]
      by_cases hkm : k < m
      · refine condT (lt_dec hkm) ?_
        have k1 := shortW_ok (W.at_ok hsm hkm)
        rw [wrap_succ (by omega)]
        refine condT (lt_dec hkm) ?_
        refine condT (ble_of (show n k ≤ 4611686018427387000 by omega)) ?_
        show cond (!(okAt n x y z cur k)) _ _
        cases hs : okAt n x y z cur k
        · exact h2 hkm hs
        · exact h1 hkm hs _ trivial
      · refine condE (ge_dec (by omega)) ?_
        obtain rfl : k = m := by omega
        exact h3 rfl
    · exact ⟨fun h => (hL.1 hg).1 h, fun N hN hf hall => by
        have := (hL.1 hg).2 (allUpTo_false hN hf)
        rw [firstIdx_eq hN hf hall] at this
        exact this⟩
  · cases hF
noncomputable def lp150 : List (Nat × (St → T)) := [(0, sumAt Try.f120.ntmps 64 [0, 1, 4, 7, 8] [] F150)]
theorem lp150_ok : LpOK Try.prog (look lp150) (bodyOf Try.f120) := lp_loops (by kernel_rfl) (by kernel_rfl) fun p hp => by
  simp only [lp150, List.mem_cons, List.not_mem_nil, or_false] at hp
  rcases hp with rfl
  · exact loop150
theorem auto150 (m : Nat) (n : Nat → Nat) (x y z : Nat → Nat → Nat) (cl : Nat → Bool) (cur : Nat → Nat) : autoLp cfg25 (look lp150) Try.f120 [.ro 3 m (.wires n x y z cl cur), .fn 109 []] =
    some (decide (Int.ofNat m = Int.ofNat m) && m.ble 1048576 && allUpTo (shortW n) m && bif allUpTo (okAt n x y z cur) m then true else true, A.int .i64 (bif allUpTo (okAt n x y z cur) m then Int.negSucc 0 else Int.ofNat (Fw.firstIdx (okAt n x y z cur) m))) := by kernel_rfl
noncomputable def s150 : List A → Option (Bool × A)
  | [.ro 3 m (.wires n x y z cl cur), .fn 109 []] => some (Nat.ble m 1048576 && allUpTo (shortW n) m, .int .i64 (idx (okAt n x y z cur) m))
  | _ => none
theorem s150_at : EnvAt Try.prog 120 s150 := of_auto cfg25_ok lp150_ok Try.func120 (by kernel_rfl) (by kernel_rfl) fun ds cc rr h hc => by
  unfold s150 at h
  split at h
  · rename_i m n x y z cl cur
    simp only [Option.some.injEq, Prod.mk.injEq] at h
    obtain ⟨rfl, rfl⟩ := h
    refine auto_fit (auto150 m n x y z cl cur) ?_ ?_
    · rfl
    · simp only [Bool.and_eq_true] at hc; rw [hc.1, hc.2]; simp
  · cases h
noncomputable def env26 : List (Nat × (List A → Option (Bool × A))) := (120, s150) :: env25
theorem env26_ok : EnvOK Try.prog (look env26) := (env_cons s150_at env25_ok)
noncomputable def cfg26 : Cfg := mkCfg tab [] xts (look env26)
theorem cfg26_ok : CfgOK Try.prog cfg26 := cfg_ok tab_eq (no_fts _) xts_ok env26_ok mixed
theorem auto138 (m : Nat) (n : Nat → Nat) (x y z : Nat → Nat → Nat) (cl : Nat → Bool) (cur : Nat → Nat) : autoLp cfg26 (fun _ => none) Try.f108 [.ro 3 m (.wires n x y z cl cur), .fn 109 []] =
    some (m.ble 1048576 && allUpTo (shortW n) m && true, A.bool (decide (idx (okAt n x y z cur) m ≥ 0))) := by kernel_rfl
noncomputable def s138 : List A → Option (Bool × A)
  | [.ro 3 m (.wires n x y z cl cur), .fn 109 []] => some (Nat.ble m 1048576 && allUpTo (shortW n) m, .bool (!allUpTo (okAt n x y z cur) m))
  | _ => none
theorem s138_at : EnvAt Try.prog 108 s138 := of_auto cfg26_ok (lp_none _) Try.func108 (by kernel_rfl) (by kernel_rfl) fun ds cc rr h hc => by
  unfold s138 at h
  split at h
  · rename_i m n x y z cl cur
    simp only [Option.some.injEq, Prod.mk.injEq] at h
    obtain ⟨rfl, rfl⟩ := h
    refine auto_fit (auto138 m n x y z cl cur) ?_ ?_
    · rw [← idx_ge]
    · simpa using hc
  · cases h
noncomputable def env27 : List (Nat × (List A → Option (Bool × A))) := (108, s138) :: env26
theorem env27_ok : EnvOK Try.prog (look env27) := (env_cons s138_at env26_ok)
noncomputable def cfg27 : Cfg := mkCfg tab [] xts (look env27)
theorem cfg27_ok : CfgOK Try.prog cfg27 := cfg_ok tab_eq (no_fts _) xts_ok env27_ok mixed
noncomputable def areW (m : Nat) (n : Nat → Nat) (x y z : Nat → Nat → Nat) (cur : Nat → Nat) : Bool := decide (m ≤ 8) && allUpTo (okAt n x y z cur) m
theorem areW_ok {m : Nat} {n : Nat → Nat} {x y z : Nat → Nat → Nat} {cur : Nat → Nat} (h : areW m n x y z cur = true) : m ≤ 8 ∧ allUpTo (smallW n) m = true := by
  unfold areW at h
  simp only [Bool.and_eq_true, decide_eq_true_eq] at h
  refine ⟨h.1, allUpTo_iff.2 fun i hi => ?_⟩
  have h2 := okW_n (W.at_ok h.2 hi)
  unfold smallW
  simp only [Bool.and_eq_true, Nat.ble_eq]; omega
theorem auto117 (m : Nat) (n : Nat → Nat) (x y z : Nat → Nat → Nat) (cl : Nat → Bool) (cur : Nat → Nat) : autoLp cfg27 (fun _ => none) Try.f64 [.ro 3 m (.wires n x y z cl cur)] =
    some ((m.ble 1048576 && allUpTo (shortW n) m || !decide (Int.ofNat m ≤ 8) == true) && true, A.bool (bif decide (Int.ofNat m ≤ 8) then !!allUpTo (okAt n x y z cur) m else false)) := by kernel_rfl
noncomputable def s117 : List A → Option (Bool × A)
  | [.ro 3 m (.wires n x y z cl cur)] => some (Nat.ble m 1048576 && allUpTo (shortW n) m, .bool (areW m n x y z cur))
  | _ => none
theorem s117_at : EnvAt Try.prog 64 s117 := of_auto cfg27_ok (lp_none _) Try.func64 (by kernel_rfl) (by kernel_rfl) fun ds cc rr h hc => by
  unfold s117 at h
  split at h
  · rename_i m n x y z cl cur
    simp only [Option.some.injEq, Prod.mk.injEq] at h
    obtain ⟨rfl, rfl⟩ := h
    refine auto_fit (auto117 m n x y z cl cur) ?_ ?_
    · unfold areW
      by_cases h : m ≤ 8
      · rw [decide_eq_true h, decide_eq_true (p := Int.ofNat m ≤ 8) (by simp; omega)]; simp
      · rw [decide_eq_false h, decide_eq_false (p := Int.ofNat m ≤ 8) (by simp; omega)]; rfl
    · rw [hc]; rfl
  · cases h
noncomputable def env28 : List (Nat × (List A → Option (Bool × A))) := (64, s117) :: env27
theorem env28_ok : EnvOK Try.prog (look env28) := (env_cons s117_at env27_ok)
end Go.Fw.E1

/-
  Lists of wires: measured, copied, compared.
-/
namespace Go.Fw.E1
open Go.Proofs
noncomputable def env29 : List (Nat × (List A → Option (Bool × A))) := env28
theorem env29_ok : EnvOK Try.prog (look env29) := env28_ok
noncomputable def cfg29 : Cfg := mkCfg tab [] xts (look env29)
theorem cfg29_ok : CfgOK Try.prog cfg29 := cfg_ok tab_eq (no_fts _) xts_ok env29_ok mixed
end Go.Fw.E1

/-
  The sine of turns: what it calls.
-/
namespace Go.Fw.E1
open Go.Proofs
def absN (x : Nat) : Nat := x % 9223372036854775808
theorem sw64 : FloatKind.f64.format.signWeight = 9223372036854775808 := Eq.trans (show FloatKind.f64.format.signWeight = 2 ^ 63 by rfl) (by simp)
theorem auto129 (x : Nat) : autoLp cfg29 (fun _ => none) Try.f112 [.flt .f64 x] =
    some (!isNaN .f64 x && (decide (0 ≤ bclr IntKind.u64 (Int.ofNat x) 9223372036854775808) && decide (bclr IntKind.u64 (Int.ofNat x) 9223372036854775808 < 18446744073709551616) && true), A.flt .f64 (can .f64 (bclr IntKind.u64 (Int.ofNat x) (Int.ofNat 9223372036854775808)).toNat)) := by kernel_rfl
noncomputable def s129 : List A → Option (Bool × A)
  | [.flt .f64 x] => some (!isNaN .f64 x, .flt .f64 (absN x))
  | _ => none
theorem s129_at : EnvAt Try.prog 112 s129 := of_auto cfg29_ok (lp_none _) Try.func112 (by kernel_rfl) (by kernel_rfl) fun ds cc rr h hc => by
  unfold s129 at h
  split at h
  · rename_i x
    simp only [Option.some.injEq, Prod.mk.injEq] at h
    obtain ⟨rfl, rfl⟩ := h
    refine auto_fit (auto129 x) ?_ ?_
    · have h1 : isNaN .f64 (x % 9223372036854775808) = false := by rw [isNaN_eq] at hc ⊢; rw [sw64] at hc ⊢; rw [Nat.mod_mod]; simpa using hc
      show A.flt .f64 (can .f64 (bclr .u64 (Int.ofNat x) 9223372036854775808).toNat) = _
      rw [bclr_abs]
      show A.flt .f64 (can .f64 (x % 9223372036854775808)) = A.flt .f64 (x % 9223372036854775808)
      rw [can_of_not h1]
    · rw [bclr_abs, hc, dec0]
      have := Nat.mod_lt x (show 0 < 9223372036854775808 by decide)
      simp; omega
  · cases h
theorem auto141 : autoLp cfg29 (fun _ => none) Try.f122 [] = some (true, A.flt .f64 (can .f64 9221120237041090561)) := by kernel_rfl
noncomputable def s141 : List A → Option (Bool × A)
  | [] => some (true, .flt .f64 (qnan .f64))
  | _ => none
theorem s141_at : EnvAt Try.prog 122 s141 := of_auto cfg29_ok (lp_none _) Try.func122 (by kernel_rfl) (by kernel_rfl) fun ds cc rr h hc => by
  unfold s141 at h
  split at h
  · simp only [Option.some.injEq, Prod.mk.injEq] at h
    obtain ⟨rfl, rfl⟩ := h
    exact auto_fit auto141 (by rw [show can .f64 9221120237041090561 = qnan .f64 by decide +kernel]) rfl
  · cases h
noncomputable def env30 : List (Nat × (List A → Option (Bool × A))) := (112, s129) :: (122, s141) :: env29
theorem env30_ok : EnvOK Try.prog (look env30) := (env_cons s129_at (env_cons s141_at env29_ok))
noncomputable def cfg30 : Cfg := mkCfg tab [] xts (look env30)
theorem cfg30_ok : CfgOK Try.prog cfg30 := cfg_ok tab_eq (no_fts _) xts_ok env30_ok mixed
theorem auto128 : autoLp cfg30 (fun _ => none) Try.f111 [] = some (fcvtOk .f64 .f32 (qnan .f64), A.flt .f32 (fcvt .f64 .f32 (qnan .f64))) := by kernel_rfl
noncomputable def s128 : List A → Option (Bool × A)
  | [] => some (true, .flt .f32 (qnan .f32))
  | _ => none
theorem s128_at : EnvAt Try.prog 111 s128 := of_auto cfg30_ok (lp_none _) Try.func111 (by kernel_rfl) (by kernel_rfl) fun ds cc rr h hc => by
  unfold s128 at h
  split at h
  · simp only [Option.some.injEq, Prod.mk.injEq] at h
    obtain ⟨rfl, rfl⟩ := h
    exact auto_fit auto128 (by rw [show fcvt .f64 .f32 (qnan .f64) = qnan .f32 by decide +kernel]) (by decide +kernel)
  · cases h
noncomputable def env31 : List (Nat × (List A → Option (Bool × A))) := (111, s128) :: env30
theorem env31_ok : EnvOK Try.prog (look env31) := (env_cons s128_at env30_ok)
noncomputable def cfg31 : Cfg := mkCfg tab [] xts (look env31)
theorem cfg31_ok : CfgOK Try.prog cfg31 := cfg_ok tab_eq (no_fts _) xts_ok env31_ok mixed
end Go.Fw.E1

/-
  The sine of turns: its eight steps.
-/
namespace Go.Fw.E1
open Go.Proofs
def kF (k : Nat) : Nat := fofInt .f64 (8 - Int.ofNat k)
theorem kF_step {k : Nat} (h : k < 8) : fop .mul .f64 (fop .mul .f64 (can .f64 4611686018427387904) (kF k)) (fop .add .f64 (fop .mul .f64 (can .f64 4611686018427387904) (kF k)) (can .f64 4607182418800017408)) = den k ∧ fop .sub .f64 (kF k) (can .f64 4607182418800017408) = kF (k + 1) := by
  have e : ∀ k, k < 8 → fop .mul .f64 (fop .mul .f64 (can .f64 4611686018427387904) (kF k)) (fop .add .f64 (fop .mul .f64 (can .f64 4611686018427387904) (kF k)) (can .f64 4607182418800017408)) = den k ∧ fop .sub .f64 (kF k) (can .f64 4607182418800017408) = kF (k + 1) := by decide +kernel
  exact e k h
theorem kF_test {k : Nat} (h : k < 8) : (forder .f64 (kF k) (can .f64 4607182418800017408) == some Ordering.gt || forder .f64 (kF k) (can .f64 4607182418800017408) == some Ordering.eq) = true := by
  have e : ∀ k, k < 8 → (forder .f64 (kF k) (can .f64 4607182418800017408) == some Ordering.gt || forder .f64 (kF k) (can .f64 4607182418800017408) == some Ordering.eq) = true := by decide +kernel
  exact e k h
theorem kF_end {k : Nat} (h : k = 8) : (forder .f64 (kF k) (can .f64 4607182418800017408) == some Ordering.gt || forder .f64 (kF k) (can .f64 4607182418800017408) == some Ordering.eq) = false := by
  subst h; decide +kernel
noncomputable def I80a (t : Bool) (z u : Nat) (k : Nat) : List A := [.bool t, .flt .f64 z, .flt .f64 u, .flt .f64 (sp u k), .flt .f64 (kF k)]
noncomputable def J80a (t : Bool) (z u : Nat) (k : Nat) : List O := []
theorem round80a (t : Bool) (z u : Nat) (k : Nat) (L : XK → List A → List (Option O) → Prop) :
    ((exec cfg31 (fun _ => true) (fun _ => none) 0 1000 (loopOf Try.f74 0) (litSt Try.f74.ntmps 528 [5, 6, 7, 8, 9] [] (I80a t z u k) (J80a t z u k))).rt [5, 6, 7, 8, 9] []).Ok L =
    bif forder .f64 (kF k) (can .f64 4607182418800017408) == some Ordering.gt || forder .f64 (kF k) (can .f64 4607182418800017408) == some Ordering.eq then
      L (XK.normal) ([A.bool t, A.flt .f64 z, A.flt .f64 u, A.flt .f64 (fop .sub .f64 (can .f64 4607182418800017408) (fop .quo .f64 (fop .mul .f64 u (sp u k)) (fop .mul .f64 (fop .mul .f64 (can .f64 4611686018427387904) (kF k)) (fop .add .f64 (fop .mul .f64 (can .f64 4611686018427387904) (kF k)) (can .f64 4607182418800017408))))), A.flt .f64 (fop .sub .f64 (kF k) (can .f64 4607182418800017408))]) ([])
    else
      L (XK.exit 0) ([A.bool t, A.flt .f64 z, A.flt .f64 u, A.flt .f64 (sp u k), A.flt .f64 (kF k)]) ([]) := by kernel_rfl
noncomputable def F80a : List A → List (Option O) → Option R3
  | [.bool t, .flt .f64 z, .flt .f64 u, .flt .f64 p, .flt .f64 k8], [] => some (.ite (Nat.beq p (sp u 0) && Nat.beq k8 (kF 0)) (.leaf .normal (I80a t z u (8)) (J80a t z u (8))) .fail)
  | _, _ => none
theorem loop80a : CodeOK Try.prog (fun _ σ => sumAt Try.f74.ntmps 528 [5, 6, 7, 8, 9] [] F80a σ) (.block 0 (.loop (loopOf Try.f74 0))) := by
  refine block_ok (own := fun _ => true) (lp := (fun _ => none)) (un := 0) (fuel := 1000) cfg31_ok (lp_none _) fun az os R hF hok => ?_
  unfold F80a at hF
  split at hF
  · rename_i t z u p k8
    injection hF with hF
    subst hF
    have hg := hok.guard
    have hg' := hg
    simp only [Bool.and_eq_true, Nat.ble_eq, Nat.beq_eq, decide_eq_true_eq] at hg'
    obtain ⟨rfl, rfl⟩ := hg'
    refine for_fact (ids := []) (fun _ => true) (8) (I80a t z u) (J80a t z u) _ (.ret) (I80a t z u) (I80a t z u) (I80a t z u (8)) (J80a t z u (8)) rfl (OSims.self _) (fun _ => rfl) (fun _ => rfl) (fun _ => ALe.self _) (fun _ => rfl) (ALe.self _) (OSims.self _) rfl (fun h => by cases h) (fun k hk L h1 h2 h3 => ?_) fun L hL => ?_
    · rw [round80a]
      by_cases hkm : k < 8
      · refine condT (kF_test hkm) ?_
        rw [(kF_step hkm).1, (kF_step hkm).2]
        exact h1 hkm rfl _ trivial
      · refine condE (kF_end (by omega)) ?_
        obtain rfl : k = 8 := by omega
        exact h3 rfl
    · exact ⟨fun _ => hL.1 hg, fun N _ h => by cases h⟩
  · cases hF
noncomputable def I80b (t : Bool) (z u : Nat) (k : Nat) : List A := [.bool t, .flt .f64 z, .flt .f64 u, .flt .f64 (sp u k), .flt .f64 (kF k)]
noncomputable def J80b (t : Bool) (z u : Nat) (k : Nat) : List O := []
theorem round80b (t : Bool) (z u : Nat) (k : Nat) (L : XK → List A → List (Option O) → Prop) :
    ((exec cfg31 (fun _ => true) (fun _ => none) 0 1000 (loopOf Try.f74 0) (litSt Try.f74.ntmps 576 [5, 6, 7, 8, 9] [] (I80b t z u k) (J80b t z u k))).rt [5, 6, 7, 8, 9] []).Ok L =
    bif forder .f64 (kF k) (can .f64 4607182418800017408) == some Ordering.gt || forder .f64 (kF k) (can .f64 4607182418800017408) == some Ordering.eq then
      L (XK.normal) ([A.bool t, A.flt .f64 z, A.flt .f64 u, A.flt .f64 (fop .sub .f64 (can .f64 4607182418800017408) (fop .quo .f64 (fop .mul .f64 u (sp u k)) (fop .mul .f64 (fop .mul .f64 (can .f64 4611686018427387904) (kF k)) (fop .add .f64 (fop .mul .f64 (can .f64 4611686018427387904) (kF k)) (can .f64 4607182418800017408))))), A.flt .f64 (fop .sub .f64 (kF k) (can .f64 4607182418800017408))]) ([])
    else
      L (XK.exit 0) ([A.bool t, A.flt .f64 z, A.flt .f64 u, A.flt .f64 (sp u k), A.flt .f64 (kF k)]) ([]) := by kernel_rfl
noncomputable def F80b : List A → List (Option O) → Option R3
  | [.bool t, .flt .f64 z, .flt .f64 u, .flt .f64 p, .flt .f64 k8], [] => some (.ite (Nat.beq p (sp u 0) && Nat.beq k8 (kF 0)) (.leaf .normal (I80b t z u (8)) (J80b t z u (8))) .fail)
  | _, _ => none
theorem loop80b : CodeOK Try.prog (fun _ σ => sumAt Try.f74.ntmps 576 [5, 6, 7, 8, 9] [] F80b σ) (.block 0 (.loop (loopOf Try.f74 0))) := by
  refine block_ok (own := fun _ => true) (lp := (fun _ => none)) (un := 0) (fuel := 1000) cfg31_ok (lp_none _) fun az os R hF hok => ?_
  unfold F80b at hF
  split at hF
  · rename_i t z u p k8
    injection hF with hF
    subst hF
    have hg := hok.guard
    have hg' := hg
    simp only [Bool.and_eq_true, Nat.ble_eq, Nat.beq_eq, decide_eq_true_eq] at hg'
    obtain ⟨rfl, rfl⟩ := hg'
    refine for_fact (ids := []) (fun _ => true) (8) (I80b t z u) (J80b t z u) _ (.ret) (I80b t z u) (I80b t z u) (I80b t z u (8)) (J80b t z u (8)) rfl (OSims.self _) (fun _ => rfl) (fun _ => rfl) (fun _ => ALe.self _) (fun _ => rfl) (ALe.self _) (OSims.self _) rfl (fun h => by cases h) (fun k hk L h1 h2 h3 => ?_) fun L hL => ?_
    · rw [round80b]
      by_cases hkm : k < 8
      · refine condT (kF_test hkm) ?_
        rw [(kF_step hkm).1, (kF_step hkm).2]
        exact h1 hkm rfl _ trivial
      · refine condE (kF_end (by omega)) ?_
        obtain rfl : k = 8 := by omega
        exact h3 rfl
    · exact ⟨fun _ => hL.1 hg, fun N _ h => by cases h⟩
  · cases hF
noncomputable def I80c (t : Bool) (z u : Nat) (k : Nat) : List A := [.bool t, .flt .f64 z, .flt .f64 u, .flt .f64 (sp u k), .flt .f64 (kF k)]
noncomputable def J80c (t : Bool) (z u : Nat) (k : Nat) : List O := []
theorem round80c (t : Bool) (z u : Nat) (k : Nat) (L : XK → List A → List (Option O) → Prop) :
    ((exec cfg31 (fun _ => true) (fun _ => none) 0 1000 (loopOf Try.f74 0) (litSt Try.f74.ntmps 624 [5, 6, 7, 8, 9] [] (I80c t z u k) (J80c t z u k))).rt [5, 6, 7, 8, 9] []).Ok L =
    bif forder .f64 (kF k) (can .f64 4607182418800017408) == some Ordering.gt || forder .f64 (kF k) (can .f64 4607182418800017408) == some Ordering.eq then
      L (XK.normal) ([A.bool t, A.flt .f64 z, A.flt .f64 u, A.flt .f64 (fop .sub .f64 (can .f64 4607182418800017408) (fop .quo .f64 (fop .mul .f64 u (sp u k)) (fop .mul .f64 (fop .mul .f64 (can .f64 4611686018427387904) (kF k)) (fop .add .f64 (fop .mul .f64 (can .f64 4611686018427387904) (kF k)) (can .f64 4607182418800017408))))), A.flt .f64 (fop .sub .f64 (kF k) (can .f64 4607182418800017408))]) ([])
    else
      L (XK.exit 0) ([A.bool t, A.flt .f64 z, A.flt .f64 u, A.flt .f64 (sp u k), A.flt .f64 (kF k)]) ([]) := by kernel_rfl
noncomputable def F80c : List A → List (Option O) → Option R3
  | [.bool t, .flt .f64 z, .flt .f64 u, .flt .f64 p, .flt .f64 k8], [] => some (.ite (Nat.beq p (sp u 0) && Nat.beq k8 (kF 0)) (.leaf .normal (I80c t z u (8)) (J80c t z u (8))) .fail)
  | _, _ => none
theorem loop80c : CodeOK Try.prog (fun _ σ => sumAt Try.f74.ntmps 624 [5, 6, 7, 8, 9] [] F80c σ) (.block 0 (.loop (loopOf Try.f74 0))) := by
  refine block_ok (own := fun _ => true) (lp := (fun _ => none)) (un := 0) (fuel := 1000) cfg31_ok (lp_none _) fun az os R hF hok => ?_
  unfold F80c at hF
  split at hF
  · rename_i t z u p k8
    injection hF with hF
    subst hF
    have hg := hok.guard
    have hg' := hg
    simp only [Bool.and_eq_true, Nat.ble_eq, Nat.beq_eq, decide_eq_true_eq] at hg'
    obtain ⟨rfl, rfl⟩ := hg'
    refine for_fact (ids := []) (fun _ => true) (8) (I80c t z u) (J80c t z u) _ (.ret) (I80c t z u) (I80c t z u) (I80c t z u (8)) (J80c t z u (8)) rfl (OSims.self _) (fun _ => rfl) (fun _ => rfl) (fun _ => ALe.self _) (fun _ => rfl) (ALe.self _) (OSims.self _) rfl (fun h => by cases h) (fun k hk L h1 h2 h3 => ?_) fun L hL => ?_
    · rw [round80c]
      by_cases hkm : k < 8
      · refine condT (kF_test hkm) ?_
        rw [(kF_step hkm).1, (kF_step hkm).2]
        exact h1 hkm rfl _ trivial
      · refine condE (kF_end (by omega)) ?_
        obtain rfl : k = 8 := by omega
        exact h3 rfl
    · exact ⟨fun _ => hL.1 hg, fun N _ h => by cases h⟩
  · cases hF
noncomputable def I80d (t : Bool) (z u : Nat) (k : Nat) : List A := [.bool t, .flt .f64 z, .flt .f64 u, .flt .f64 (sp u k), .flt .f64 (kF k)]
noncomputable def J80d (t : Bool) (z u : Nat) (k : Nat) : List O := []
theorem round80d (t : Bool) (z u : Nat) (k : Nat) (L : XK → List A → List (Option O) → Prop) :
    ((exec cfg31 (fun _ => true) (fun _ => none) 0 1000 (loopOf Try.f74 0) (litSt Try.f74.ntmps 672 [5, 6, 7, 8, 9] [] (I80d t z u k) (J80d t z u k))).rt [5, 6, 7, 8, 9] []).Ok L =
    bif forder .f64 (kF k) (can .f64 4607182418800017408) == some Ordering.gt || forder .f64 (kF k) (can .f64 4607182418800017408) == some Ordering.eq then
      L (XK.normal) ([A.bool t, A.flt .f64 z, A.flt .f64 u, A.flt .f64 (fop .sub .f64 (can .f64 4607182418800017408) (fop .quo .f64 (fop .mul .f64 u (sp u k)) (fop .mul .f64 (fop .mul .f64 (can .f64 4611686018427387904) (kF k)) (fop .add .f64 (fop .mul .f64 (can .f64 4611686018427387904) (kF k)) (can .f64 4607182418800017408))))), A.flt .f64 (fop .sub .f64 (kF k) (can .f64 4607182418800017408))]) ([])
    else
      L (XK.exit 0) ([A.bool t, A.flt .f64 z, A.flt .f64 u, A.flt .f64 (sp u k), A.flt .f64 (kF k)]) ([]) := by kernel_rfl
noncomputable def F80d : List A → List (Option O) → Option R3
  | [.bool t, .flt .f64 z, .flt .f64 u, .flt .f64 p, .flt .f64 k8], [] => some (.ite (Nat.beq p (sp u 0) && Nat.beq k8 (kF 0)) (.leaf .normal (I80d t z u (8)) (J80d t z u (8))) .fail)
  | _, _ => none
theorem loop80d : CodeOK Try.prog (fun _ σ => sumAt Try.f74.ntmps 672 [5, 6, 7, 8, 9] [] F80d σ) (.block 0 (.loop (loopOf Try.f74 0))) := by
  refine block_ok (own := fun _ => true) (lp := (fun _ => none)) (un := 0) (fuel := 1000) cfg31_ok (lp_none _) fun az os R hF hok => ?_
  unfold F80d at hF
  split at hF
  · rename_i t z u p k8
    injection hF with hF
    subst hF
    have hg := hok.guard
    have hg' := hg
    simp only [Bool.and_eq_true, Nat.ble_eq, Nat.beq_eq, decide_eq_true_eq] at hg'
    obtain ⟨rfl, rfl⟩ := hg'
    refine for_fact (ids := []) (fun _ => true) (8) (I80d t z u) (J80d t z u) _ (.ret) (I80d t z u) (I80d t z u) (I80d t z u (8)) (J80d t z u (8)) rfl (OSims.self _) (fun _ => rfl) (fun _ => rfl) (fun _ => ALe.self _) (fun _ => rfl) (ALe.self _) (OSims.self _) rfl (fun h => by cases h) (fun k hk L h1 h2 h3 => ?_) fun L hL => ?_
    · rw [round80d]
      by_cases hkm : k < 8
      · refine condT (kF_test hkm) ?_
        rw [(kF_step hkm).1, (kF_step hkm).2]
        exact h1 hkm rfl _ trivial
      · refine condE (kF_end (by omega)) ?_
        obtain rfl : k = 8 := by omega
        exact h3 rfl
    · exact ⟨fun _ => hL.1 hg, fun N _ h => by cases h⟩
  · cases hF
noncomputable def N80 (σ : St) : T := match Nat.beq σ.next 528 with
  | true => sumAt Try.f74.ntmps 528 [5, 6, 7, 8, 9] [] F80a σ
  | false => match Nat.beq σ.next 576 with
    | true => sumAt Try.f74.ntmps 576 [5, 6, 7, 8, 9] [] F80b σ
    | false => match Nat.beq σ.next 624 with
      | true => sumAt Try.f74.ntmps 624 [5, 6, 7, 8, 9] [] F80c σ
      | false => sumAt Try.f74.ntmps 672 [5, 6, 7, 8, 9] [] F80d σ
theorem loopN80 : CodeOK Try.prog (fun _ σ => N80 σ) (.block 0 (.loop (loopOf Try.f74 0))) := by
  intro σ L hok
  replace hok : (N80 σ).Ok Try.prog L := hok
  unfold N80 at hok
  split at hok
  · exact loop80a σ L hok
  · split at hok
    · exact loop80b σ L hok
    · split at hok
      · exact loop80c σ L hok
      · exact loop80d σ L hok
end Go.Fw.E1
