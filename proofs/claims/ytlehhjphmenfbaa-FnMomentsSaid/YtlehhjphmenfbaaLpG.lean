/-
  Helices as wires: contracts.
-/
import Derived.Test.YtlehhjphmenfbaaLpB
import Derived.Test.YtlehhjphmenfbaaFwC
import Derived.Test.YtlehhjphmenfbaaLpA
import Derived.Test.YtlehhjphmenfbaaFwD
import Derived.Test.YtlehhjphmenfbaaLpC
import Derived.Test.YtlehhjphmenfbaaLpD
import Derived.Test.YtlehhjphmenfbaaLpE
import Derived.Test.YtlehhjphmenfbaaLpF

namespace Go.Fw.E1
open Go.Proofs
theorem num_mul {k : FloatKind} {x y : Nat} (h : num k (fop .mul k x y) = true) : num k y = true := by
  cases hy : k.format.read y with
  | number s m i => exact num_iff.2 ⟨_, _, _, hy⟩
  | nan s t =>
    exfalso
    have e : fop .mul k x y = qnan k := by
      unfold fop
      have e : floatBits .mul k x y = ((k.format.read x).product (k.format.read y)).map k.format.write := rfl
      rw [e, hy, product_nan_right]; rfl
    rw [e] at h
    revert h
    cases k <;> decide +kernel
  | infinity s =>
    exfalso
    have e : ∃ g, fop .mul k x y = qnan k ∨ fop .mul k x y = k.format.word g k.format.infRung := by
      unfold fop
      have e : floatBits .mul k x y = ((k.format.read x).product (k.format.read y)).map k.format.write := rfl
      rw [e, hy]
      have hD : ∀ d : Ieee.Datum, d.product (.infinity s) = none ∨ ∃ g, d.product (.infinity s) = some (.infinity g) := fun d => by
        cases d with
        | nan a b => exact .inl rfl
        | infinity a => exact .inr ⟨_, rfl⟩
        | number a n j =>
          simp only [Ieee.Datum.product]
          split
          · exact .inl rfl
          · exact .inr ⟨_, rfl⟩
      rcases hD (k.format.read x) with h | ⟨g, h⟩
      · rw [h]; exact ⟨true, .inl rfl⟩
      · rw [h]; exact ⟨g, .inr rfl⟩
    obtain ⟨g, e | e⟩ := e
    · rw [e] at h; revert h; cases k <;> decide +kernel
    · rw [e] at h; revert h; cases k <;> cases g <;> decide +kernel
noncomputable def inN (n : Int) : Bool := bif decide (n ≥ 2) then decide (n ≤ 48) else false
noncomputable def inM (n : Int) : Bool := bif decide (n ≥ 3) then decide (n ≤ 48) else false
noncomputable def helixOk (n m : Int) (r s c : Nat) : Bool := inN n && inM m && above r && okW n.toNat c (ringX m r) (ringY m r) (helixZ s)
theorem inN_ok {n : Int} (h : inN n = true) : 2 ≤ n ∧ n ≤ 48 := by
  unfold inN at h
  by_cases h3 : n ≥ 2
  · rw [decide_eq_true h3] at h; exact ⟨h3, of_decide_eq_true h⟩
  · rw [decide_eq_false h3] at h; cases h
theorem helix_ok {n m : Int} {r s c : Nat} (hr : helixOk n m r s c = true) : inN n = true ∧ inM m = true ∧ above r = true ∧ okW n.toNat c (ringX m r) (ringY m r) (helixZ s) = true ∧ 2 ≤ n ∧ n ≤ 48 := by
  unfold helixOk at hr
  simp only [Bool.and_eq_true] at hr
  obtain ⟨⟨⟨h1, h2⟩, h3⟩, h4⟩ := hr
  exact ⟨h1, h2, h3, h4, inN_ok h1⟩
theorem okW_rise {n cur : Nat} {x y : Nat → Nat} {s : Nat} (hw : okW n cur x y (helixZ s) = true) : fin s = true := by
  unfold okW at hw
  simp only [Bool.and_eq_true, decide_eq_true_eq] at hw
  have := allUpTo_iff.1 hw.2 1 (by omega)
  unfold vfinAt vfin at this
  have hz : fin (helixZ s 1) = true := by
    revert this
    cases fin (x 1) <;> cases fin (y 1) <;> cases fin (helixZ s 1) <;> simp
  rw [fin_num] at hz ⊢
  exact num_mul hz
noncomputable def s25T : List A → Option (Bool × A)
  | [.int .i64 n, .int .i64 m, .flt .f32 r, .flt .f32 s, .flt .f32 c] => some (helixOk n m r s c, .tup [.agg [.ro 3 n.toNat (.vecs .f32 (ringX m r) (ringY m r) (helixZ s)), .bool false, .flt .f32 c], .bool true])
  | _ => none
noncomputable def s25F : List A → Option (Bool × A)
  | [.int .i64 n, .int .i64 m, .flt .f32 r, .flt .f32 s, .flt .f32 c] => some (!helixOk n m r s c, .tup [.agg [.emp, .bool false, .flt .f32 0], .bool false])
  | _ => none
noncomputable def lp26T : List (Nat × (St → T)) := [(0, N26)]
theorem lp26T_ok : LpOK Try.prog (look lp26T) (bodyOf Try.f27) := lp_loops (by kernel_rfl) (by kernel_rfl) fun p hp => by
  simp only [lp26T, List.mem_cons, List.not_mem_nil, or_false] at hp
  rcases hp with rfl
  · exact loopN26
theorem auto26T (n m : Int) (r s c : Nat) : autoS cfgGD (look lp26T) false Try.f27 [.int .i64 n, .int .i64 m, .flt .f32 r, .flt .f32 s, .flt .f32 c] =
    some ((!bif bif bif !bif decide (n ≥ 2) then decide (n ≤ 48) else false then true else !inI m (Int.ofNat 3) (Int.ofNat 48) then true else !above r then true else !fin s) && (decide (n = n) && decide (n ≤ 1000) && (n.toNat.ble 4611686018427387000 && (!!okW n.toNat c (ringX m r) (ringY m r) (helixZ s) && true))), A.tup [A.agg [A.ro 3 n.toNat (Row.vecs FloatKind.f32 (fun i => ringX m r i) (fun i => ringY m r i) fun i => helixZ s i), A.bool false, A.flt FloatKind.f32 c], A.bool true]) := by kernel_rfl
noncomputable def s26T : List A → Option (Bool × A)
  | [.int .i64 n, .int .i64 m, .flt .f32 r, .flt .f32 s, .flt .f32 c] => some (helixOk n m r s c, .tup [.agg [.ro 3 n.toNat (.vecs .f32 (ringX m r) (ringY m r) (helixZ s)), .bool false, .flt .f32 c], .bool true])
  | _ => none
theorem s26T_at : EnvAt Try.prog 27 s26T := of_autoS cfgGD_ok lp26T_ok Try.func27 (by kernel_rfl) (by kernel_rfl) fun ds cc rr h hc => by
  unfold s26T at h
  split at h
  · rename_i n m r s c
    simp only [Option.some.injEq, Prod.mk.injEq] at h
    obtain ⟨rfl, rfl⟩ := h
    refine auto_fit (auto26T n m r s c) ?_ ?_
    · rfl
    · obtain ⟨h1, h2, h3, h4, h5, h6⟩ := helix_ok hc
      have h1' : (bif decide (n ≥ 2) then decide (n ≤ 48) else false) = true := h1
      have h2' : inI m (Int.ofNat 3) (Int.ofNat 48) = true := h2
      rw [h1', h2', h3, h4, okW_rise h4, decide_eq_true (show n ≤ 1000 by omega), decide_eq_true rfl, ble_of (show n.toNat ≤ 4611686018427387000 by omega)]; rfl
  · cases h

noncomputable def lp26N : List (Nat × (St → T)) := [(0, N26)]
theorem lp26N_ok : LpOK Try.prog (look lp26N) (bodyOf Try.f27) := lp_loops (by kernel_rfl) (by kernel_rfl) fun p hp => by
  simp only [lp26N, List.mem_cons, List.not_mem_nil, or_false] at hp
  rcases hp with rfl
  · exact loopN26
theorem auto26N (n m : Int) (r s c : Nat) : autoS cfgGD (look lp26N) true Try.f27 [.int .i64 n, .int .i64 m, .flt .f32 r, .flt .f32 s, .flt .f32 c] =
    some (bif bif bif bif !bif decide (n ≥ 2) then decide (n ≤ 48) else false then true else !inI m (Int.ofNat 3) (Int.ofNat 48) then true else !above r then true else !fin s then true else decide (n = n) && decide (n ≤ 1000) && (n.toNat.ble 4611686018427387000 && (!okW n.toNat c (ringX m r) (ringY m r) (helixZ s) && true)), A.tup [A.agg [A.nils, A.bool (bif bif bif bif !bif decide (n ≥ 2) then decide (n ≤ 48) else false then true else !inI m (Int.ofNat 3) (Int.ofNat 48) then true else !above r then true else !fin s then false else false), A.flt FloatKind.f32 (bif bif bif bif !bif decide (n ≥ 2) then decide (n ≤ 48) else false then true else !inI m (Int.ofNat 3) (Int.ofNat 48) then true else !above r then true else !fin s then 0 else 0)], A.bool (bif bif bif bif !bif decide (n ≥ 2) then decide (n ≤ 48) else false then true else !inI m (Int.ofNat 3) (Int.ofNat 48) then true else !above r then true else !fin s then false else false)]) := by kernel_rfl
noncomputable def s26N : List A → Option (Bool × A)
  | [.int .i64 n, .int .i64 m, .flt .f32 r, .flt .f32 s, .flt .f32 c] => some (!helixOk n m r s c, .tup [.agg [.nils, .bool false, .flt .f32 0], .bool false])
  | _ => none
theorem s26N_at : EnvAt Try.prog 27 s26N := of_autoS cfgGD_ok lp26N_ok Try.func27 (by kernel_rfl) (by kernel_rfl) fun ds cc rr h hc => by
  unfold s26N at h
  split at h
  · rename_i n m r s c
    simp only [Option.some.injEq, Prod.mk.injEq] at h
    obtain ⟨rfl, rfl⟩ := h
    refine auto_fit (auto26N n m r s c) ?_ ?_
    · simp only [Bool.cond_self]
    · unfold helixOk at hc
      show (bif (bif bif bif !inN n then true else !inM m then true else !above r then true else !fin s) then true else decide (n = n) && decide (n ≤ 1000) && (n.toNat.ble 4611686018427387000 && ((!okW n.toNat c (ringX m r) (ringY m r) (helixZ s)) && true))) = true
      cases hA : inN n
      · rfl
      · cases hD : inM m
        · rfl
        · cases hB : above r
          · rfl
          · rw [hA, hB, hD] at hc
            have hC : okW n.toNat c (ringX m r) (ringY m r) (helixZ s) = false := by simpa using hc
            have h5 := (inN_ok hA).2
            rw [hC, decide_eq_true (show n ≤ 1000 by omega), decide_eq_true rfl, ble_of (show n.toNat ≤ 4611686018427387000 by omega)]
            cases fin s <;> rfl
  · cases h

noncomputable def s26F : List A → Option (Bool × A)
  | [.int .i64 n, .int .i64 m, .flt .f32 r, .flt .f32 s, .flt .f32 c] => some (!helixOk n m r s c, .tup [.agg [.emp, .bool false, .flt .f32 0], .bool false])
  | _ => none
theorem s26F_at : EnvAt Try.prog 27 s26F := by
  refine ⟨s26N_at.1, fun ds c r h hc => ?_⟩
  unfold s26F at h
  split at h
  · rename_i n m r s cc
    simp only [Option.some.injEq, Prod.mk.injEq] at h
    obtain ⟨rfl, rfl⟩ := h
    exact (s26N_at.2 [.int .i64 n, .int .i64 m, .flt .f32 r, .flt .f32 s, .flt .f32 cc] _ _ rfl hc).emp_of
  · cases h
end Go.Fw.E1

/-
  Wires that are turned: tables.
-/
namespace Go.Fw.E1
open Go.Proofs
noncomputable def ftsS : List (Nat × Func) := [(75, Try.f75), (85, Try.f85)]
theorem ftsS_ok (f : Nat) (fn : Func) (h : (f, fn) ∈ ftsS) : Try.prog.funcs[f]? = some fn ∧ (fn.name == "runtime.NumGoroutine") = false := by
  simp only [ftsS, List.mem_cons, Prod.mk.injEq, List.not_mem_nil, or_false] at h
  rcases h with ⟨rfl, rfl⟩ | ⟨rfl, rfl⟩
  · exact ⟨Try.func75, by kernel_rfl⟩
  · exact ⟨Try.func85, by kernel_rfl⟩
noncomputable def cfgS : Cfg := mkCfg tab ftsS xts (look env35)
theorem cfgS_ok : CfgOK Try.prog cfgS := cfg_ok tab_eq ftsS_ok xts_ok env35_ok mixed
noncomputable def cfgSD : Cfg := mkCfg (nilTab tab) ftsS xts (look env35)
theorem cfgSD_ok : CfgOK Try.prog cfgSD := cfgN_ok' tab_eq ftsS_ok xts_ok env35_ok mixed
end Go.Fw.E1

/-
  A wire that is turned: the reference's loop.
-/
namespace Go.Fw.E1
open Go.Proofs
theorem upto_self (k : Nat) (a b : Nat → Nat) : upto k a b k = b k := by simp [upto]
theorem upto_put {k v : Nat} {a b : Nat → Nat} (hv : v = a k) (j : Nat) : (match decide (j = k) with | true => v | false => upto k a b j) = upto (k + 1) a b j := by subst hv; exact upto_set a b j
theorem same_put {k : Nat} {z : Nat → Nat} (j : Nat) : (match decide (j = k) with | true => z k | false => z j) = z j := by
  by_cases h : j = k
  · subst h; simp
  · simp [h]
noncomputable def spX (c s : Nat) (x y : Nat → Nat) (p : Nat) : Nat := fop .sub .f32 (fop .mul .f32 c (x p)) (fop .mul .f32 s (y p))
noncomputable def spY (c s : Nat) (x y : Nat → Nat) (p : Nat) : Nat := fop .add .f32 (fop .mul .f32 s (x p)) (fop .mul .f32 c (y p))
theorem spX_at {c s k v : Nat} {x y : Nat → Nat} (h : v = fop .sub .f32 (fop .mul .f32 c (x k)) (fop .mul .f32 s (y k))) : v = spX c s x y k := h
theorem spY_at {c s k v : Nat} {x y : Nat → Nat} (h : v = fop .add .f32 (fop .mul .f32 s (x k)) (fop .mul .f32 c (y k))) : v = spY c s x y k := h
noncomputable def I36 (n cur c s : Nat) (x y z : Nat → Nat) (cl : Bool) (k : Nat) : List A := [.flt .f32 c, .flt .f32 s, .ptr 288 0, .int .i64 (Int.ofNat k), .ptr 16 0, .bool false]
noncomputable def J36 (n cur c s : Nat) (x y z : Nat → Nat) (cl : Bool) (k : Nat) : List O := [.var [.sl 416 n, .bool cl, .flt .f32 cur], .row 30 3 n (.vecs .f32 (upto k (spX c s x y) x) (upto k (spY c s x y) y) z), .var [.emp, .bool false, .flt .f32 0]]
noncomputable def F36 : List A → List (Option O) → Option R3
  | [.flt .f32 c, .flt .f32 s, .ptr 288 0, .int .i64 0, .ptr 16 0, .bool false], [some (.var [.sl 416 n, .bool cl, .flt .f32 cur]), some (.row 30 3 n2 (.vecs .f32 x y z)), some (.var [.emp, .bool false, .flt .f32 0])] => some (.ite (Nat.beq n n2 && Nat.ble n 1073741824) (.leaf .normal (I36 n cur c s x y z cl (n)) [.var [.sl 416 n, .bool cl, .flt .f32 cur], .row 30 3 n (.vecs .f32 (spX c s x y) (spY c s x y) z), .var [.emp, .bool false, .flt .f32 0]]) .fail)
  | _, _ => none
end Go.Fw.E1

/-
  A wire that is turned: the reference.
-/
namespace Go.Fw.E1
open Go.Proofs
noncomputable def sT (t : Nat) : Nat := fcvt .f64 .f32 (sineW (fcvt .f32 .f64 t))
noncomputable def cT (t : Nat) : Nat := fcvt .f64 .f32 (sineW (fcvt .f32 .f64 (fop .add .f32 t (can .f32 1048576000))))
noncomputable def spinOk (n cur : Nat) (x y z : Nat → Nat) (t : Nat) : Bool := okW n cur x y z && fin t && okW n cur (spX (cT t) (sT t) x y) (spY (cT t) (sT t) x y) z
theorem spin_ok {n cur t : Nat} {x y z : Nat → Nat} (h : spinOk n cur x y z t = true) : okW n cur x y z = true ∧ fin t = true ∧ okW n cur (spX (cT t) (sT t) x y) (spY (cT t) (sT t) x y) z = true ∧ 1 ≤ n ∧ n ≤ 1000 := by
  unfold spinOk at h
  simp only [Bool.and_eq_true] at h
  obtain ⟨⟨h1, h2⟩, h3⟩ := h
  exact ⟨h1, h2, h3, by have := okW_n h1; omega, by have := okW_n h1; omega⟩
noncomputable def s36T : List A → Option (Bool × A)
  | [.agg [.ro 3 n (.vecs .f32 x y z), .bool cl, .flt .f32 cur], .flt .f32 t] => some (spinOk n cur x y z t, .tup [.agg [.ro 3 n (.vecs .f32 (spX (cT t) (sT t) x y) (spY (cT t) (sT t) x y) z), .bool cl, .flt .f32 cur], .bool true])
  | _ => none
noncomputable def s36F : List A → Option (Bool × A)
  | [.agg [.ro 3 n (.vecs .f32 x y z), .bool cl, .flt .f32 cur], .flt .f32 t] => some (Nat.ble n 4611686018427387000 && !spinOk n cur x y z t, .tup [.agg [.emp, .bool false, .flt .f32 0], .bool false])
  | _ => none
end Go.Fw.E1

/-
  A wire that is turned: the program's point.
-/
namespace Go.Fw.E1
open Go.Proofs
theorem auto96 (x y z c s : Nat) : autoLp cfg34 (fun _ => none) Try.f90 [.agg [.flt .f32 x, .flt .f32 y, .flt .f32 z], .rop (.agg [.flt .f32 c]) 0, .rop (.agg [.flt .f32 s]) 0] =
    some (true, A.agg [A.flt FloatKind.f32 (fop BinOp.sub FloatKind.f32 (fop BinOp.mul FloatKind.f32 c x) (fop BinOp.mul FloatKind.f32 s y)), A.flt FloatKind.f32 (fop BinOp.add FloatKind.f32 (fop BinOp.mul FloatKind.f32 s x) (fop BinOp.mul FloatKind.f32 c y)), A.flt FloatKind.f32 z]) := by kernel_rfl
noncomputable def s96 : List A → Option (Bool × A)
  | [.agg [.flt .f32 x, .flt .f32 y, .flt .f32 z], .rop (.agg [.flt .f32 c]) 0, .rop (.agg [.flt .f32 s]) 0] => some (true, .agg [.flt .f32 (fop .sub .f32 (fop .mul .f32 c x) (fop .mul .f32 s y)), .flt .f32 (fop .add .f32 (fop .mul .f32 s x) (fop .mul .f32 c y)), .flt .f32 z])
  | _ => none
theorem s96_at : EnvAt Try.prog 90 s96 := of_auto cfg34_ok (lp_none _) Try.func90 (by kernel_rfl) (by kernel_rfl) fun ds cc rr h hc => by
  unfold s96 at h
  split at h
  · rename_i x y z c s
    simp only [Option.some.injEq, Prod.mk.injEq] at h
    obtain ⟨rfl, rfl⟩ := h
    refine auto_fit (auto96 x y z c s) ?_ ?_
    · rfl
    · rfl
  · cases h

noncomputable def env39 : List (Nat × (List A → Option (Bool × A))) := (90, s96) :: env35
theorem env39_ok : EnvOK Try.prog (look env39) := (env_cons s96_at env35_ok)
noncomputable def cfg39 : Cfg := mkCfg tab [] xts (look env39)
theorem cfg39_ok : CfgOK Try.prog cfg39 := cfg_ok tab_eq (no_fts _) xts_ok env39_ok mixed
noncomputable def cfgGN : Cfg := mkCfg (nilTab tab) fts75 xts (look env39)
theorem cfgGN_ok : CfgOK Try.prog cfgGN := cfgN_ok' tab_eq fts75_ok xts_ok env39_ok mixed
end Go.Fw.E1

/-
  A wire that is turned: the program.
-/
namespace Go.Fw.E1
open Go.Proofs
noncomputable def I95 (n cur c s : Nat) (x y z : Nat → Nat) (cl : Bool) (k : Nat) : List A := [.fn 90 [.rop (.agg [.flt .f32 c]) 0, .rop (.agg [.flt .f32 s]) 0], .ro 3 n (.vecs .f32 x y z), .int .i64 (Int.ofNat n), .int .i64 (Int.ofNat k), .ptr 176 0, .ptr 16 0, .bool false]
noncomputable def J95 (n cur c s : Nat) (x y z : Nat → Nat) (cl : Bool) (k : Nat) : List O := [.var [.sl 272 k, .bool cl, .flt .f32 cur], .row 30 3 k (.vecs .f32 (spX c s x y) (spY c s x y) z), .var [.nils, .bool false, .flt .f32 0]]
theorem round95 (n cur c s : Nat) (x y z : Nat → Nat) (cl : Bool) (k : Nat) (L : XK → List A → List (Option O) → Prop) :
    ((exec cfgGN (fun _ => true) (fun _ => none) 0 1000 (loopOf Try.f85 0) (litSt Try.f85.ntmps 288 [1, 19, 20, 21, 6, 4, 5] [176, 272, 16] (I95 n cur c s x y z cl k) (J95 n cur c s x y z cl k))).rt [1, 19, 20, 21, 6, 4, 5] [176, 272, 16]).Ok L =
    bif decide (Int.ofNat k < Int.ofNat n) then 
       bif decide (Int.ofNat k < Int.ofNat n) then 
         bif decide (k + 1 ≤ 1073741824) then 
           L (XK.normal) ([A.fn 90 [(A.agg [A.flt FloatKind.f32 c]).rop 0, (A.agg [A.flt FloatKind.f32 s]).rop 0], A.ro 3 n (Row.vecs FloatKind.f32 x y z), A.int IntKind.i64 (Int.ofNat n), A.int IntKind.i64 (IntKind.i64.wrap (Int.ofNat k + Int.ofNat 1)), A.ptr 176 0, A.ptr 16 0, A.bool false]) ([some (O.var [A.sl 272 (k + 1), A.bool cl, A.flt FloatKind.f32 cur]),   some     (O.row 30 3 (k + 1)       (Row.vecs FloatKind.f32         (fun j =>           (match decide (j < k) with | true => spX c s x y j | false => ([[fop BinOp.sub FloatKind.f32 (fop BinOp.mul FloatKind.f32 c (x k)) (fop BinOp.mul FloatKind.f32 s (y k)), fop BinOp.add FloatKind.f32 (fop BinOp.mul FloatKind.f32 s (x k)) (fop BinOp.mul FloatKind.f32 c (y k)), z k]].getD (j - k) []).getD 0 0))         (fun j =>           (match decide (j < k) with | true => spY c s x y j | false => ([[fop BinOp.sub FloatKind.f32 (fop BinOp.mul FloatKind.f32 c (x k)) (fop BinOp.mul FloatKind.f32 s (y k)), fop BinOp.add FloatKind.f32 (fop BinOp.mul FloatKind.f32 s (x k)) (fop BinOp.mul FloatKind.f32 c (y k)), z k]].getD (j - k) []).getD 1 0))         fun j =>         (match decide (j < k) with | true => z j | false => ([[fop BinOp.sub FloatKind.f32 (fop BinOp.mul FloatKind.f32 c (x k)) (fop BinOp.mul FloatKind.f32 s (y k)), fop BinOp.add FloatKind.f32 (fop BinOp.mul FloatKind.f32 s (x k)) (fop BinOp.mul FloatKind.f32 c (y k)), z k]].getD (j - k) []).getD 2 0))),   some (O.var [A.nils, A.bool false, A.flt FloatKind.f32 0])]) 
         else 
           False 
       else 
         False 
     else 
       L (XK.exit 0) ([A.fn 90 [(A.agg [A.flt FloatKind.f32 c]).rop 0, (A.agg [A.flt FloatKind.f32 s]).rop 0], A.ro 3 n (Row.vecs FloatKind.f32 x y z), A.int IntKind.i64 (Int.ofNat n), A.int IntKind.i64 (Int.ofNat k), A.ptr 176 0, A.ptr 16 0, A.bool false]) ([some (O.var [A.sl 272 k, A.bool cl, A.flt FloatKind.f32 cur]), some (O.row 30 3 k (Row.vecs FloatKind.f32 (fun p => spX c s x y p) (fun p => spY c s x y p) z)), some (O.var [A.nils, A.bool false, A.flt FloatKind.f32 0])]) := by kernel_rfl
noncomputable def F95 : List A → List (Option O) → Option R3
  | [.fn 90 [.rop (.agg [.flt .f32 c]) 0, .rop (.agg [.flt .f32 s]) 0], .ro 3 n (.vecs .f32 x y z), .int .i64 l, .int .i64 0, .ptr 176 0, .ptr 16 0, .bool false], [some (.var [.sl 272 0, .bool cl, .flt .f32 cur]), some (.row 30 3 0 g), some (.var [.nils, .bool false, .flt .f32 0])] => some (.ite (decide (l = Int.ofNat n) && Nat.ble n 1000) (.leaf .normal (I95 n cur c s x y z cl (n)) (J95 n cur c s x y z cl (n))) .fail)
  | _, _ => none
theorem loop95 : CodeOK Try.prog (fun _ σ => sumAt Try.f85.ntmps 288 [1, 19, 20, 21, 6, 4, 5] [176, 272, 16] F95 σ) (.block 0 (.loop (loopOf Try.f85 0))) := by
  refine block_ok (own := fun _ => true) (lp := (fun _ => none)) (un := 0) (fuel := 1000) cfgGN_ok (lp_none _) fun az os R hF hok => ?_
  unfold F95 at hF
  split at hF
  · rename_i c s n x y z l cl cur g
    injection hF with hF
    subst hF
    have hg := hok.guard
    have hg' := hg
    simp only [Bool.and_eq_true, Nat.ble_eq, Nat.beq_eq, decide_eq_true_eq] at hg'
    obtain ⟨rfl, hn⟩ := hg'
    refine for_fact (ids := [176, 272, 16]) (fun _ => true) (n) (I95 n cur c s x y z cl) (J95 n cur c s x y z cl) _ (.ret) (I95 n cur c s x y z cl) (I95 n cur c s x y z cl) (I95 n cur c s x y z cl (n)) (J95 n cur c s x y z cl (n)) rfl (by unfold J95; exact ⟨rfl, ⟨30, _, rfl, .inr rfl, fun p hp => absurd hp (by omega)⟩, rfl, trivial⟩) (fun _ => rfl) (fun _ => rfl) (fun _ => ALe.self _) (fun _ => rfl) (ALe.self _) (OSims.self _) rfl (fun h => by cases h) (fun k hk L h1 h2 h3 => ?_) fun L hL => ?_
    · rw [round95]

      by_cases hkm : k < n
      · refine condT (lt_dec hkm) ?_
        rw [wrap_succ (by omega)]
        refine condT (lt_dec hkm) ?_
        refine condT (decide_eq_true (by omega)) ?_
        exact h1 hkm rfl _ ⟨rfl, ⟨30, _, rfl, .inr rfl, fun p hp => vec_at (app3 (u := spX c s x y) rfl hp) (app3 (u := spY c s x y) rfl hp) (app3 (u := z) rfl hp)⟩, rfl, trivial⟩
      · refine condE (ge_dec (by omega)) ?_
        obtain rfl : k = n := by omega
        exact h3 rfl
    · exact ⟨fun _ => hL.1 hg, fun N _ h => by cases h⟩
  · cases hF

noncomputable def N95 : St → T := nilW 176 0 30 3 (sumAt Try.f85.ntmps 288 [1, 19, 20, 21, 6, 4, 5] [176, 272, 16] F95)
theorem loopN95 : CodeOK Try.prog (fun _ σ => N95 σ) (.block 0 (.loop (loopOf Try.f85 0))) := nilW_ok loop95
noncomputable def chgOk (n cur c s : Nat) (x y z : Nat → Nat) : Bool := okW n cur x y z && okW n cur (spX c s x y) (spY c s x y) z
noncomputable def lp95T : List (Nat × (St → T)) := [(0, N95)]
theorem lp95T_ok : LpOK Try.prog (look lp95T) (bodyOf Try.f85) := lp_loops (by kernel_rfl) (by kernel_rfl) fun p hp => by
  simp only [lp95T, List.mem_cons, List.not_mem_nil, or_false] at hp
  rcases hp with rfl
  · exact loopN95
theorem auto95T (n cur : Nat) (x y z : Nat → Nat) (cl : Bool) (c s : Nat) : autoS cfgGN (look lp95T) false Try.f85 [.agg [.ro 3 n (.vecs .f32 x y z), .bool cl, .flt .f32 cur], .fn 90 [.rop (.agg [.flt .f32 c]) 0, .rop (.agg [.flt .f32 s]) 0]] =
    some (n.ble 4611686018427387000 && (!!okW n cur x y z && (decide (Int.ofNat n = Int.ofNat n) && n.ble 1000 && (n.ble 4611686018427387000 && (!!okW n cur (spX c s x y) (spY c s x y) z && true)))), A.tup [A.agg [A.ro 3 n (Row.vecs FloatKind.f32 (fun p => spX c s x y p) (fun p => spY c s x y p) z), A.bool cl, A.flt FloatKind.f32 cur], A.bool true]) := by kernel_rfl
noncomputable def s95T : List A → Option (Bool × A)
  | [.agg [.ro 3 n (.vecs .f32 x y z), .bool cl, .flt .f32 cur], .fn 90 [.rop (.agg [.flt .f32 c]) 0, .rop (.agg [.flt .f32 s]) 0]] => some (chgOk n cur c s x y z, .tup [.agg [.ro 3 n (.vecs .f32 (spX c s x y) (spY c s x y) z), .bool cl, .flt .f32 cur], .bool true])
  | _ => none
theorem s95T_at : EnvAt Try.prog 85 s95T := of_autoS cfgGN_ok lp95T_ok Try.func85 (by kernel_rfl) (by kernel_rfl) fun ds cc rr h hc => by
  unfold s95T at h
  split at h
  · rename_i n x y z cl cur c s
    simp only [Option.some.injEq, Prod.mk.injEq] at h
    obtain ⟨rfl, rfl⟩ := h
    refine auto_fit (auto95T n cur x y z cl c s) ?_ ?_
    · rfl
    · obtain ⟨h1, h2⟩ := (Bool.and_eq_true _ _).mp hc
      have h5 := okW_n h1
      show (n.ble 4611686018427387000 && (!!okW n cur x y z && (decide (Int.ofNat n = Int.ofNat n) && n.ble 1000 && (n.ble 4611686018427387000 && (!!okW n cur (spX c s x y) (spY c s x y) z && true))))) = true
      rw [h1, h2, ble_of (show n ≤ 4611686018427387000 by omega), ble_of (show n ≤ 1000 by omega), decide_eq_true rfl]; rfl
  · cases h

noncomputable def lp95N : List (Nat × (St → T)) := [(0, N95)]
theorem lp95N_ok : LpOK Try.prog (look lp95N) (bodyOf Try.f85) := lp_loops (by kernel_rfl) (by kernel_rfl) fun p hp => by
  simp only [lp95N, List.mem_cons, List.not_mem_nil, or_false] at hp
  rcases hp with rfl
  · exact loopN95
theorem auto95N (n cur : Nat) (x y z : Nat → Nat) (cl : Bool) (c s : Nat) : autoS cfgGN (look lp95N) true Try.f85 [.agg [.ro 3 n (.vecs .f32 x y z), .bool cl, .flt .f32 cur], .fn 90 [.rop (.agg [.flt .f32 c]) 0, .rop (.agg [.flt .f32 s]) 0]] =
    some (n.ble 4611686018427387000 && bif !okW n cur x y z then true else decide (Int.ofNat n = Int.ofNat n) && n.ble 1000 && (n.ble 4611686018427387000 && (!okW n cur (spX c s x y) (spY c s x y) z && true)), A.tup [A.agg [A.nils, A.bool (bif !okW n cur x y z then false else false), A.flt FloatKind.f32 (bif !okW n cur x y z then 0 else 0)], A.bool (bif !okW n cur x y z then false else false)]) := by kernel_rfl
noncomputable def s95N : List A → Option (Bool × A)
  | [.agg [.ro 3 n (.vecs .f32 x y z), .bool cl, .flt .f32 cur], .fn 90 [.rop (.agg [.flt .f32 c]) 0, .rop (.agg [.flt .f32 s]) 0]] => some (Nat.ble n 4611686018427387000 && !chgOk n cur c s x y z, .tup [.agg [.nils, .bool false, .flt .f32 0], .bool false])
  | _ => none
theorem s95N_at : EnvAt Try.prog 85 s95N := of_autoS cfgGN_ok lp95N_ok Try.func85 (by kernel_rfl) (by kernel_rfl) fun ds cc rr h hc => by
  unfold s95N at h
  split at h
  · rename_i n x y z cl cur c s
    simp only [Option.some.injEq, Prod.mk.injEq] at h
    obtain ⟨rfl, rfl⟩ := h
    refine auto_fit (auto95N n cur x y z cl c s) ?_ ?_
    · simp only [Bool.cond_self]
    · simp only [Bool.and_eq_true] at hc
      have hn := hc.1
      have hc := hc.2
      show (n.ble 4611686018427387000 && bif !okW n cur x y z then true else decide (Int.ofNat n = Int.ofNat n) && n.ble 1000 && (n.ble 4611686018427387000 && (!okW n cur (spX c s x y) (spY c s x y) z && true))) = true
      rw [hn]
      cases hA : okW n cur x y z
      · rfl
      · unfold chgOk at hc
        rw [hA] at hc
        have hC : okW n cur (spX c s x y) (spY c s x y) z = false := by simpa using hc
        have h5 := okW_n hA
        rw [hC, ble_of (show n ≤ 1000 by omega), decide_eq_true rfl]; rfl
  · cases h

noncomputable def env40T : List (Nat × (List A → Option (Bool × A))) := (85, s95T) :: env39
theorem env40T_ok : EnvOK Try.prog (look env40T) := (env_cons s95T_at env39_ok)
noncomputable def cfg40T : Cfg := mkCfg tab [] xts (look env40T)
theorem cfg40T_ok : CfgOK Try.prog cfg40T := cfg_ok tab_eq (no_fts _) xts_ok env40T_ok mixed
noncomputable def env40N : List (Nat × (List A → Option (Bool × A))) := (85, s95N) :: env39
theorem env40N_ok : EnvOK Try.prog (look env40N) := (env_cons s95N_at env39_ok)
noncomputable def cfg40N : Cfg := mkCfg tab [] xts (look env40N)
theorem cfg40N_ok : CfgOK Try.prog cfg40N := cfg_ok tab_eq (no_fts _) xts_ok env40N_ok mixed
noncomputable def cfgGT : Cfg := mkCfg (nilTab tab) fts75 xts (look env40T)
theorem cfgGT_ok : CfgOK Try.prog cfgGT := cfgN_ok' tab_eq fts75_ok xts_ok env40T_ok mixed
noncomputable def cfgGNN : Cfg := mkCfg (nilTab tab) fts75 xts (look env40N)
theorem cfgGNN_ok : CfgOK Try.prog cfgGNN := cfgN_ok' tab_eq fts75_ok xts_ok env40N_ok mixed
theorem auto37T (n cur : Nat) (x y z : Nat → Nat) (cl : Bool) (t : Nat) : autoS cfgGT (fun _ => none) false Try.f36 [.agg [.ro 3 n (.vecs .f32 x y z), .bool cl, .flt .f32 cur], .flt .f32 t] =
    some (!!fin t && (chgOk n cur (fcvt FloatKind.f64 FloatKind.f32 (sineW (fcvt FloatKind.f32 FloatKind.f64 (fop BinOp.add FloatKind.f32 t (can FloatKind.f32 1048576000))))) (fcvt FloatKind.f64 FloatKind.f32 (sineW (fcvt FloatKind.f32 FloatKind.f64 t))) x y z && true), A.tup [A.agg [A.ro 3 n (Row.vecs FloatKind.f32 (fun p => spX (fcvt FloatKind.f64 FloatKind.f32 (sineW (fcvt FloatKind.f32 FloatKind.f64 (fop BinOp.add FloatKind.f32 t (can FloatKind.f32 1048576000))))) (fcvt FloatKind.f64 FloatKind.f32 (sineW (fcvt FloatKind.f32 FloatKind.f64 t))) x y p) (fun p => spY (fcvt FloatKind.f64 FloatKind.f32 (sineW (fcvt FloatKind.f32 FloatKind.f64 (fop BinOp.add FloatKind.f32 t (can FloatKind.f32 1048576000))))) (fcvt FloatKind.f64 FloatKind.f32 (sineW (fcvt FloatKind.f32 FloatKind.f64 t))) x y p) z), A.bool cl, A.flt FloatKind.f32 cur], A.bool true]) := by kernel_rfl
noncomputable def s37T : List A → Option (Bool × A)
  | [.agg [.ro 3 n (.vecs .f32 x y z), .bool cl, .flt .f32 cur], .flt .f32 t] => some (spinOk n cur x y z t, .tup [.agg [.ro 3 n (.vecs .f32 (spX (cT t) (sT t) x y) (spY (cT t) (sT t) x y) z), .bool cl, .flt .f32 cur], .bool true])
  | _ => none
theorem s37T_at : EnvAt Try.prog 36 s37T := of_autoS cfgGT_ok (lp_none _) Try.func36 (by kernel_rfl) (by kernel_rfl) fun ds cc rr h hc => by
  unfold s37T at h
  split at h
  · rename_i n x y z cl cur t
    simp only [Option.some.injEq, Prod.mk.injEq] at h
    obtain ⟨rfl, rfl⟩ := h
    refine auto_fit (auto37T n cur x y z cl t) ?_ ?_
    · rfl
    · obtain ⟨h1, h2, h3, h4, h5⟩ := spin_ok hc
      show (!!fin t && (chgOk n cur (cT t) (sT t) x y z && true)) = true
      unfold chgOk
      rw [h1, h2, h3]; rfl
  · cases h

theorem auto37N (n cur : Nat) (x y z : Nat → Nat) (cl : Bool) (t : Nat) : autoS cfgGNN (fun _ => none) true Try.f36 [.agg [.ro 3 n (.vecs .f32 x y z), .bool cl, .flt .f32 cur], .flt .f32 t] =
    some (bif !fin t then true else n.ble 4611686018427387000 && !chgOk n cur (fcvt FloatKind.f64 FloatKind.f32 (sineW (fcvt FloatKind.f32 FloatKind.f64 (fop BinOp.add FloatKind.f32 t (can FloatKind.f32 1048576000))))) (fcvt FloatKind.f64 FloatKind.f32 (sineW (fcvt FloatKind.f32 FloatKind.f64 t))) x y z && true, A.tup [A.agg [A.nils, A.bool (bif !fin t then false else false), A.flt FloatKind.f32 (bif !fin t then 0 else 0)], A.bool (bif !fin t then false else false)]) := by kernel_rfl
noncomputable def s37N : List A → Option (Bool × A)
  | [.agg [.ro 3 n (.vecs .f32 x y z), .bool cl, .flt .f32 cur], .flt .f32 t] => some (Nat.ble n 4611686018427387000 && !spinOk n cur x y z t, .tup [.agg [.nils, .bool false, .flt .f32 0], .bool false])
  | _ => none
theorem s37N_at : EnvAt Try.prog 36 s37N := of_autoS cfgGNN_ok (lp_none _) Try.func36 (by kernel_rfl) (by kernel_rfl) fun ds cc rr h hc => by
  unfold s37N at h
  split at h
  · rename_i n x y z cl cur t
    simp only [Option.some.injEq, Prod.mk.injEq] at h
    obtain ⟨rfl, rfl⟩ := h
    refine auto_fit (auto37N n cur x y z cl t) ?_ ?_
    · simp only [Bool.cond_self]
    · simp only [Bool.and_eq_true] at hc
      have hn := hc.1
      have hc := hc.2
      show (bif !fin t then true else n.ble 4611686018427387000 && !chgOk n cur (cT t) (sT t) x y z && true) = true
      rw [hn]
      unfold spinOk at hc
      unfold chgOk
      revert hc
      cases fin t <;> cases okW n cur x y z <;> cases okW n cur (spX (cT t) (sT t) x y) (spY (cT t) (sT t) x y) z <;> simp
  · cases h

noncomputable def s37F : List A → Option (Bool × A)
  | [.agg [.ro 3 n (.vecs .f32 x y z), .bool _, .flt .f32 cur], .flt .f32 t] => some (Nat.ble n 4611686018427387000 && !spinOk n cur x y z t, .tup [.agg [.emp, .bool false, .flt .f32 0], .bool false])
  | _ => none
theorem s37F_at : EnvAt Try.prog 36 s37F := by
  refine ⟨s37N_at.1, fun ds c r h hc => ?_⟩
  unfold s37F at h
  split at h
  · rename_i n x y z cl cur t
    simp only [Option.some.injEq, Prod.mk.injEq] at h
    obtain ⟨rfl, rfl⟩ := h
    exact (s37N_at.2 [.agg [.ro 3 n (.vecs .f32 x y z), .bool cl, .flt .f32 cur], .flt .f32 t] _ _ rfl hc).emp_of
  · cases h
end Go.Fw.E1

/-
  Wires that are moved: tables.
-/
namespace Go.Fw.E1
open Go.Proofs
theorem auto140 (x y z a b c : Nat) : autoLp cfg35 (fun _ => none) Try.f86 [.agg [.flt .f32 x, .flt .f32 y, .flt .f32 z], .rop (.agg [.flt .f32 a, .flt .f32 b, .flt .f32 c]) 0] =
    some (true, A.agg [A.flt FloatKind.f32 (fop BinOp.add FloatKind.f32 x a), A.flt FloatKind.f32 (fop BinOp.add FloatKind.f32 y b), A.flt FloatKind.f32 (fop BinOp.add FloatKind.f32 z c)]) := by kernel_rfl
noncomputable def s140 : List A → Option (Bool × A)
  | [.agg [.flt .f32 x, .flt .f32 y, .flt .f32 z], .rop (.agg [.flt .f32 a, .flt .f32 b, .flt .f32 c]) 0] => some (true, .agg [.flt .f32 (fop .add .f32 x a), .flt .f32 (fop .add .f32 y b), .flt .f32 (fop .add .f32 z c)])
  | _ => none
theorem s140_at : EnvAt Try.prog 86 s140 := of_auto cfg35_ok (lp_none _) Try.func86 (by kernel_rfl) (by kernel_rfl) fun ds cc rr h hc => by
  unfold s140 at h
  split at h
  · rename_i x y z a b c
    simp only [Option.some.injEq, Prod.mk.injEq] at h
    obtain ⟨rfl, rfl⟩ := h
    refine auto_fit (auto140 x y z a b c) ?_ ?_
    · rfl
    · rfl
  · cases h

noncomputable def env41 : List (Nat × (List A → Option (Bool × A))) := (86, s140) :: env35
theorem env41_ok : EnvOK Try.prog (look env41) := (env_cons s140_at env35_ok)
noncomputable def cfg41 : Cfg := mkCfg tab [] xts (look env41)
theorem cfg41_ok : CfgOK Try.prog cfg41 := cfg_ok tab_eq (no_fts _) xts_ok env41_ok mixed
noncomputable def cfgMN : Cfg := mkCfg (nilTab tab) fts75 xts (look env41)
theorem cfgMN_ok : CfgOK Try.prog cfgMN := cfgN_ok' tab_eq fts75_ok xts_ok env41_ok mixed
end Go.Fw.E1

/-
  Wires that are moved.
-/
namespace Go.Fw.E1
open Go.Proofs
noncomputable def adX (a : Nat) (x : Nat → Nat) (p : Nat) : Nat := fop .add .f32 (x p) a
theorem adX_at {a k v : Nat} {x : Nat → Nat} (h : v = fop .add .f32 (x k) a) : v = adX a x k := h
noncomputable def I120 (n cur a b c : Nat) (x y z : Nat → Nat) (cl : Bool) (k : Nat) : List A := [.ptr 112 0, .int .i64 (Int.ofNat k), .ptr 16 0, .ptr 32 0, .bool false]
noncomputable def J120 (n cur a b c : Nat) (x y z : Nat → Nat) (cl : Bool) (k : Nat) : List O := [.var [.sl 240 n, .bool cl, .flt .f32 cur], .row 30 3 n (.vecs .f32 (upto k (adX a x) x) (upto k (adX b y) y) (upto k (adX c z) z)), .var [.flt .f32 a, .flt .f32 b, .flt .f32 c], .var [.nils, .bool false, .flt .f32 0]]
noncomputable def F120 : List A → List (Option O) → Option R3
  | [.ptr 112 0, .int .i64 0, .ptr 16 0, .ptr 32 0, .bool false], [some (.var [.sl 240 n, .bool cl, .flt .f32 cur]), some (.row 30 3 n2 (.vecs .f32 x y z)), some (.var [.flt .f32 a, .flt .f32 b, .flt .f32 c]), some (.var [.nils, .bool false, .flt .f32 0])] => some (.ite (Nat.beq n n2 && Nat.ble n 1073741824) (.leaf .normal (I120 n cur a b c x y z cl (n)) [.var [.sl 240 n, .bool cl, .flt .f32 cur], .row 30 3 n (.vecs .f32 (adX a x) (adX b y) (adX c z)), .var [.flt .f32 a, .flt .f32 b, .flt .f32 c], .var [.nils, .bool false, .flt .f32 0]]) .fail)
  | _, _ => none
noncomputable def I95m (n cur a b c : Nat) (x y z : Nat → Nat) (cl : Bool) (k : Nat) : List A := [.fn 86 [.rop (.agg [.flt .f32 a, .flt .f32 b, .flt .f32 c]) 0], .ro 3 n (.vecs .f32 x y z), .int .i64 (Int.ofNat n), .int .i64 (Int.ofNat k), .ptr 176 0, .ptr 16 0, .bool false]
noncomputable def J95m (n cur a b c : Nat) (x y z : Nat → Nat) (cl : Bool) (k : Nat) : List O := [.var [.sl 272 k, .bool cl, .flt .f32 cur], .row 30 3 k (.vecs .f32 (adX a x) (adX b y) (adX c z)), .var [.nils, .bool false, .flt .f32 0]]
theorem round95m (n cur a b c : Nat) (x y z : Nat → Nat) (cl : Bool) (k : Nat) (L : XK → List A → List (Option O) → Prop) :
    ((exec cfgMN (fun _ => true) (fun _ => none) 0 1000 (loopOf Try.f85 0) (litSt Try.f85.ntmps 288 [1, 19, 20, 21, 6, 4, 5] [176, 272, 16] (I95m n cur a b c x y z cl k) (J95m n cur a b c x y z cl k))).rt [1, 19, 20, 21, 6, 4, 5] [176, 272, 16]).Ok L =
    bif decide (Int.ofNat k < Int.ofNat n) then 
       bif decide (Int.ofNat k < Int.ofNat n) then 
         bif decide (k + 1 ≤ 1073741824) then 
           L (XK.normal) ([A.fn 86 [(A.agg [A.flt FloatKind.f32 a, A.flt FloatKind.f32 b, A.flt FloatKind.f32 c]).rop 0], A.ro 3 n (Row.vecs FloatKind.f32 x y z), A.int IntKind.i64 (Int.ofNat n), A.int IntKind.i64 (IntKind.i64.wrap (Int.ofNat k + Int.ofNat 1)), A.ptr 176 0, A.ptr 16 0, A.bool false]) ([some (O.var [A.sl 272 (k + 1), A.bool cl, A.flt FloatKind.f32 cur]),   some     (O.row 30 3 (k + 1)       (Row.vecs FloatKind.f32         (fun j =>           (match decide (j < k) with | true => adX a x j | false => ([[fop BinOp.add FloatKind.f32 (x k) a, fop BinOp.add FloatKind.f32 (y k) b, fop BinOp.add FloatKind.f32 (z k) c]].getD (j - k) []).getD 0 0))         (fun j =>           (match decide (j < k) with | true => adX b y j | false => ([[fop BinOp.add FloatKind.f32 (x k) a, fop BinOp.add FloatKind.f32 (y k) b, fop BinOp.add FloatKind.f32 (z k) c]].getD (j - k) []).getD 1 0))         fun j =>         (match decide (j < k) with | true => adX c z j | false => ([[fop BinOp.add FloatKind.f32 (x k) a, fop BinOp.add FloatKind.f32 (y k) b, fop BinOp.add FloatKind.f32 (z k) c]].getD (j - k) []).getD 2 0))),   some (O.var [A.nils, A.bool false, A.flt FloatKind.f32 0])]) 
         else 
           False 
       else 
         False 
     else 
       L (XK.exit 0) ([A.fn 86 [(A.agg [A.flt FloatKind.f32 a, A.flt FloatKind.f32 b, A.flt FloatKind.f32 c]).rop 0], A.ro 3 n (Row.vecs FloatKind.f32 x y z), A.int IntKind.i64 (Int.ofNat n), A.int IntKind.i64 (Int.ofNat k), A.ptr 176 0, A.ptr 16 0, A.bool false]) ([some (O.var [A.sl 272 k, A.bool cl, A.flt FloatKind.f32 cur]), some (O.row 30 3 k (Row.vecs FloatKind.f32 (fun p => adX a x p) (fun p => adX b y p) fun p => adX c z p)), some (O.var [A.nils, A.bool false, A.flt FloatKind.f32 0])]) := by kernel_rfl
noncomputable def F95m : List A → List (Option O) → Option R3
  | [.fn 86 [.rop (.agg [.flt .f32 a, .flt .f32 b, .flt .f32 c]) 0], .ro 3 n (.vecs .f32 x y z), .int .i64 l, .int .i64 0, .ptr 176 0, .ptr 16 0, .bool false], [some (.var [.sl 272 0, .bool cl, .flt .f32 cur]), some (.row 30 3 0 g), some (.var [.nils, .bool false, .flt .f32 0])] => some (.ite (decide (l = Int.ofNat n) && Nat.ble n 1000) (.leaf .normal (I95m n cur a b c x y z cl (n)) (J95m n cur a b c x y z cl (n))) .fail)
  | _, _ => none
theorem loop95m : CodeOK Try.prog (fun _ σ => sumAt Try.f85.ntmps 288 [1, 19, 20, 21, 6, 4, 5] [176, 272, 16] F95m σ) (.block 0 (.loop (loopOf Try.f85 0))) := by
  refine block_ok (own := fun _ => true) (lp := (fun _ => none)) (un := 0) (fuel := 1000) cfgMN_ok (lp_none _) fun az os R hF hok => ?_
  unfold F95m at hF
  split at hF
  · rename_i a b c n x y z l cl cur g
    injection hF with hF
    subst hF
    have hg := hok.guard
    have hg' := hg
    simp only [Bool.and_eq_true, Nat.ble_eq, Nat.beq_eq, decide_eq_true_eq] at hg'
    obtain ⟨rfl, hn⟩ := hg'
    refine for_fact (ids := [176, 272, 16]) (fun _ => true) (n) (I95m n cur a b c x y z cl) (J95m n cur a b c x y z cl) _ (.ret) (I95m n cur a b c x y z cl) (I95m n cur a b c x y z cl) (I95m n cur a b c x y z cl (n)) (J95m n cur a b c x y z cl (n)) rfl (by unfold J95m; exact ⟨rfl, ⟨30, _, rfl, .inr rfl, fun p hp => absurd hp (by omega)⟩, rfl, trivial⟩) (fun _ => rfl) (fun _ => rfl) (fun _ => ALe.self _) (fun _ => rfl) (ALe.self _) (OSims.self _) rfl (fun h => by cases h) (fun k hk L h1 h2 h3 => ?_) fun L hL => ?_
    · rw [round95m]

      by_cases hkm : k < n
      · refine condT (lt_dec hkm) ?_
        rw [wrap_succ (by omega)]
        refine condT (lt_dec hkm) ?_
        refine condT (decide_eq_true (by omega)) ?_
        exact h1 hkm rfl _ ⟨rfl, ⟨30, _, rfl, .inr rfl, fun p hp => vec_at (app3 (u := adX a x) rfl hp) (app3 (u := adX b y) rfl hp) (app3 (u := adX c z) rfl hp)⟩, rfl, trivial⟩
      · refine condE (ge_dec (by omega)) ?_
        obtain rfl : k = n := by omega
        exact h3 rfl
    · exact ⟨fun _ => hL.1 hg, fun N _ h => by cases h⟩
  · cases hF

noncomputable def N95m : St → T := nilW 176 0 30 3 (sumAt Try.f85.ntmps 288 [1, 19, 20, 21, 6, 4, 5] [176, 272, 16] F95m)
theorem loopN95m : CodeOK Try.prog (fun _ σ => N95m σ) (.block 0 (.loop (loopOf Try.f85 0))) := nilW_ok loop95m
noncomputable def movOk (n cur a b c : Nat) (x y z : Nat → Nat) : Bool := okW n cur x y z && okW n cur (adX a x) (adX b y) (adX c z)
theorem mov_ok {n cur a b c : Nat} {x y z : Nat → Nat} (h : movOk n cur a b c x y z = true) : okW n cur x y z = true ∧ okW n cur (adX a x) (adX b y) (adX c z) = true ∧ 1 ≤ n ∧ n ≤ 1000 := by
  unfold movOk at h
  simp only [Bool.and_eq_true] at h
  obtain ⟨h1, h2⟩ := h
  exact ⟨h1, h2, by have := okW_n h1; omega, by have := okW_n h1; omega⟩
noncomputable def s120T : List A → Option (Bool × A)
  | [.agg [.ro 3 n (.vecs .f32 x y z), .bool cl, .flt .f32 cur], .agg [.flt .f32 a, .flt .f32 b, .flt .f32 c]] => some (movOk n cur a b c x y z, .tup [.agg [.ro 3 n (.vecs .f32 (adX a x) (adX b y) (adX c z)), .bool cl, .flt .f32 cur], .bool true])
  | _ => none
noncomputable def s120N : List A → Option (Bool × A)
  | [.agg [.ro 3 n (.vecs .f32 x y z), .bool cl, .flt .f32 cur], .agg [.flt .f32 a, .flt .f32 b, .flt .f32 c]] => some (Nat.ble n 4611686018427387000 && !movOk n cur a b c x y z, .tup [.agg [.nils, .bool false, .flt .f32 0], .bool false])
  | _ => none
noncomputable def lp95mT : List (Nat × (St → T)) := [(0, N95m)]
theorem lp95mT_ok : LpOK Try.prog (look lp95mT) (bodyOf Try.f85) := lp_loops (by kernel_rfl) (by kernel_rfl) fun p hp => by
  simp only [lp95mT, List.mem_cons, List.not_mem_nil, or_false] at hp
  rcases hp with rfl
  · exact loopN95m
theorem auto95mT (n cur : Nat) (x y z : Nat → Nat) (cl : Bool) (a b c : Nat) : autoS cfgMN (look lp95mT) false Try.f85 [.agg [.ro 3 n (.vecs .f32 x y z), .bool cl, .flt .f32 cur], .fn 86 [.rop (.agg [.flt .f32 a, .flt .f32 b, .flt .f32 c]) 0]] =
    some (n.ble 4611686018427387000 && (!!okW n cur x y z && (decide (Int.ofNat n = Int.ofNat n) && n.ble 1000 && (n.ble 4611686018427387000 && (!!okW n cur (adX a x) (adX b y) (adX c z) && true)))), A.tup [A.agg [A.ro 3 n (Row.vecs FloatKind.f32 (fun p => adX a x p) (fun p => adX b y p) fun p => adX c z p), A.bool cl, A.flt FloatKind.f32 cur], A.bool true]) := by kernel_rfl
noncomputable def s95mT : List A → Option (Bool × A)
  | [.agg [.ro 3 n (.vecs .f32 x y z), .bool cl, .flt .f32 cur], .fn 86 [.rop (.agg [.flt .f32 a, .flt .f32 b, .flt .f32 c]) 0]] => some (movOk n cur a b c x y z, .tup [.agg [.ro 3 n (.vecs .f32 (adX a x) (adX b y) (adX c z)), .bool cl, .flt .f32 cur], .bool true])
  | _ => none
theorem s95mT_at : EnvAt Try.prog 85 s95mT := of_autoS cfgMN_ok lp95mT_ok Try.func85 (by kernel_rfl) (by kernel_rfl) fun ds cc rr h hc => by
  unfold s95mT at h
  split at h
  · rename_i n x y z cl cur a b c
    simp only [Option.some.injEq, Prod.mk.injEq] at h
    obtain ⟨rfl, rfl⟩ := h
    refine auto_fit (auto95mT n cur x y z cl a b c) ?_ ?_
    · rfl
    · obtain ⟨h1, h2, h3, h4⟩ := mov_ok hc
      rw [h1, h2, ble_of (show n ≤ 4611686018427387000 by omega), ble_of (show n ≤ 1000 by omega), decide_eq_true rfl]; rfl
  · cases h

noncomputable def lp95mN : List (Nat × (St → T)) := [(0, N95m)]
theorem lp95mN_ok : LpOK Try.prog (look lp95mN) (bodyOf Try.f85) := lp_loops (by kernel_rfl) (by kernel_rfl) fun p hp => by
  simp only [lp95mN, List.mem_cons, List.not_mem_nil, or_false] at hp
  rcases hp with rfl
  · exact loopN95m
theorem auto95mN (n cur : Nat) (x y z : Nat → Nat) (cl : Bool) (a b c : Nat) : autoS cfgMN (look lp95mN) true Try.f85 [.agg [.ro 3 n (.vecs .f32 x y z), .bool cl, .flt .f32 cur], .fn 86 [.rop (.agg [.flt .f32 a, .flt .f32 b, .flt .f32 c]) 0]] =
    some (n.ble 4611686018427387000 && bif !okW n cur x y z then true else decide (Int.ofNat n = Int.ofNat n) && n.ble 1000 && (n.ble 4611686018427387000 && (!okW n cur (adX a x) (adX b y) (adX c z) && true)), A.tup [A.agg [A.nils, A.bool (bif !okW n cur x y z then false else false), A.flt FloatKind.f32 (bif !okW n cur x y z then 0 else 0)], A.bool (bif !okW n cur x y z then false else false)]) := by kernel_rfl
noncomputable def s95mN : List A → Option (Bool × A)
  | [.agg [.ro 3 n (.vecs .f32 x y z), .bool cl, .flt .f32 cur], .fn 86 [.rop (.agg [.flt .f32 a, .flt .f32 b, .flt .f32 c]) 0]] => some (Nat.ble n 4611686018427387000 && !movOk n cur a b c x y z, .tup [.agg [.nils, .bool false, .flt .f32 0], .bool false])
  | _ => none
theorem s95mN_at : EnvAt Try.prog 85 s95mN := of_autoS cfgMN_ok lp95mN_ok Try.func85 (by kernel_rfl) (by kernel_rfl) fun ds cc rr h hc => by
  unfold s95mN at h
  split at h
  · rename_i n x y z cl cur a b c
    simp only [Option.some.injEq, Prod.mk.injEq] at h
    obtain ⟨rfl, rfl⟩ := h
    refine auto_fit (auto95mN n cur x y z cl a b c) ?_ ?_
    · simp only [Bool.cond_self]
    · simp only [Bool.and_eq_true] at hc
      have hn := hc.1
      have hc := hc.2
      rw [hn]
      cases hA : okW n cur x y z
      · rfl
      · unfold movOk at hc
        rw [hA] at hc
        have hC : okW n cur (adX a x) (adX b y) (adX c z) = false := by simpa using hc
        have h5 := okW_n hA
        rw [hC, ble_of (show n ≤ 1000 by omega), decide_eq_true rfl]; rfl
  · cases h

noncomputable def env42T : List (Nat × (List A → Option (Bool × A))) := (85, s95mT) :: env41
theorem env42T_ok : EnvOK Try.prog (look env42T) := (env_cons s95mT_at env41_ok)
noncomputable def cfg42T : Cfg := mkCfg tab [] xts (look env42T)
theorem cfg42T_ok : CfgOK Try.prog cfg42T := cfg_ok tab_eq (no_fts _) xts_ok env42T_ok mixed
noncomputable def env42N : List (Nat × (List A → Option (Bool × A))) := (85, s95mN) :: env41
theorem env42N_ok : EnvOK Try.prog (look env42N) := (env_cons s95mN_at env41_ok)
noncomputable def cfg42N : Cfg := mkCfg tab [] xts (look env42N)
theorem cfg42N_ok : CfgOK Try.prog cfg42N := cfg_ok tab_eq (no_fts _) xts_ok env42N_ok mixed
noncomputable def cfgMT : Cfg := mkCfg (nilTab tab) fts75 xts (look env42T)
theorem cfgMT_ok : CfgOK Try.prog cfgMT := cfgN_ok' tab_eq fts75_ok xts_ok env42T_ok mixed
noncomputable def cfgMNN : Cfg := mkCfg (nilTab tab) fts75 xts (look env42N)
theorem cfgMNN_ok : CfgOK Try.prog cfgMNN := cfgN_ok' tab_eq fts75_ok xts_ok env42N_ok mixed
theorem auto122T (n cur : Nat) (x y z : Nat → Nat) (cl : Bool) (a b c : Nat) : autoLp cfgMT (fun _ => none) Try.f33 [.agg [.ro 3 n (.vecs .f32 x y z), .bool cl, .flt .f32 cur], .agg [.flt .f32 a, .flt .f32 b, .flt .f32 c]] =
    some (movOk n cur a b c x y z && true, A.tup [A.agg [A.ro 3 n (Row.vecs FloatKind.f32 (fun p => adX a x p) (fun p => adX b y p) fun p => adX c z p), A.bool cl, A.flt FloatKind.f32 cur], A.bool true]) := by kernel_rfl
noncomputable def s122T : List A → Option (Bool × A)
  | [.agg [.ro 3 n (.vecs .f32 x y z), .bool cl, .flt .f32 cur], .agg [.flt .f32 a, .flt .f32 b, .flt .f32 c]] => some (movOk n cur a b c x y z, .tup [.agg [.ro 3 n (.vecs .f32 (adX a x) (adX b y) (adX c z)), .bool cl, .flt .f32 cur], .bool true])
  | _ => none
theorem s122T_at : EnvAt Try.prog 33 s122T := of_auto cfgMT_ok (lp_none _) Try.func33 (by kernel_rfl) (by kernel_rfl) fun ds cc rr h hc => by
  unfold s122T at h
  split at h
  · rename_i n x y z cl cur a b c
    simp only [Option.some.injEq, Prod.mk.injEq] at h
    obtain ⟨rfl, rfl⟩ := h
    refine auto_fit (auto122T n cur x y z cl a b c) ?_ ?_
    · rfl
    · rw [hc]; rfl
  · cases h

theorem auto122N (n cur : Nat) (x y z : Nat → Nat) (cl : Bool) (a b c : Nat) : autoLp cfgMNN (fun _ => none) Try.f33 [.agg [.ro 3 n (.vecs .f32 x y z), .bool cl, .flt .f32 cur], .agg [.flt .f32 a, .flt .f32 b, .flt .f32 c]] =
    some (n.ble 4611686018427387000 && !movOk n cur a b c x y z && true, A.tup [A.agg [A.nils, A.bool false, A.flt FloatKind.f32 0], A.bool false]) := by kernel_rfl
noncomputable def s122N : List A → Option (Bool × A)
  | [.agg [.ro 3 n (.vecs .f32 x y z), .bool cl, .flt .f32 cur], .agg [.flt .f32 a, .flt .f32 b, .flt .f32 c]] => some (Nat.ble n 4611686018427387000 && !movOk n cur a b c x y z, .tup [.agg [.nils, .bool false, .flt .f32 0], .bool false])
  | _ => none
theorem s122N_at : EnvAt Try.prog 33 s122N := of_auto cfgMNN_ok (lp_none _) Try.func33 (by kernel_rfl) (by kernel_rfl) fun ds cc rr h hc => by
  unfold s122N at h
  split at h
  · rename_i n x y z cl cur a b c
    simp only [Option.some.injEq, Prod.mk.injEq] at h
    obtain ⟨rfl, rfl⟩ := h
    refine auto_fit (auto122N n cur x y z cl a b c) ?_ ?_
    · rfl
    · rw [hc]; rfl
  · cases h

end Go.Fw.E1

/-
  An answer's struct may be forgotten.
-/
namespace Go.Fw.E1
open Go.Proofs
theorem RelS.tup2 {w : World} {S : Nat → Prop} {cv : Nat → Option Value} {v : Value} {a b : A} (h : RelS w S cv v (.tup [a, b])) : ∃ vs : Array Value, v = .tuple vs ∧ vs.size = 2 ∧ RelS w S cv (vs.getD 0 undef) a ∧ RelS w S cv (vs.getD 1 undef) b := by
  cases h with
  | data h => cases h with
    | tup hs h => exact ⟨_, rfl, hs, .data (h 0 (Nat.succ_pos 1)), .data (h 1 (Nat.lt_succ_self 1))⟩
  | tup hs h => exact ⟨_, rfl, hs, h 0 (Nat.succ_pos 1), h 1 (Nat.lt_succ_self 1)⟩
theorem RelS.agg_size {w : World} {S : Nat → Prop} {cv : Nat → Option Value} {v : Value} {cs : List A} (h : RelS w S cv v (.agg cs)) : ∃ vs : Array Value, v = .agg vs ∧ vs.size = cs.length := by
  cases h with
  | data h => cases h with
    | agg hs h => exact ⟨_, rfl, hs⟩
  | agg hs h => exact ⟨_, rfl, hs⟩
theorem RelS.to_bool {w : World} {S : Nat → Prop} {cv : Nat → Option Value} {v : Value} {d : Bool} (h : RelS w S cv v (.bool d)) : v = .bool d := by
  cases h with
  | data h => cases h with
    | bool b => rfl
theorem imps_size : ∀ (i : Nat) (cs : List A), (imps i cs).1.length = cs.length
  | _, [] => rfl
  | i, x :: r => by
    simp only [imps, List.length_cons]
    rw [imps_size]
theorem RelS.agg3 {w : World} {S : Nat → Prop} {cv : Nat → Option Value} {v : Value} {a b c : A} (h : RelS w S cv v (.agg [a, b, c])) : ∃ vs : Array Value, v = .agg vs ∧ vs.size = 3 ∧ RelS w S cv (vs.getD 0 undef) a ∧ RelS w S cv (vs.getD 1 undef) b ∧ RelS w S cv (vs.getD 2 undef) c := by
  cases h with
  | data h => cases h with
    | agg hs h => exact ⟨_, rfl, hs, .data (h 0 (by show 0 < 3; omega)), .data (h 1 (by show 1 < 3; omega)), .data (h 2 (by show 2 < 3; omega))⟩
  | agg hs h => exact ⟨_, rfl, hs, h 0 (by show 0 < 3; omega), h 1 (by show 1 < 3; omega), h 2 (by show 2 < 3; omega)⟩
theorem RelS.to_nils {w : World} {S : Nat → Prop} {cv : Nat → Option Value} {v : Value} (h : RelS w S cv v .nils) : v = .slice none 0 0 := by
  cases h with
  | data h => cases h with
    | nils => rfl
theorem RelS.to_flt {w : World} {S : Nat → Prop} {cv : Nat → Option Value} {v : Value} {k : FloatKind} {n : Nat} (h : RelS w S cv v (.flt k n)) : RelD w S v (.flt k n) := by
  cases h with
  | data h => exact h
theorem flt_any {w w' : World} {S S' : Nat → Prop} {v : Value} {k : FloatKind} {n : Nat} (h : RelD w S v (.flt k n)) : RelD w' S' v (.flt k n) := by
  cases h with
  | flt h => exact .flt h
/-- A struct whose slice is nil may be told as one with an empty row. -/
theorem PostV.row0 {B : Nat} {w' : World} {v : Value} {p d : Bool} {q : Nat} {g : Row A} {T T' : Nat → Prop} (h : PostV B T w' v (.tup [.agg [.nils, .bool p, .flt .f32 q], .bool d])) : PostV B T' w' v (.tup [.agg [.ro 3 0 g, .bool p, .flt .f32 q], .bool d]) := by
  intro base
  obtain ⟨cv, -, -, -, h4⟩ := h base
  obtain ⟨vs, rfl, hs, h5, h6⟩ := RelS.tup2 h4
  obtain ⟨ws, hw, hz, h7, h8, h9⟩ := RelS.agg3 h5
  have hb := RelS.to_bool h6
  have h7' := RelS.to_nils h7
  have h8' := RelS.to_bool h8
  have h9' := RelS.to_flt h9
  let cv' : Nat → Option Value := fun i => match Nat.beq i base with | true => some (.slice none 0 0) | false => none
  have hcv : ∀ id u, cv' id = some u → id = base ∧ u = .slice none 0 0 := by
    intro id u hu
    simp only [cv'] at hu
    split at hu
    · rename_i hb; injection hu with hu; exact ⟨Nat.eq_of_beq_eq_true hb, hu.symm⟩
    · cases hu
  have hcb : cv' base = some (.slice none 0 0) := by
    show (match Nat.beq base base with | true => some (Value.slice none 0 0) | false => none) = _
    rw [Nat.beq_refl]
  refine ⟨cv', fun id u hu => ?_, fun i j u u' b hi _ hbu _ => ?_, fun id o ho => ?_, ?_⟩
  · obtain ⟨rfl, rfl⟩ := hcv id u hu
    exact ⟨Nat.le_refl _, Nat.lt_succ_self _, fun b hb => by cases hb⟩
  · obtain ⟨rfl, rfl⟩ := hcv i u hi
    cases hbu
  · have ho' : look [(base, O.row 0 3 0 g)] id = some o := ho
    simp only [look] at ho'
    split at ho'
    · rename_i hbb
      injection ho' with ho'
      subst ho'
      obtain rfl := Nat.eq_of_beq_eq_true hbb
      exact ⟨.slice none 0 0, 0, [], hcb, ⟨rfl, .inl ⟨rfl, rfl⟩⟩, fun h => absurd rfl h, by omega, fun i hi => absurd hi (by omega), fun i j hi => absurd hi (by omega)⟩
    · cases ho'
  · show RelS _ _ _ _ (.tup [.agg [.sl base 0, .bool p, .flt .f32 q], .bool d])
    refine .tup hs fun i hi => ?_
    match i, hi with
    | 0, _ =>
      show RelS _ _ _ (vs.getD 0 undef) (.agg [.sl base 0, .bool p, .flt .f32 q])
      rw [hw]
      refine .agg hz fun i hi => ?_
      match i, hi with
      | 0, _ =>
        show RelS _ _ _ (ws.getD 0 undef) (.sl base 0)
        rw [h7']
        exact .sl fun u hu => by
          obtain ⟨_, rfl⟩ := hcv base u hu
          exact ⟨rfl, none, 0, rfl⟩
      | 1, _ =>
        show RelS _ _ _ (ws.getD 1 undef) (.bool p)
        rw [h8']
        exact .data (.bool p)
      | 2, _ => exact .data (flt_any h9')
      | i + 3, hi => exact absurd (show i + 3 < 3 from hi) (by omega)
    | 1, _ =>
      show RelS _ _ _ (vs.getD 1 undef) (.bool d)
      rw [hb]
      exact .data (.bool d)
    | i + 2, hi => exact absurd (show i + 2 < 2 from hi) (by omega)
theorem PureCall.row0 {P : Program} {f : Nat} {ds : List A} {p d : Bool} {q : Nat} {g : Row A} (h : PureCall P f ds (.tup [.agg [.nils, .bool p, .flt .f32 q], .bool d])) : PureCall P f ds (.tup [.agg [.ro 3 0 g, .bool p, .flt .f32 q], .bool d]) :=
  fun w vs T hT hs hr => (h w vs T hT hs hr).mono fun _ _ ⟨v, he, hb, hp⟩ => ⟨v, he, hb, PostV.row0 hp⟩
noncomputable def movA (n cur a b c : Nat) (x y z : Nat → Nat) (cl : Bool) : A := .tup [.agg [.ro 3 (bif movOk n cur a b c x y z then n else 0) (.vecs .f32 (adX a x) (adX b y) (adX c z)), .bool (bif movOk n cur a b c x y z then cl else false), .flt .f32 (bif movOk n cur a b c x y z then cur else 0)], .bool (movOk n cur a b c x y z)]
theorem movA_at {f n cur a b c : Nat} {x y z : Nat → Nat} {cl : Bool} {ds : List A} (hT : movOk n cur a b c x y z = true → PureCall Try.prog f ds (.tup [.agg [.ro 3 n (.vecs .f32 (adX a x) (adX b y) (adX c z)), .bool cl, .flt .f32 cur], .bool true]))
    (hF : movOk n cur a b c x y z = false → PureCall Try.prog f ds (.tup [.agg [.nils, .bool false, .flt .f32 0], .bool false])) : PureCall Try.prog f ds (movA n cur a b c x y z cl) := by
  unfold movA
  cases hm : movOk n cur a b c x y z
  · exact PureCall.row0 (hF hm)
  · exact hT hm
noncomputable def s120 : List A → Option (Bool × A)
  | [.agg [.ro 3 n (.vecs .f32 x y z), .bool cl, .flt .f32 cur], .agg [.flt .f32 a, .flt .f32 b, .flt .f32 c]] => some (Nat.ble n 4611686018427387000, .tup [.agg [.ro 3 (bif movOk n cur a b c x y z then n else 0) (.vecs .f32 (adX a x) (adX b y) (adX c z)), .bool (bif movOk n cur a b c x y z then cl else false), .flt .f32 (bif movOk n cur a b c x y z then cur else 0)], .bool (movOk n cur a b c x y z)])
  | _ => none
noncomputable def s122 : List A → Option (Bool × A)
  | [.agg [.ro 3 n (.vecs .f32 x y z), .bool cl, .flt .f32 cur], .agg [.flt .f32 a, .flt .f32 b, .flt .f32 c]] => some (Nat.ble n 4611686018427387000, .tup [.agg [.ro 3 (bif movOk n cur a b c x y z then n else 0) (.vecs .f32 (adX a x) (adX b y) (adX c z)), .bool (bif movOk n cur a b c x y z then cl else false), .flt .f32 (bif movOk n cur a b c x y z then cur else 0)], .bool (movOk n cur a b c x y z)])
  | _ => none
theorem s122_at : EnvAt Try.prog 33 s122 := by
  refine ⟨s122T_at.1, fun ds cc r h hc => ?_⟩
  unfold s122 at h
  split at h
  · rename_i n x y z cl cur a b c
    simp only [Option.some.injEq, Prod.mk.injEq] at h
    obtain ⟨rfl, rfl⟩ := h
    exact movA_at (fun hm => s122T_at.2 [.agg [.ro 3 n (.vecs .f32 x y z), .bool cl, .flt .f32 cur], .agg [.flt .f32 a, .flt .f32 b, .flt .f32 c]] _ _ rfl hm) (fun hm => s122N_at.2 [.agg [.ro 3 n (.vecs .f32 x y z), .bool cl, .flt .f32 cur], .agg [.flt .f32 a, .flt .f32 b, .flt .f32 c]] _ _ rfl (by rw [hc, hm]; rfl))
  · cases h
noncomputable def env43 : List (Nat × (List A → Option (Bool × A))) := (33, s122) :: env35
theorem env43_ok : EnvOK Try.prog (look env43) := (env_cons s122_at env35_ok)
noncomputable def cfg43 : Cfg := mkCfg tab [] xts (look env43)
theorem cfg43_ok : CfgOK Try.prog cfg43 := cfg_ok tab_eq (no_fts _) xts_ok env43_ok mixed
end Go.Fw.E1

/-
  Fields of lists of wires: contracts.
-/
namespace Go.Fw.E1
open Go.Proofs
noncomputable def flOk (m : Nat) (n : Nat → Nat) (x y z : Nat → Nat → Nat) (cl : Nat → Bool) (cur : Nat → Nat) (p q r : Nat) : Bool := areW m n x y z cur && vfin p q r && fOkA m n x y z cl cur p q r
noncomputable def s52 : List A → Option (Bool × A)
  | [.ro 3 m (.wires n x y z cl cur), .agg [.flt .f32 p, .flt .f32 q, .flt .f32 r]] => some (Nat.ble m 1048576 && allUpTo (shortW n) m, .tup [.agg [.flt .f32 (bif flOk m n x y z cl cur p q r then faX n x y z cl cur p q r 0 m else 0), .flt .f32 (bif flOk m n x y z cl cur p q r then faY n x y z cl cur p q r 0 m else 0), .flt .f32 (bif flOk m n x y z cl cur p q r then faZ n x y z cl cur p q r 0 m else 0)], .bool (flOk m n x y z cl cur p q r)])
  | _ => none
theorem auto54 (m : Nat) (n : Nat → Nat) (x y z : Nat → Nat → Nat) (cl : Nat → Bool) (cur : Nat → Nat) (p q r : Nat) : autoLp cfg29 (fun _ => none) Try.f15 [.ro 3 m (.wires n x y z cl cur), .agg [.flt .f32 p, .flt .f32 q, .flt .f32 r]] =
    some (m.ble 1048576 && allUpTo (shortW n) m && bif !areW m n x y z cur then true else m.ble 1048576 && allUpTo (smallW n) m && bif !bif vfin p q r then fOkA m n x y z cl cur p q r else false then true else true, A.tup [A.agg [A.flt FloatKind.f32 (bif !areW m n x y z cur then 0 else bif !bif vfin p q r then fOkA m n x y z cl cur p q r else false then 0 else faX n x y z cl cur p q r 0 m), A.flt FloatKind.f32 (bif !areW m n x y z cur then 0 else bif !bif vfin p q r then fOkA m n x y z cl cur p q r else false then 0 else faY n x y z cl cur p q r 0 m), A.flt FloatKind.f32 (bif !areW m n x y z cur then 0 else bif !bif vfin p q r then fOkA m n x y z cl cur p q r else false then 0 else faZ n x y z cl cur p q r 0 m)], A.bool (bif !areW m n x y z cur then false else bif !bif vfin p q r then fOkA m n x y z cl cur p q r else false then false else true)]) := by kernel_rfl
noncomputable def s54 : List A → Option (Bool × A)
  | [.ro 3 m (.wires n x y z cl cur), .agg [.flt .f32 p, .flt .f32 q, .flt .f32 r]] => some (Nat.ble m 1048576 && allUpTo (shortW n) m, .tup [.agg [.flt .f32 (bif flOk m n x y z cl cur p q r then faX n x y z cl cur p q r 0 m else 0), .flt .f32 (bif flOk m n x y z cl cur p q r then faY n x y z cl cur p q r 0 m else 0), .flt .f32 (bif flOk m n x y z cl cur p q r then faZ n x y z cl cur p q r 0 m else 0)], .bool (flOk m n x y z cl cur p q r)])
  | _ => none
theorem s54_at : EnvAt Try.prog 15 s54 := of_auto cfg29_ok (lp_none _) Try.func15 (by kernel_rfl) (by kernel_rfl) fun ds cc rr h hc => by
  unfold s54 at h
  split at h
  · rename_i m n x y z cl cur p q r
    simp only [Option.some.injEq, Prod.mk.injEq] at h
    obtain ⟨rfl, rfl⟩ := h
    refine auto_fit (auto54 m n x y z cl cur p q r) ?_ ?_
    · unfold flOk fOkA
      cases areW m n x y z cur
      · rfl
      · cases vfin p q r
        · rfl
        · simp only [cond_true, Bool.true_and, Bool.not_true, cond_false] <;>
          cases vfin (faX n x y z cl cur p q r 0 m) (faY n x y z cl cur p q r 0 m) (faZ n x y z cl cur p q r 0 m) <;> rfl
    · rw [hc]
      simp only [Bool.and_eq_true] at hc
      cases hA : areW m n x y z cur
      · rfl
      · rw [hc.1, (areW_ok hA).2]
        cases vfin p q r
        · rfl
        · first | rfl | (cases fOkA m n x y z cl cur p q r <;> rfl)
  · cases h

end Go.Fw.E1

/-
  Rings as wires, pairs of rings: contracts.
-/
namespace Go.Fw.E1
open Go.Proofs
noncomputable def ftsI : List (Nat × Func) := [(75, Try.f75)]
theorem ftsI_ok (f : Nat) (fn : Func) (h : (f, fn) ∈ ftsI) : Try.prog.funcs[f]? = some fn ∧ (fn.name == "runtime.NumGoroutine") = false := by
  simp only [ftsI, List.mem_cons, Prod.mk.injEq, List.not_mem_nil, or_false] at h
  obtain ⟨rfl, rfl⟩ := h
  exact ⟨Try.func75, by kernel_rfl⟩
noncomputable def cfgGI : Cfg := mkCfg (nilTab tab) ftsI xts (look env35)
theorem cfgGI_ok : CfgOK Try.prog cfgGI := cfgN_ok' tab_eq ftsI_ok xts_ok env35_ok mixed
noncomputable def lp20T : List (Nat × (St → T)) := [(0, N31)]
theorem lp20T_ok : LpOK Try.prog (look lp20T) (bodyOf Try.f20) := lp_loops (by kernel_rfl) (by kernel_rfl) fun p hp => by
  simp only [lp20T, List.mem_cons, List.not_mem_nil, or_false] at hp
  rcases hp with rfl
  · exact loopN31
theorem auto20T (n : Int) (r h c : Nat) : autoS cfgGI (look lp20T) false Try.f20 [.int .i64 n, .flt .f32 r, .flt .f32 h, .flt .f32 c] =
    some ((!bif bif !inI n (Int.ofNat 3) (Int.ofNat 48) then true else !above r then true else !fin h) && (decide (n = n) && decide (n ≤ 1000) && (n.toNat.ble 4611686018427387000 && ((!!okW n.toNat c (ringX n r) (ringY n r) fun x => h) && true))), A.tup [A.agg [A.ro 3 n.toNat (Row.vecs FloatKind.f32 (fun i => ringX n r i) (fun i => ringY n r i) fun x => h), A.bool true, A.flt FloatKind.f32 c], A.bool true]) := by kernel_rfl
noncomputable def s20T : List A → Option (Bool × A)
  | [.int .i64 n, .flt .f32 r, .flt .f32 h, .flt .f32 c] => some (ringOk n r h c, .tup [.agg [.ro 3 n.toNat (.vecs .f32 (ringX n r) (ringY n r) (fun _ => h)), .bool true, .flt .f32 c], .bool true])
  | _ => none
theorem s20T_at : EnvAt Try.prog 20 s20T := of_autoS cfgGI_ok lp20T_ok Try.func20 (by kernel_rfl) (by kernel_rfl) fun ds cc rr h hc => by
  unfold s20T at h
  split at h
  · rename_i n r h c
    simp only [Option.some.injEq, Prod.mk.injEq] at h
    obtain ⟨rfl, rfl⟩ := h
    refine auto_fit (auto20T n r h c) ?_ ?_
    · rfl
    · obtain ⟨h1, h2, h3, h4, h5⟩ := ring_ok hc
      have h1' : inI n (Int.ofNat 3) (Int.ofNat 48) = true := h1
      rw [h1', h2, h3, okW_fin h3, decide_eq_true (show n ≤ 1000 by omega), decide_eq_true rfl, ble_of (show n.toNat ≤ 4611686018427387000 by omega)]; rfl
  · cases h

noncomputable def envA1 : List (Nat × (List A → Option (Bool × A))) := (20, s20T) :: env35
theorem envA1_ok : EnvOK Try.prog (look envA1) := env_cons s20T_at env35_ok
noncomputable def cfgA1 : Cfg := mkCfg tab [] xts (look envA1)
theorem cfgA1_ok : CfgOK Try.prog cfgA1 := cfg_ok tab_eq (no_fts _) xts_ok envA1_ok mixed
theorem auto12 (n : Int) (r g c : Nat) : autoO cfgA1 (fun d => Nat.beq d 45) 0 (fun _ => none) false Try.f12 [.int .i64 n, .flt .f32 r, .flt .f32 g, .flt .f32 c] =
    some (ringOk n r (fop BinOp.mul FloatKind.f32 (can FloatKind.f32 1056964608) g) c && (ringOk n r (fop BinOp.mul FloatKind.f32 (can FloatKind.f32 3204448256) g) c && (!!above g && true)), A.tup [A.ro 3 2 (Row.wires (fun i => [n.toNat, n.toNat].getD i 0) (fun i => [ringX n r, ringX n r].getD i fun x => 0) (fun i => [ringY n r, ringY n r].getD i fun x => 0) (fun i => [fun x => fop BinOp.mul FloatKind.f32 (can FloatKind.f32 1056964608) g, fun x => fop BinOp.mul FloatKind.f32 (can FloatKind.f32 3204448256) g].getD i fun x => 0) (fun i => [true, true].getD i false) fun i => [c, c].getD i 0), A.bool true]) := by kernel_rfl
noncomputable def hlf (g : Nat) : Nat := fop .mul .f32 (can .f32 1056964608) g
noncomputable def nhlf (g : Nat) : Nat := fop .mul .f32 (can .f32 3204448256) g
noncomputable def pairOk (n : Int) (r g c : Nat) : Bool := ringOk n r (hlf g) c && ringOk n r (nhlf g) c && above g
noncomputable def pairZ (g i : Nat) : Nat := match i with | 0 => hlf g | _ + 1 => nhlf g
noncomputable def s12 : List A → Option (Bool × A)
  | [.int .i64 n, .flt .f32 r, .flt .f32 g, .flt .f32 c] => some (pairOk n r g c, .tup [.ro 3 2 (.wires (fun _ => n.toNat) (fun _ => ringX n r) (fun _ => ringY n r) (fun i _ => pairZ g i) (fun _ => true) (fun _ => c)), .bool true])
  | _ => none
theorem s12_at : EnvAt Try.prog 12 s12 := by
  refine ⟨⟨Try.f12, Try.func12, by kernel_rfl, by kernel_rfl⟩, fun ds cc rr h hc => ?_⟩
  unfold s12 at h
  split at h
  · rename_i n r g c
    simp only [Option.some.injEq, Prod.mk.injEq] at h
    obtain ⟨rfl, rfl⟩ := h
    refine (autoO_ok cfgA1_ok Try.func12 (by kernel_rfl) (lp_none _) (auto12 n r g c) ?_).roT_congr ?_
    · unfold pairOk at hc
      simp only [Bool.and_eq_true] at hc
      have h1 : ringOk n r (fop BinOp.mul FloatKind.f32 (can FloatKind.f32 1056964608) g) c = true := hc.1.1
      have h2 : ringOk n r (fop BinOp.mul FloatKind.f32 (can FloatKind.f32 3204448256) g) c = true := hc.1.2
      rw [h1, h2, hc.2]; rfl
    · intro i hi
      match i, hi with
      | 0, _ => rfl
      | 1, _ => rfl
  · cases h
noncomputable def envA2 : List (Nat × (List A → Option (Bool × A))) := (12, s12) :: (15, s54) :: envA1
theorem envA2_ok : EnvOK Try.prog (look envA2) := env_cons s12_at (env_cons s54_at envA1_ok)
noncomputable def cfgA2 : Cfg := mkCfg tab [] xts (look envA2)
theorem cfgA2_ok : CfgOK Try.prog cfgA2 := cfg_ok tab_eq (no_fts _) xts_ok envA2_ok mixed
end Go.Fw.E1

/-
  Lists of wires copied: a contract; fields of all wires: the law.
-/
namespace Go.Fw.E1
open Go.Proofs
noncomputable def s53 : List A → Option (Bool × A)
  | [.ro 3 m (.wires n x y z cl cur)] => some (Nat.ble m 1048576 && allUpTo (shortW n) m, .ro 3 m (.wires n x y z cl cur))
  | _ => none
noncomputable def s51v : List A → Option (Bool × A)
  | [.ro 3 m (.wires n x y z cl cur), .int .i64 left] => some (bif decide (IntKind.i64.wrap (left - Int.ofNat m) < 0) then true else Nat.ble m 4611686018427387000, .int .i64 (szWs left m n))
  | _ => none
noncomputable def env30v : List (Nat × (List A → Option (Bool × A))) := (15, s54) :: env29
theorem env30v_ok : EnvOK Try.prog (look env30v) := (env_cons s54_at env29_ok)
noncomputable def cfg30v : Cfg := mkCfg tab [] xts (look env30v)
theorem cfg30v_ok : CfgOK Try.prog cfg30v := cfg_ok tab_eq (no_fts _) xts_ok env30v_ok mixed
theorem short_of {m : Nat} {n : Nat → Nat} (h : ∀ k, k < m → (n k : Int) ≤ 1048576) : allUpTo (shortW n) m = true := allUpTo_iff.2 fun i hi => by
  unfold shortW
  have := h i hi
  exact ble_of (by omega)
end Go.Fw.E1

/-
  Fluxes: contracts.
-/
namespace Go.Fw.E1
open Go.Proofs
noncomputable def canL (m : Nat) (n : Nat → Nat) (x y z : Nat → Nat → Nat) (cur : Nat → Nat) (th : Nat) (p : Int) : Bool := bif bif areW m n x y z cur then least th else false then inI p 1 8 else false
noncomputable def s119 : List A → Option (Bool × A)
  | [.ro 3 m (.wires n x y z cl cur), .flt .f32 th, .int .i64 p] => some (Nat.ble m 1048576 && allUpTo (shortW n) m, .bool (canL m n x y z cur th p))
  | _ => none
noncomputable def env31v : List (Nat × (List A → Option (Bool × A))) := env30v
theorem env31v_ok : EnvOK Try.prog (look env31v) := env30v_ok
noncomputable def cfg31v : Cfg := mkCfg tab [] xts (look env31v)
theorem cfg31v_ok : CfgOK Try.prog cfg31v := cfg_ok tab_eq (no_fts _) xts_ok env31v_ok mixed
end Go.Fw.E1

/-
  Fluxes: loops.
-/
namespace Go.Fw.E1
open Go.Proofs
noncomputable def fxW (n : Nat → Nat) (x y z : Nat → Nat → Nat) (cl : Nat → Bool) (cur : Nat → Nat) (n2 : Nat) (x2 y2 z2 : Nat → Nat) (cl2 : Bool) (th pp s : Nat) : Nat → Nat
  | 0 => s
  | k + 1 => fop .add .f32 (fxW n x y z cl cur n2 x2 y2 z2 cl2 th pp s k) (fop .mul .f32 (psW n2 x2 y2 z2 cl2 (n k) (x k) (y k) (z k) (cl k) th pp) (cur k))
noncomputable def I55 (m : Nat) (n : Nat → Nat) (x y z : Nat → Nat → Nat) (cl : Nat → Bool) (cur : Nat → Nat) (n2 cur2 : Nat) (x2 y2 z2 : Nat → Nat) (cl2 : Bool) (th pp s : Nat) (k : Nat) : List A := [.ro 3 m (.wires n x y z cl cur), .flt .f32 th, .int .i64 (.ofNat pp), .ptr 0 0, .flt .f32 (fxW n x y z cl cur n2 x2 y2 z2 cl2 th pp s k), .int .i64 (Int.ofNat k)]
noncomputable def J55 (m : Nat) (n : Nat → Nat) (x y z : Nat → Nat → Nat) (cl : Nat → Bool) (cur : Nat → Nat) (n2 cur2 : Nat) (x2 y2 z2 : Nat → Nat) (cl2 : Bool) (th pp s : Nat) (k : Nat) : List O := [.var [.ro 3 n2 (.vecs .f32 x2 y2 z2), .bool cl2, .flt .f32 cur2]]
noncomputable def F55 : List A → List (Option O) → Option R3
  | [.ro 3 m (.wires n x y z cl cur), .flt .f32 th, .int .i64 (.ofNat pp), .ptr 0 0, .flt .f32 s, .int .i64 0], [some (.var [.ro 3 n2 (.vecs .f32 x2 y2 z2), .bool cl2, .flt .f32 cur2])] => some (.ite (Nat.ble m 1048576 && allUpTo (smallW n) m && (Nat.ble 1 n2 && Nat.ble n2 1000) && Nat.ble pp 32) (.leaf .normal (I55 m n x y z cl cur n2 cur2 x2 y2 z2 cl2 th pp s (m)) (J55 m n x y z cl cur n2 cur2 x2 y2 z2 cl2 th pp s (m))) .fail)
  | _, _ => none
noncomputable def I56 (m : Nat) (n : Nat → Nat) (x y z : Nat → Nat → Nat) (cl : Nat → Bool) (cur : Nat → Nat) (n2 cur2 : Nat) (x2 y2 z2 : Nat → Nat) (cl2 : Bool) (th pp s : Nat) (k : Nat) : List A := [.ro 3 m (.wires n x y z cl cur), .int .i64 (Int.ofNat m), .flt .f32 th, .int .i64 (.ofNat pp), .ptr 0 0, .flt .f32 (fxW n x y z cl cur n2 x2 y2 z2 cl2 th pp s k), .int .i64 (Int.ofNat k)]
noncomputable def J56 (m : Nat) (n : Nat → Nat) (x y z : Nat → Nat → Nat) (cl : Nat → Bool) (cur : Nat → Nat) (n2 cur2 : Nat) (x2 y2 z2 : Nat → Nat) (cl2 : Bool) (th pp s : Nat) (k : Nat) : List O := [.var [.ro 3 n2 (.vecs .f32 x2 y2 z2), .bool cl2, .flt .f32 cur2]]
theorem round56 (m : Nat) (n : Nat → Nat) (x y z : Nat → Nat → Nat) (cl : Nat → Bool) (cur : Nat → Nat) (n2 cur2 : Nat) (x2 y2 z2 : Nat → Nat) (cl2 : Bool) (th pp s : Nat) (k : Nat) (L : XK → List A → List (Option O) → Prop) :
    ((exec cfg31v (fun _ => true) (fun _ => none) 0 1000 (loopOf Try.f61 0) (litSt Try.f61.ntmps 400 [31, 32, 2, 3, 5, 10, 33] [0] (I56 m n x y z cl cur n2 cur2 x2 y2 z2 cl2 th pp s k) (J56 m n x y z cl cur n2 cur2 x2 y2 z2 cl2 th pp s k))).rt [31, 32, 2, 3, 5, 10, 33] [0]).Ok L =
    bif decide (Int.ofNat k < Int.ofNat m) then
      bif decide (Int.ofNat k < Int.ofNat m) then
        bif Nat.ble 1 n2 && n2.ble 1000 && Nat.ble 1 (n k) && (n k).ble 1000 && pp.ble 32 && true then
          L (XK.normal) ([A.ro 3 m (Row.wires n x y z cl cur), A.int IntKind.i64 (Int.ofNat m), A.flt FloatKind.f32 th, A.int IntKind.i64 (Int.ofNat pp), A.ptr 0 0, A.flt FloatKind.f32 (fop BinOp.add FloatKind.f32 (fxW n x y z cl cur n2 x2 y2 z2 cl2 th pp s k) (fop BinOp.mul FloatKind.f32 (psW n2 x2 y2 z2 cl2 (n k) (x (Int.ofNat k).toNat) (y (Int.ofNat k).toNat) (z (Int.ofNat k).toNat) (cl k) th pp) (cur k))), A.int IntKind.i64 (IntKind.i64.wrap (Int.ofNat k + Int.ofNat 1))]) ([some (O.var [A.ro 3 n2 (Row.vecs FloatKind.f32 x2 y2 z2), A.bool cl2, A.flt FloatKind.f32 cur2])])
        else
          False
      else
        False
    else
      L (XK.exit 0) ([A.ro 3 m (Row.wires n x y z cl cur), A.int IntKind.i64 (Int.ofNat m), A.flt FloatKind.f32 th, A.int IntKind.i64 (Int.ofNat pp), A.ptr 0 0, A.flt FloatKind.f32 (fxW n x y z cl cur n2 x2 y2 z2 cl2 th pp s k), A.int IntKind.i64 (Int.ofNat k)]) ([some (O.var [A.ro 3 n2 (Row.vecs FloatKind.f32 x2 y2 z2), A.bool cl2, A.flt FloatKind.f32 cur2])]) := by kernel_rfl
noncomputable def F56 : List A → List (Option O) → Option R3
  | [.ro 3 m (.wires n x y z cl cur), .int .i64 l, .flt .f32 th, .int .i64 (.ofNat pp), .ptr 0 0, .flt .f32 s, .int .i64 0], [some (.var [.ro 3 n2 (.vecs .f32 x2 y2 z2), .bool cl2, .flt .f32 cur2])] => some (.ite (decide (l = Int.ofNat m) && Nat.ble m 1048576 && allUpTo (smallW n) m && (Nat.ble 1 n2 && Nat.ble n2 1000) && Nat.ble pp 32) (.leaf .normal (I56 m n x y z cl cur n2 cur2 x2 y2 z2 cl2 th pp s (m)) (J56 m n x y z cl cur n2 cur2 x2 y2 z2 cl2 th pp s (m))) .fail)
  | _, _ => none
theorem loop56 : CodeOK Try.prog (fun _ σ => sumAt Try.f61.ntmps 400 [31, 32, 2, 3, 5, 10, 33] [0] F56 σ) (.block 0 (.loop (loopOf Try.f61 0))) := by
  refine block_ok (own := fun _ => true) (lp := (fun _ => none)) (un := 0) (fuel := 1000) cfg31v_ok (lp_none _) fun az os R hF hok => ?_
  unfold F56 at hF
  split at hF
  · rename_i m n x y z cl cur l th pp s n2 x2 y2 z2 cl2 cur2
    injection hF with hF
    subst hF
    have hg := hok.guard
    have hg' := hg
    simp only [Bool.and_eq_true, Nat.ble_eq, Nat.beq_eq, decide_eq_true_eq] at hg'
    obtain ⟨⟨⟨⟨rfl, hm⟩, hsm⟩, h1n, h2n⟩, hpp⟩ := hg'
    refine for_fact (ids := [0]) (fun _ => true) (m) (I56 m n x y z cl cur n2 cur2 x2 y2 z2 cl2 th pp s) (J56 m n x y z cl cur n2 cur2 x2 y2 z2 cl2 th pp s) _ (.ret) (I56 m n x y z cl cur n2 cur2 x2 y2 z2 cl2 th pp s) (I56 m n x y z cl cur n2 cur2 x2 y2 z2 cl2 th pp s) (I56 m n x y z cl cur n2 cur2 x2 y2 z2 cl2 th pp s (m)) (J56 m n x y z cl cur n2 cur2 x2 y2 z2 cl2 th pp s (m)) rfl (OSims.self _) (fun _ => rfl) (fun _ => rfl) (fun _ => ALe.self _) (fun _ => rfl) (ALe.self _) (OSims.self _) rfl (fun h => by cases h) (fun k hk L h1 h2 h3 => ?_) fun L hL => ?_
    · rw [round56]

      by_cases hkm : k < m
      · refine condT (lt_dec hkm) ?_
        obtain ⟨k1, k2⟩ := smallW_ok (W.at_ok hsm hkm)
        rw [wrap_succ (by omega)]
        refine condT (lt_dec hkm) ?_
        refine condT (by rw [ble_of h1n, ble_of h2n, ble_of k1, ble_of k2, ble_of hpp]; rfl) ?_
        exact h1 hkm rfl _ (OSims.self (J56 m n x y z cl cur n2 cur2 x2 y2 z2 cl2 th pp s (k + 1)))
      · refine condE (ge_dec (by omega)) ?_
        obtain rfl : k = m := by omega
        exact h3 rfl
    · exact ⟨fun _ => hL.1 hg, fun N _ h => by cases h⟩
  · cases hF

noncomputable def flxOk (m : Nat) (n : Nat → Nat) (x y z : Nat → Nat → Nat) (cl : Nat → Bool) (cur : Nat → Nat) (n2 cur2 : Nat) (x2 y2 z2 : Nat → Nat) (cl2 : Bool) (th pp : Nat) : Bool := canL m n x y z cur th (Int.ofNat pp) && okW n2 cur2 x2 y2 z2
end Go.Fw.E1

/-
  Fluxes: contracts of the reference and the program.
-/
namespace Go.Fw.E1
open Go.Proofs
theorem canL_ok {m : Nat} {n : Nat → Nat} {x y z : Nat → Nat → Nat} {cur : Nat → Nat} {th : Nat} {p : Int} (h : canL m n x y z cur th p = true) : areW m n x y z cur = true ∧ least th = true ∧ inI p 1 8 = true := by
  unfold canL at h
  revert h
  cases areW m n x y z cur <;> cases least th <;> cases inI p 1 8 <;> simp
theorem inI8 {pp : Nat} (h : inI (Int.ofNat pp) 1 8 = true) : pp ≤ 32 := by
  unfold inI at h
  cases h1 : decide (Int.ofNat pp ≥ 1)
  · rw [h1] at h; cases h
  · rw [h1] at h
    have := of_decide_eq_true h
    simp at this
    omega
theorem inI_neg (pp : Nat) : inI (Int.negSucc pp) 1 8 = false := by
  unfold inI
  rw [decide_eq_false (show ¬ (Int.negSucc pp ≥ 1) by omega)]; rfl
noncomputable def s55a : List A → Option (Bool × A)
  | [.ro 3 m (.wires n x y z cl cur), .agg [.ro 3 n2 (.vecs .f32 x2 y2 z2), .bool cl2, .flt .f32 cur2], .flt .f32 th, .int .i64 (.ofNat pp)] => some (Nat.ble m 1048576 && allUpTo (shortW n) m && Nat.ble n2 1048576, .tup [.flt .f32 (bif flxOk m n x y z cl cur n2 cur2 x2 y2 z2 cl2 th pp && fin (fxW n x y z cl cur n2 x2 y2 z2 cl2 th pp (can .f32 0) m) then fxW n x y z cl cur n2 x2 y2 z2 cl2 th pp (can .f32 0) m else can .f32 0), .bool (flxOk m n x y z cl cur n2 cur2 x2 y2 z2 cl2 th pp && fin (fxW n x y z cl cur n2 x2 y2 z2 cl2 th pp (can .f32 0) m))])
  | _ => none
noncomputable def lp56a : List (Nat × (St → T)) := [(0, sumAt Try.f61.ntmps 400 [31, 32, 2, 3, 5, 10, 33] [0] F56)]
theorem lp56a_ok : LpOK Try.prog (look lp56a) (bodyOf Try.f61) := lp_loops (by kernel_rfl) (by kernel_rfl) fun p hp => by
  simp only [lp56a, List.mem_cons, List.not_mem_nil, or_false] at hp
  rcases hp with rfl
  · exact loop56
theorem auto56a (m : Nat) (n : Nat → Nat) (x y z : Nat → Nat → Nat) (cl : Nat → Bool) (cur : Nat → Nat) (n2 cur2 : Nat) (x2 y2 z2 : Nat → Nat) (cl2 : Bool) (th pp : Nat) : autoLp cfg31v (look lp56a) Try.f61 [.ro 3 m (.wires n x y z cl cur), .agg [.ro 3 n2 (.vecs .f32 x2 y2 z2), .bool cl2, .flt .f32 cur2], .flt .f32 th, .int .i64 (.ofNat pp)] =
    some (m.ble 1048576 && allUpTo (shortW n) m && ((n2.ble 4611686018427387000 || !(!areW m n x y z cur) == false) && bif bif bif bif !areW m n x y z cur then true else !okW n2 cur2 x2 y2 z2 then true else !least th then true else !inI (Int.ofNat pp) (Int.ofNat 1) (Int.ofNat 8) then true else decide (Int.ofNat m = Int.ofNat m) && m.ble 1048576 && allUpTo (smallW n) m && (Nat.ble 1 n2 && n2.ble 1000) && pp.ble 32 && true), A.tup [A.flt FloatKind.f32 (bif bif bif bif !areW m n x y z cur then true else !okW n2 cur2 x2 y2 z2 then true else !least th then true else !inI (Int.ofNat pp) (Int.ofNat 1) (Int.ofNat 8) then can FloatKind.f32 0 else bif fin (fxW n x y z cl cur n2 x2 y2 z2 cl2 th pp (can FloatKind.f32 0) m) then fxW n x y z cl cur n2 x2 y2 z2 cl2 th pp (can FloatKind.f32 0) m else can FloatKind.f32 0), A.bool (bif bif bif bif !areW m n x y z cur then true else !okW n2 cur2 x2 y2 z2 then true else !least th then true else !inI (Int.ofNat pp) (Int.ofNat 1) (Int.ofNat 8) then false else fin (fxW n x y z cl cur n2 x2 y2 z2 cl2 th pp (can FloatKind.f32 0) m))]) := by kernel_rfl
noncomputable def s56a : List A → Option (Bool × A)
  | [.ro 3 m (.wires n x y z cl cur), .agg [.ro 3 n2 (.vecs .f32 x2 y2 z2), .bool cl2, .flt .f32 cur2], .flt .f32 th, .int .i64 (.ofNat pp)] => some (Nat.ble m 1048576 && allUpTo (shortW n) m && Nat.ble n2 1048576, .tup [.flt .f32 (bif flxOk m n x y z cl cur n2 cur2 x2 y2 z2 cl2 th pp && fin (fxW n x y z cl cur n2 x2 y2 z2 cl2 th pp (can .f32 0) m) then fxW n x y z cl cur n2 x2 y2 z2 cl2 th pp (can .f32 0) m else can .f32 0), .bool (flxOk m n x y z cl cur n2 cur2 x2 y2 z2 cl2 th pp && fin (fxW n x y z cl cur n2 x2 y2 z2 cl2 th pp (can .f32 0) m))])
  | _ => none
theorem s56a_at : EnvAt Try.prog 61 s56a := of_auto cfg31v_ok lp56a_ok Try.func61 (by kernel_rfl) (by kernel_rfl) fun ds cc rr h hc => by
  unfold s56a at h
  split at h
  · rename_i m n x y z cl cur n2 x2 y2 z2 cl2 cur2 th pp
    simp only [Option.some.injEq, Prod.mk.injEq] at h
    obtain ⟨rfl, rfl⟩ := h
    refine auto_fit (auto56a m n x y z cl cur n2 cur2 x2 y2 z2 cl2 th pp) ?_ ?_
    · have e : inI (Int.ofNat pp) (Int.ofNat 1) (Int.ofNat 8) = inI (Int.ofNat pp) 1 8 := rfl
      rw [e]
      unfold flxOk canL
      cases areW m n x y z cur <;> cases okW n2 cur2 x2 y2 z2 <;> cases least th <;> cases inI (Int.ofNat pp) 1 8 <;> rfl
    · simp only [Bool.and_eq_true, Nat.ble_eq] at hc
      obtain ⟨⟨hm, hsh⟩, hn2⟩ := hc
      rw [ble_of hm, hsh, ble_of (show n2 ≤ 4611686018427387000 by omega)]
      have e : inI (Int.ofNat pp) (Int.ofNat 1) (Int.ofNat 8) = inI (Int.ofNat pp) 1 8 := rfl
      rw [e]
      cases hA : areW m n x y z cur
      · rfl
      · cases hB : okW n2 cur2 x2 y2 z2
        · rfl
        · cases least th
          · rfl
          · cases hI : inI (Int.ofNat pp) 1 8
            · rfl
            · have k4 := okW_n hB
              rw [(areW_ok hA).2, ble_of (show 1 ≤ n2 by omega), ble_of (show n2 ≤ 1000 by omega), ble_of (inI8 hI), decide_eq_true rfl]; rfl
  · cases h

noncomputable def s55b : List A → Option (Bool × A)
  | [.ro 3 m (.wires n x y z cl cur), .agg [.ro 3 n2 (.vecs .f32 x2 y2 z2), .bool cl2, .flt .f32 cur2], .flt .f32 th, .int .i64 (.negSucc pp)] => some (Nat.ble m 1048576 && allUpTo (shortW n) m && Nat.ble n2 1048576, .tup [.flt .f32 (can .f32 0), .bool false])
  | _ => none
theorem auto56b (m : Nat) (n : Nat → Nat) (x y z : Nat → Nat → Nat) (cl : Nat → Bool) (cur : Nat → Nat) (n2 cur2 : Nat) (x2 y2 z2 : Nat → Nat) (cl2 : Bool) (th pp : Nat) : autoS cfg31v (fun _ => none) true Try.f61 [.ro 3 m (.wires n x y z cl cur), .agg [.ro 3 n2 (.vecs .f32 x2 y2 z2), .bool cl2, .flt .f32 cur2], .flt .f32 th, .int .i64 (.negSucc pp)] =
    some (m.ble 1048576 && allUpTo (shortW n) m && ((n2.ble 4611686018427387000 || !(!areW m n x y z cur) == false) && ((bif bif bif !areW m n x y z cur then true else !okW n2 cur2 x2 y2 z2 then true else !least th then true else !inI (Int.negSucc pp) (Int.ofNat 1) (Int.ofNat 8)) && true)), A.tup [A.flt FloatKind.f32 (can FloatKind.f32 0), A.bool false]) := by kernel_rfl
noncomputable def s56b : List A → Option (Bool × A)
  | [.ro 3 m (.wires n x y z cl cur), .agg [.ro 3 n2 (.vecs .f32 x2 y2 z2), .bool cl2, .flt .f32 cur2], .flt .f32 th, .int .i64 (.negSucc pp)] => some (Nat.ble m 1048576 && allUpTo (shortW n) m && Nat.ble n2 1048576, .tup [.flt .f32 (can .f32 0), .bool false])
  | _ => none
theorem s56b_at : EnvAt Try.prog 61 s56b := of_autoS cfg31v_ok (lp_none _) Try.func61 (by kernel_rfl) (by kernel_rfl) fun ds cc rr h hc => by
  unfold s56b at h
  split at h
  · rename_i m n x y z cl cur n2 x2 y2 z2 cl2 cur2 th pp
    simp only [Option.some.injEq, Prod.mk.injEq] at h
    obtain ⟨rfl, rfl⟩ := h
    refine auto_fit (auto56b m n x y z cl cur n2 cur2 x2 y2 z2 cl2 th pp) ?_ ?_
    · simp only [Bool.cond_self]
    · simp only [Bool.and_eq_true, Nat.ble_eq] at hc
      obtain ⟨⟨hm, hsh⟩, hn2⟩ := hc
      rw [ble_of hm, hsh, ble_of (show n2 ≤ 4611686018427387000 by omega)]
      have e : inI (Int.negSucc pp) (Int.ofNat 1) (Int.ofNat 8) = false := inI_neg pp
      rw [e]
      cases areW m n x y z cur <;> cases okW n2 cur2 x2 y2 z2 <;> cases least th <;> rfl
  · cases h

noncomputable def s55 : List A → Option (Bool × A)
  | [u, v, t, .int .i64 (.ofNat pp)] => s55a [u, v, t, .int .i64 (.ofNat pp)]
  | ds => s55b ds
noncomputable def s56 : List A → Option (Bool × A)
  | [u, v, t, .int .i64 (.ofNat pp)] => s56a [u, v, t, .int .i64 (.ofNat pp)]
  | ds => s56b ds
theorem s56_at : EnvAt Try.prog 61 s56 := by
  refine ⟨s56a_at.1, fun ds c r h hc => ?_⟩
  unfold s56 at h
  split at h
  · exact s56a_at.2 _ _ _ h hc
  · exact s56b_at.2 _ _ _ h hc
noncomputable def env32v : List (Nat × (List A → Option (Bool × A))) := (61, s56) :: env31v
theorem env32v_ok : EnvOK Try.prog (look env32v) := (env_cons s56_at env31v_ok)
noncomputable def cfg32v : Cfg := mkCfg tab [] xts (look env32v)
theorem cfg32v_ok : CfgOK Try.prog cfg32v := cfg_ok tab_eq (no_fts _) xts_ok env32v_ok mixed
end Go.Fw.E1

/-
  Along paths: the inner loops.
-/
namespace Go.Fw.E1
open Go.Proofs
noncomputable def atC (a u pp k : Nat) : Nat := fop .add .f32 a (fop .mul .f32 u (mid k pp))
noncomputable def okP (m : Nat) (n : Nat → Nat) (x y z : Nat → Nat → Nat) (cl : Nat → Bool) (cur : Nat → Nat) (a0 a1 a2 u0 u1 u2 pp k : Nat) : Bool := bif vfin (atC a0 u0 pp k) (atC a1 u1 pp k) (atC a2 u2 pp k) then fOkA m n x y z cl cur (atC a0 u0 pp k) (atC a1 u1 pp k) (atC a2 u2 pp k) else false
noncomputable def innR (m : Nat) (n : Nat → Nat) (x y z : Nat → Nat → Nat) (cl : Nat → Bool) (cur : Nat → Nat) (p q r v0 v1 v2 : Nat) : Nat := inn (faX n x y z cl cur p q r (st0 p q r p) m) (faY n x y z cl cur p q r (st0 p q r q) m) (faZ n x y z cl cur p q r (st0 p q r r) m) v0 v1 v2
noncomputable def innP (m : Nat) (n : Nat → Nat) (x y z : Nat → Nat → Nat) (cl : Nat → Bool) (cur : Nat → Nat) (p q r v0 v1 v2 : Nat) : Nat := inn (faX n x y z cl cur p q r 0 m) (faY n x y z cl cur p q r 0 m) (faZ n x y z cl cur p q r 0 m) v0 v1 v2
noncomputable def awS (m : Nat) (n : Nat → Nat) (x y z : Nat → Nat → Nat) (cl : Nat → Bool) (cur : Nat → Nat) (a0 a1 a2 u0 u1 u2 v0 v1 v2 pp s : Nat) : Nat → Nat
  | 0 => s
  | k + 1 => fop .add .f32 (awS m n x y z cl cur a0 a1 a2 u0 u1 u2 v0 v1 v2 pp s k) (innR m n x y z cl cur (atC a0 u0 pp k) (atC a1 u1 pp k) (atC a2 u2 pp k) v0 v1 v2)
noncomputable def apS (m : Nat) (n : Nat → Nat) (x y z : Nat → Nat → Nat) (cl : Nat → Bool) (cur : Nat → Nat) (a0 a1 a2 u0 u1 u2 v0 v1 v2 pp s : Nat) : Nat → Nat
  | 0 => s
  | k + 1 => fop .add .f32 (apS m n x y z cl cur a0 a1 a2 u0 u1 u2 v0 v1 v2 pp s k) (innP m n x y z cl cur (atC a0 u0 pp k) (atC a1 u1 pp k) (atC a2 u2 pp k) v0 v1 v2)
noncomputable def I59k (m : Nat) (n : Nat → Nat) (x y z : Nat → Nat → Nat) (cl : Nat → Bool) (cur : Nat → Nat) (n2 cur2 : Nat) (x2 y2 z2 : Nat → Nat) (cl2 : Bool) (a0 a1 a2 u0 u1 u2 v0 v1 v2 pp s i : Nat) (k : Nat) : List A := [.ro 3 m (.wires n x y z cl cur), .int .i64 (.ofNat pp), .ptr 400 0, .ptr 512 0, .ptr 624 0, .int .i64 (Int.ofNat k), .flt .f32 (awS m n x y z cl cur a0 a1 a2 u0 u1 u2 v0 v1 v2 pp s k), .int .i64 (.ofNat i), .ptr 0 0]
noncomputable def J59k (m : Nat) (n : Nat → Nat) (x y z : Nat → Nat → Nat) (cl : Nat → Bool) (cur : Nat → Nat) (n2 cur2 : Nat) (x2 y2 z2 : Nat → Nat) (cl2 : Bool) (a0 a1 a2 u0 u1 u2 v0 v1 v2 pp s i : Nat) (k : Nat) : List O := [.var [.flt .f32 a0, .flt .f32 a1, .flt .f32 a2], .var [.flt .f32 u0, .flt .f32 u1, .flt .f32 u2], .var [.flt .f32 v0, .flt .f32 v1, .flt .f32 v2], .var [.ro 3 n2 (.vecs .f32 x2 y2 z2), .bool cl2, .flt .f32 cur2]]
noncomputable def F59k : List A → List (Option O) → Option R3
  | [.ro 3 m (.wires n x y z cl cur), .int .i64 (.ofNat pp), .ptr 400 0, .ptr 512 0, .ptr 624 0, .int .i64 0, .flt .f32 s, .int .i64 (.ofNat i), .ptr 0 0], [some (.var [.flt .f32 a0, .flt .f32 a1, .flt .f32 a2]), some (.var [.flt .f32 u0, .flt .f32 u1, .flt .f32 u2]), some (.var [.flt .f32 v0, .flt .f32 v1, .flt .f32 v2]), some (.var [.ro 3 n2 (.vecs .f32 x2 y2 z2), .bool cl2, .flt .f32 cur2])] => some (.ite (Nat.ble m 1048576 && allUpTo (smallW n) m && Nat.ble pp 32) (.leaf .normal (I59k m n x y z cl cur n2 cur2 x2 y2 z2 cl2 a0 a1 a2 u0 u1 u2 v0 v1 v2 pp s i (pp)) (J59k m n x y z cl cur n2 cur2 x2 y2 z2 cl2 a0 a1 a2 u0 u1 u2 v0 v1 v2 pp s i (pp))) .fail)
  | _, _ => none
noncomputable def I60k (m : Nat) (n : Nat → Nat) (x y z : Nat → Nat → Nat) (cl : Nat → Bool) (cur : Nat → Nat) (gg : Nat → Nat → Nat) (l a b c u v w pp s i e6 : Nat) (k : Nat) : List A := [.ro 3 m (.wires n x y z cl cur), .int .i64 (.ofNat pp), .ptr 384 0, .int .i64 (Int.ofNat pp), .int .i64 (Int.ofNat k), .flt .f32 (apS m n x y z cl cur a b c (fop .sub .f32 u a) (fop .sub .f32 v b) (fop .sub .f32 w c) (fop .mul .f32 (fop .sub .f32 u a) (inv pp)) (fop .mul .f32 (fop .sub .f32 v b) (inv pp)) (fop .mul .f32 (fop .sub .f32 w c) (inv pp)) pp s k), .sl 288 l, .int .i64 (Int.ofNat l), .int .i64 (.ofNat i), .flt .f32 e6, .bool false]
noncomputable def J60k (m : Nat) (n : Nat → Nat) (x y z : Nat → Nat → Nat) (cl : Nat → Bool) (cur : Nat → Nat) (gg : Nat → Nat → Nat) (l a b c u v w pp s i e6 : Nat) (k : Nat) : List O := [.var [.flt .f32 a, .flt .f32 b, .flt .f32 c, .flt .f32 u, .flt .f32 v, .flt .f32 w], .row 0 6 l (.flns .f32 6 gg)]
theorem round60k (m : Nat) (n : Nat → Nat) (x y z : Nat → Nat → Nat) (cl : Nat → Bool) (cur : Nat → Nat) (gg : Nat → Nat → Nat) (l a b c u v w pp s i e6 : Nat) (k : Nat) (L : XK → List A → List (Option O) → Prop) :
    ((exec cfg31v (fun _ => true) (fun _ => none) 0 1000 (loopOf Try.f32 2) (litSt Try.f32.ntmps 448 [0, 2, 10, 34, 35, 8, 28, 29, 30, 6, 7] [384, 288] (I60k m n x y z cl cur gg l a b c u v w pp s i e6 k) (J60k m n x y z cl cur gg l a b c u v w pp s i e6 k))).rt [0, 2, 10, 34, 35, 8, 28, 29, 30, 6, 7] [384, 288]).Ok L =
    bif decide (Int.ofNat k < Int.ofNat pp) then
      bif m.ble 1048576 && allUpTo (smallW n) m then
        bif !bif vfin (pcS a b c u v w pp k 3) (pcS a b c u v w pp k 4) (pcS a b c u v w pp k 5) then fOkA m n x y z cl cur (pcS a b c u v w pp k 3) (pcS a b c u v w pp k 4) (pcS a b c u v w pp k 5) else false then
          L (XK.ret) ([A.ro 3 m (Row.wires n x y z cl cur), A.int IntKind.i64 (Int.ofNat pp), A.ptr 384 0, A.int IntKind.i64 (Int.ofNat pp), A.int IntKind.i64 (Int.ofNat k), A.flt FloatKind.f32 (apS m n x y z cl cur a b c (fop BinOp.sub FloatKind.f32 u a) (fop BinOp.sub FloatKind.f32 v b) (fop BinOp.sub FloatKind.f32 w c) (fop BinOp.mul FloatKind.f32 (fop BinOp.sub FloatKind.f32 u a) (inv pp)) (fop BinOp.mul FloatKind.f32 (fop BinOp.sub FloatKind.f32 v b) (inv pp)) (fop BinOp.mul FloatKind.f32 (fop BinOp.sub FloatKind.f32 w c) (inv pp)) pp s k), A.sl 288 l, A.int IntKind.i64 (Int.ofNat l), A.int IntKind.i64 (Int.ofNat i), A.flt FloatKind.f32 (can FloatKind.f32 0), A.bool false]) ([some (O.var [A.flt FloatKind.f32 a, A.flt FloatKind.f32 b, A.flt FloatKind.f32 c, A.flt FloatKind.f32 u, A.flt FloatKind.f32 v, A.flt FloatKind.f32 w]), some (O.row 0 6 l (Row.flns FloatKind.f32 6 gg))])
        else
          L (XK.normal) ([A.ro 3 m (Row.wires n x y z cl cur), A.int IntKind.i64 (Int.ofNat pp), A.ptr 384 0, A.int IntKind.i64 (Int.ofNat pp), A.int IntKind.i64 (IntKind.i64.wrap (Int.ofNat k + Int.ofNat 1)), A.flt FloatKind.f32 (fop BinOp.add FloatKind.f32 (apS m n x y z cl cur a b c (fop BinOp.sub FloatKind.f32 u a) (fop BinOp.sub FloatKind.f32 v b) (fop BinOp.sub FloatKind.f32 w c) (fop BinOp.mul FloatKind.f32 (fop BinOp.sub FloatKind.f32 u a) (inv pp)) (fop BinOp.mul FloatKind.f32 (fop BinOp.sub FloatKind.f32 v b) (inv pp)) (fop BinOp.mul FloatKind.f32 (fop BinOp.sub FloatKind.f32 w c) (inv pp)) pp s k) (inn (faX n x y z cl cur (pcS a b c u v w pp k 3) (pcS a b c u v w pp k 4) (pcS a b c u v w pp k 5) 0 m) (faY n x y z cl cur (pcS a b c u v w pp k 3) (pcS a b c u v w pp k 4) (pcS a b c u v w pp k 5) 0 m) (faZ n x y z cl cur (pcS a b c u v w pp k 3) (pcS a b c u v w pp k 4) (pcS a b c u v w pp k 5) 0 m) (pcS a b c u v w pp 0 0) (pcS a b c u v w pp 0 1) (pcS a b c u v w pp 0 2))), A.sl 288 l, A.int IntKind.i64 (Int.ofNat l), A.int IntKind.i64 (Int.ofNat i), A.flt FloatKind.f32 e6, A.bool false]) ([some (O.var [A.flt FloatKind.f32 a, A.flt FloatKind.f32 b, A.flt FloatKind.f32 c, A.flt FloatKind.f32 u, A.flt FloatKind.f32 v, A.flt FloatKind.f32 w]), some (O.row 0 6 l (Row.flns FloatKind.f32 6 gg))])
      else
        False
    else
      L (XK.exit 2) ([A.ro 3 m (Row.wires n x y z cl cur), A.int IntKind.i64 (Int.ofNat pp), A.ptr 384 0, A.int IntKind.i64 (Int.ofNat pp), A.int IntKind.i64 (Int.ofNat k), A.flt FloatKind.f32 (apS m n x y z cl cur a b c (fop BinOp.sub FloatKind.f32 u a) (fop BinOp.sub FloatKind.f32 v b) (fop BinOp.sub FloatKind.f32 w c) (fop BinOp.mul FloatKind.f32 (fop BinOp.sub FloatKind.f32 u a) (inv pp)) (fop BinOp.mul FloatKind.f32 (fop BinOp.sub FloatKind.f32 v b) (inv pp)) (fop BinOp.mul FloatKind.f32 (fop BinOp.sub FloatKind.f32 w c) (inv pp)) pp s k), A.sl 288 l, A.int IntKind.i64 (Int.ofNat l), A.int IntKind.i64 (Int.ofNat i), A.flt FloatKind.f32 e6, A.bool false]) ([some (O.var [A.flt FloatKind.f32 a, A.flt FloatKind.f32 b, A.flt FloatKind.f32 c, A.flt FloatKind.f32 u, A.flt FloatKind.f32 v, A.flt FloatKind.f32 w]), some (O.row 0 6 l (Row.flns FloatKind.f32 6 gg))]) := by kernel_rfl
noncomputable def F60k : List A → List (Option O) → Option R3
  | [.ro 3 m (.wires n x y z cl cur), .int .i64 (.ofNat pp), .ptr 384 0, .int .i64 q, .int .i64 0, .flt .f32 s, .sl 288 l, .int .i64 l2, .int .i64 (.ofNat i), .flt .f32 e6, .bool false], [some (.var [.flt .f32 a, .flt .f32 b, .flt .f32 c, .flt .f32 u, .flt .f32 v, .flt .f32 w]), some (.row 0 6 l3 (.flns .f32 6 gg))] => some (.ite (decide (q = Int.ofNat pp) && decide (l2 = Int.ofNat l) && Nat.beq l l3 && Nat.ble m 1048576 && allUpTo (smallW n) m && Nat.ble pp 32) (.ite (allUpTo (okP m n x y z cl cur a b c (fop .sub .f32 u a) (fop .sub .f32 v b) (fop .sub .f32 w c) pp) (pp)) (.leaf .normal (I60k m n x y z cl cur gg l a b c u v w pp s i e6 (pp)) (J60k m n x y z cl cur gg l a b c u v w pp s i e6 (pp))) (.leaf (.ret) ((fun k => [.ro 3 m (.wires n x y z cl cur), .int .i64 (.ofNat pp), .ptr 384 0, .int .i64 (Int.ofNat pp), .int .i64 (Int.ofNat k), .flt .f32 (apS m n x y z cl cur a b c (fop .sub .f32 u a) (fop .sub .f32 v b) (fop .sub .f32 w c) (fop .mul .f32 (fop .sub .f32 u a) (inv pp)) (fop .mul .f32 (fop .sub .f32 v b) (inv pp)) (fop .mul .f32 (fop .sub .f32 w c) (inv pp)) pp s k), .sl 288 l, .int .i64 (Int.ofNat l), .int .i64 (.ofNat i), .flt .f32 (can .f32 0), .bool false]) (firstIdx (okP m n x y z cl cur a b c (fop .sub .f32 u a) (fop .sub .f32 v b) (fop .sub .f32 w c) pp) (pp))) (J60k m n x y z cl cur gg l a b c u v w pp s i e6 (firstIdx (okP m n x y z cl cur a b c (fop .sub .f32 u a) (fop .sub .f32 v b) (fop .sub .f32 w c) pp) (pp))))) .fail)
  | _, _ => none
theorem loop60k : CodeOK Try.prog (fun _ σ => sumAt Try.f32.ntmps 448 [0, 2, 10, 34, 35, 8, 28, 29, 30, 6, 7] [384, 288] F60k σ) (.block 2 (.loop (loopOf Try.f32 2))) := by
  refine block_ok (own := fun _ => true) (lp := (fun _ => none)) (un := 0) (fuel := 1000) cfg31v_ok (lp_none _) fun az os R hF hok => ?_
  unfold F60k at hF
  split at hF
  · rename_i m n x y z cl cur pp q s l l2 i e6 a b c u v w l3 gg
    injection hF with hF
    subst hF
    have hg := hok.guard
    have hg' := hg
    simp only [Bool.and_eq_true, Nat.ble_eq, Nat.beq_eq, decide_eq_true_eq] at hg'
    obtain ⟨⟨⟨⟨⟨rfl, rfl⟩, rfl⟩, hm⟩, hsm⟩, hpp⟩ := hg'
    refine for_fact (ids := [384, 288]) (okP m n x y z cl cur a b c (fop .sub .f32 u a) (fop .sub .f32 v b) (fop .sub .f32 w c) pp) (pp) (I60k m n x y z cl cur gg l a b c u v w pp s i e6) (J60k m n x y z cl cur gg l a b c u v w pp s i e6) _ (.ret) (fun k => [.ro 3 m (.wires n x y z cl cur), .int .i64 (.ofNat pp), .ptr 384 0, .int .i64 (Int.ofNat pp), .int .i64 (Int.ofNat k), .flt .f32 (apS m n x y z cl cur a b c (fop .sub .f32 u a) (fop .sub .f32 v b) (fop .sub .f32 w c) (fop .mul .f32 (fop .sub .f32 u a) (inv pp)) (fop .mul .f32 (fop .sub .f32 v b) (inv pp)) (fop .mul .f32 (fop .sub .f32 w c) (inv pp)) pp s k), .sl 288 l, .int .i64 (Int.ofNat l), .int .i64 (.ofNat i), .flt .f32 (can .f32 0), .bool false]) (fun k => [.ro 3 m (.wires n x y z cl cur), .int .i64 (.ofNat pp), .ptr 384 0, .int .i64 (Int.ofNat pp), .int .i64 (Int.ofNat k), .flt .f32 (apS m n x y z cl cur a b c (fop .sub .f32 u a) (fop .sub .f32 v b) (fop .sub .f32 w c) (fop .mul .f32 (fop .sub .f32 u a) (inv pp)) (fop .mul .f32 (fop .sub .f32 v b) (inv pp)) (fop .mul .f32 (fop .sub .f32 w c) (inv pp)) pp s k), .sl 288 l, .int .i64 (Int.ofNat l), .int .i64 (.ofNat i), .flt .f32 (can .f32 0), .bool false]) (I60k m n x y z cl cur gg l a b c u v w pp s i e6 (pp)) (J60k m n x y z cl cur gg l a b c u v w pp s i e6 (pp)) rfl (OSims.self _) (fun _ => rfl) (fun _ => rfl) (fun _ => ALe.self _) (fun _ => rfl) (ALe.self _) (OSims.self _) rfl (fun h => by cases h) (fun k hk L h1 h2 h3 => ?_) fun L hL => ?_
    · rw [round60k]

      by_cases hkm : k < pp
      · refine condT (lt_dec hkm) ?_
        rw [wrap_succ (by omega)]
        refine condT (by rw [ble_of hm, hsm]; rfl) ?_
        show cond (!(okP m n x y z cl cur a b c (fop .sub .f32 u a) (fop .sub .f32 v b) (fop .sub .f32 w c) pp k)) _ _
        cases hs : okP m n x y z cl cur a b c (fop .sub .f32 u a) (fop .sub .f32 v b) (fop .sub .f32 w c) pp k
        · exact h2 hkm hs
        · exact h1 hkm hs _ (OSims.self (J60k m n x y z cl cur gg l a b c u v w pp s i e6 (k + 1)))
      · refine condE (ge_dec (by omega)) ?_
        obtain rfl : k = pp := by omega
        exact h3 rfl
    · exact ⟨fun h => (hL.1 hg).1 h, fun N hN hf hall => by
        have := (hL.1 hg).2 (allUpTo_false hN hf)
        rw [firstIdx_eq hN hf hall] at this
        exact this⟩
  · cases hF

end Go.Fw.E1

/-
  Along paths: the outer loops.
-/
namespace Go.Fw.E1
open Go.Proofs
noncomputable def arR (m : Nat) (n : Nat → Nat) (x y z : Nat → Nat → Nat) (cl : Nat → Bool) (cur : Nat → Nat) (gg : Nat → Nat → Nat) (pp s : Nat) : Nat → Nat
  | 0 => s
  | i + 1 => awS m n x y z cl cur (gg i 0) (gg i 1) (gg i 2) (fop .sub .f32 (gg i 3) (gg i 0)) (fop .sub .f32 (gg i 4) (gg i 1)) (fop .sub .f32 (gg i 5) (gg i 2)) (fop .mul .f32 (fop .sub .f32 (gg i 3) (gg i 0)) (inv pp)) (fop .mul .f32 (fop .sub .f32 (gg i 4) (gg i 1)) (inv pp)) (fop .mul .f32 (fop .sub .f32 (gg i 5) (gg i 2)) (inv pp)) pp (arR m n x y z cl cur gg pp s i) pp
noncomputable def apR (m : Nat) (n : Nat → Nat) (x y z : Nat → Nat → Nat) (cl : Nat → Bool) (cur : Nat → Nat) (gg : Nat → Nat → Nat) (pp s : Nat) : Nat → Nat
  | 0 => s
  | i + 1 => apS m n x y z cl cur (gg i 0) (gg i 1) (gg i 2) (fop .sub .f32 (gg i 3) (gg i 0)) (fop .sub .f32 (gg i 4) (gg i 1)) (fop .sub .f32 (gg i 5) (gg i 2)) (fop .mul .f32 (fop .sub .f32 (gg i 3) (gg i 0)) (inv pp)) (fop .mul .f32 (fop .sub .f32 (gg i 4) (gg i 1)) (inv pp)) (fop .mul .f32 (fop .sub .f32 (gg i 5) (gg i 2)) (inv pp)) pp (apR m n x y z cl cur gg pp s i) pp

noncomputable def okI (m : Nat) (n : Nat → Nat) (x y z : Nat → Nat → Nat) (cl : Nat → Bool) (cur : Nat → Nat) (gg : Nat → Nat → Nat) (pp i : Nat) : Bool := allUpTo (okP m n x y z cl cur (gg i 0) (gg i 1) (gg i 2) (fop .sub .f32 (gg i 3) (gg i 0)) (fop .sub .f32 (gg i 4) (gg i 1)) (fop .sub .f32 (gg i 5) (gg i 2)) pp) pp
noncomputable def I59i (m : Nat) (n : Nat → Nat) (x y z : Nat → Nat → Nat) (cl : Nat → Bool) (cur : Nat → Nat) (n2 cur2 : Nat) (x2 y2 z2 : Nat → Nat) (cl2 : Bool) (pp s : Nat) (k : Nat) : List A := [.ro 3 m (.wires n x y z cl cur), .int .i64 (.ofNat pp), .ptr 0 0, .flt .f32 (arR m n x y z cl cur (sg n2 x2 y2 z2) pp s k), .int .i64 (Int.ofNat k)]
noncomputable def J59i (m : Nat) (n : Nat → Nat) (x y z : Nat → Nat → Nat) (cl : Nat → Bool) (cur : Nat → Nat) (n2 cur2 : Nat) (x2 y2 z2 : Nat → Nat) (cl2 : Bool) (pp s : Nat) (k : Nat) : List O := [.var [.ro 3 n2 (.vecs .f32 x2 y2 z2), .bool cl2, .flt .f32 cur2]]
noncomputable def F59i : List A → List (Option O) → Option R3
  | [.ro 3 m (.wires n x y z cl cur), .int .i64 (.ofNat pp), .ptr 0 0, .flt .f32 s, .int .i64 0], [some (.var [.ro 3 n2 (.vecs .f32 x2 y2 z2), .bool cl2, .flt .f32 cur2])] => some (.ite (Nat.ble m 1048576 && allUpTo (smallW n) m && Nat.ble pp 32 && (Nat.ble 1 n2 && Nat.ble n2 1000)) (.leaf .normal (I59i m n x y z cl cur n2 cur2 x2 y2 z2 cl2 pp s (cnt n2 cl2)) (J59i m n x y z cl cur n2 cur2 x2 y2 z2 cl2 pp s (cnt n2 cl2))) .fail)
  | _, _ => none
noncomputable def lpi60i : List (Nat × (St → T)) := [(2, sumAt Try.f32.ntmps 448 [0, 2, 10, 34, 35, 8, 28, 29, 30, 6, 7] [384, 288] F60k)]
theorem lpi60i_ok : LpOK Try.prog (look lpi60i) (loopOf Try.f32 0) := lp_in (lp_loops (by kernel_rfl) (by kernel_rfl) fun p hp => by
  simp only [lpi60i, List.mem_cons, List.not_mem_nil, or_false] at hp
  rcases hp with rfl
  · exact loop60k) _
noncomputable def I60i (m : Nat) (n : Nat → Nat) (x y z : Nat → Nat → Nat) (cl : Nat → Bool) (cur : Nat → Nat) (gg : Nat → Nat → Nat) (l pp s e6 : Nat) (k : Nat) : List A := [.ro 3 m (.wires n x y z cl cur), .int .i64 (.ofNat pp), .sl 288 l, .int .i64 (Int.ofNat l), .int .i64 (Int.ofNat k), .flt .f32 (apR m n x y z cl cur gg pp s k), .flt .f32 e6, .bool false]
noncomputable def J60i (m : Nat) (n : Nat → Nat) (x y z : Nat → Nat → Nat) (cl : Nat → Bool) (cur : Nat → Nat) (gg : Nat → Nat → Nat) (l pp s e6 : Nat) (k : Nat) : List O := [.row 0 6 l (.flns .f32 6 gg)]
theorem round60i (m : Nat) (n : Nat → Nat) (x y z : Nat → Nat → Nat) (cl : Nat → Bool) (cur : Nat → Nat) (gg : Nat → Nat → Nat) (l pp s e6 : Nat) (k : Nat) (L : XK → List A → List (Option O) → Prop) :
    ((exec cfg31v (fun _ => true) (look lpi60i) 0 1000 (loopOf Try.f32 0) (litSt Try.f32.ntmps 336 [0, 2, 28, 29, 30, 8, 6, 7] [288] (I60i m n x y z cl cur gg l pp s e6 k) (J60i m n x y z cl cur gg l pp s e6 k))).rt [0, 2, 28, 29, 30, 8, 6, 7] [288]).Ok L =
    bif decide (Int.ofNat k < Int.ofNat l) then
      bif decide (Int.ofNat k < Int.ofNat l) then
        bif decide (Int.ofNat pp = Int.ofNat pp) && decide (Int.ofNat l = Int.ofNat l) && l.beq l && m.ble 1048576 && allUpTo (smallW n) m && pp.ble 32 then
          bif allUpTo (okP m n x y z cl cur (gg (Int.ofNat k).toNat 0) (gg (Int.ofNat k).toNat 1) (gg (Int.ofNat k).toNat 2) (fop BinOp.sub FloatKind.f32 (gg (Int.ofNat k).toNat 3) (gg (Int.ofNat k).toNat 0)) (fop BinOp.sub FloatKind.f32 (gg (Int.ofNat k).toNat 4) (gg (Int.ofNat k).toNat 1)) (fop BinOp.sub FloatKind.f32 (gg (Int.ofNat k).toNat 5) (gg (Int.ofNat k).toNat 2)) pp) pp then
            L (XK.normal) ([A.ro 3 m (Row.wires n x y z cl cur), A.int IntKind.i64 (Int.ofNat pp), A.sl 288 l, A.int IntKind.i64 (Int.ofNat l), A.int IntKind.i64 (IntKind.i64.wrap (Int.ofNat k + Int.ofNat 1)), A.flt FloatKind.f32 (apS m n x y z cl cur (gg k 0) (gg k 1) (gg k 2) (fop BinOp.sub FloatKind.f32 (gg k 3) (gg k 0)) (fop BinOp.sub FloatKind.f32 (gg k 4) (gg k 1)) (fop BinOp.sub FloatKind.f32 (gg k 5) (gg k 2)) (fop BinOp.mul FloatKind.f32 (fop BinOp.sub FloatKind.f32 (gg k 3) (gg k 0)) (inv pp)) (fop BinOp.mul FloatKind.f32 (fop BinOp.sub FloatKind.f32 (gg k 4) (gg k 1)) (inv pp)) (fop BinOp.mul FloatKind.f32 (fop BinOp.sub FloatKind.f32 (gg k 5) (gg k 2)) (inv pp)) pp (apR m n x y z cl cur gg pp s k) pp), A.flt FloatKind.f32 e6, A.bool false]) ([some (O.row 0 6 l (Row.flns FloatKind.f32 6 gg))])
          else
            L (XK.ret) ([A.ro 3 m (Row.wires n x y z cl cur), A.int IntKind.i64 (Int.ofNat pp), A.sl 288 l, A.int IntKind.i64 (Int.ofNat l), A.int IntKind.i64 (Int.ofNat k), A.flt FloatKind.f32 (apS m n x y z cl cur (gg k 0) (gg k 1) (gg k 2) (fop BinOp.sub FloatKind.f32 (gg k 3) (gg k 0)) (fop BinOp.sub FloatKind.f32 (gg k 4) (gg k 1)) (fop BinOp.sub FloatKind.f32 (gg k 5) (gg k 2)) (fop BinOp.mul FloatKind.f32 (fop BinOp.sub FloatKind.f32 (gg k 3) (gg k 0)) (inv pp)) (fop BinOp.mul FloatKind.f32 (fop BinOp.sub FloatKind.f32 (gg k 4) (gg k 1)) (inv pp)) (fop BinOp.mul FloatKind.f32 (fop BinOp.sub FloatKind.f32 (gg k 5) (gg k 2)) (inv pp)) pp (apR m n x y z cl cur gg pp s k) (Fw.firstIdx (okP m n x y z cl cur (gg (Int.ofNat k).toNat 0) (gg (Int.ofNat k).toNat 1) (gg (Int.ofNat k).toNat 2) (fop BinOp.sub FloatKind.f32 (gg (Int.ofNat k).toNat 3) (gg (Int.ofNat k).toNat 0)) (fop BinOp.sub FloatKind.f32 (gg (Int.ofNat k).toNat 4) (gg (Int.ofNat k).toNat 1)) (fop BinOp.sub FloatKind.f32 (gg (Int.ofNat k).toNat 5) (gg (Int.ofNat k).toNat 2)) pp) pp)), A.flt FloatKind.f32 (can FloatKind.f32 0), A.bool false]) ([some (O.row 0 6 l (Row.flns FloatKind.f32 6 gg))])
        else
          False
      else
        False
    else
      L (XK.exit 0) ([A.ro 3 m (Row.wires n x y z cl cur), A.int IntKind.i64 (Int.ofNat pp), A.sl 288 l, A.int IntKind.i64 (Int.ofNat l), A.int IntKind.i64 (Int.ofNat k), A.flt FloatKind.f32 (apR m n x y z cl cur gg pp s k), A.flt FloatKind.f32 e6, A.bool false]) ([some (O.row 0 6 l (Row.flns FloatKind.f32 6 gg))]) := by kernel_rfl
noncomputable def F60i : List A → List (Option O) → Option R3
  | [.ro 3 m (.wires n x y z cl cur), .int .i64 (.ofNat pp), .sl 288 l, .int .i64 l2, .int .i64 0, .flt .f32 s, .flt .f32 e6, .bool false], [some (.row 0 6 l3 (.flns .f32 6 gg))] => some (.ite (decide (l2 = Int.ofNat l) && Nat.beq l l3 && Nat.ble m 1048576 && allUpTo (smallW n) m && Nat.ble pp 32 && Nat.ble l 1000) (.ite (allUpTo (okI m n x y z cl cur gg pp) (l)) (.leaf .normal (I60i m n x y z cl cur gg l pp s e6 (l)) (J60i m n x y z cl cur gg l pp s e6 (l))) (.leaf (.ret) ((fun i => [.ro 3 m (.wires n x y z cl cur), .int .i64 (.ofNat pp), .sl 288 l, .int .i64 (Int.ofNat l), .int .i64 (Int.ofNat i), .flt .f32 (apS m n x y z cl cur (gg i 0) (gg i 1) (gg i 2) (fop .sub .f32 (gg i 3) (gg i 0)) (fop .sub .f32 (gg i 4) (gg i 1)) (fop .sub .f32 (gg i 5) (gg i 2)) (fop .mul .f32 (fop .sub .f32 (gg i 3) (gg i 0)) (inv pp)) (fop .mul .f32 (fop .sub .f32 (gg i 4) (gg i 1)) (inv pp)) (fop .mul .f32 (fop .sub .f32 (gg i 5) (gg i 2)) (inv pp)) pp (apR m n x y z cl cur gg pp s i) (firstIdx (okP m n x y z cl cur (gg i 0) (gg i 1) (gg i 2) (fop .sub .f32 (gg i 3) (gg i 0)) (fop .sub .f32 (gg i 4) (gg i 1)) (fop .sub .f32 (gg i 5) (gg i 2)) pp) pp)), .flt .f32 (can .f32 0), .bool false]) (firstIdx (okI m n x y z cl cur gg pp) (l))) (J60i m n x y z cl cur gg l pp s e6 (firstIdx (okI m n x y z cl cur gg pp) (l))))) .fail)
  | _, _ => none
theorem loop60i : CodeOK Try.prog (fun _ σ => sumAt Try.f32.ntmps 336 [0, 2, 28, 29, 30, 8, 6, 7] [288] F60i σ) (.block 0 (.loop (loopOf Try.f32 0))) := by
  refine block_ok (own := fun _ => true) (lp := (look lpi60i)) (un := 0) (fuel := 1000) cfg31v_ok lpi60i_ok fun az os R hF hok => ?_
  unfold F60i at hF
  split at hF
  · rename_i m n x y z cl cur pp l l2 s e6 l3 gg
    injection hF with hF
    subst hF
    have hg := hok.guard
    have hg' := hg
    simp only [Bool.and_eq_true, Nat.ble_eq, Nat.beq_eq, decide_eq_true_eq] at hg'
    obtain ⟨⟨⟨⟨⟨rfl, rfl⟩, hm⟩, hsm⟩, hpp⟩, hl⟩ := hg'
    refine for_fact (ids := [288]) (okI m n x y z cl cur gg pp) (l) (I60i m n x y z cl cur gg l pp s e6) (J60i m n x y z cl cur gg l pp s e6) _ (.ret) (fun i => [.ro 3 m (.wires n x y z cl cur), .int .i64 (.ofNat pp), .sl 288 l, .int .i64 (Int.ofNat l), .int .i64 (Int.ofNat i), .flt .f32 (apS m n x y z cl cur (gg i 0) (gg i 1) (gg i 2) (fop .sub .f32 (gg i 3) (gg i 0)) (fop .sub .f32 (gg i 4) (gg i 1)) (fop .sub .f32 (gg i 5) (gg i 2)) (fop .mul .f32 (fop .sub .f32 (gg i 3) (gg i 0)) (inv pp)) (fop .mul .f32 (fop .sub .f32 (gg i 4) (gg i 1)) (inv pp)) (fop .mul .f32 (fop .sub .f32 (gg i 5) (gg i 2)) (inv pp)) pp (apR m n x y z cl cur gg pp s i) (firstIdx (okP m n x y z cl cur (gg i 0) (gg i 1) (gg i 2) (fop .sub .f32 (gg i 3) (gg i 0)) (fop .sub .f32 (gg i 4) (gg i 1)) (fop .sub .f32 (gg i 5) (gg i 2)) pp) pp)), .flt .f32 (can .f32 0), .bool false]) (fun i => [.ro 3 m (.wires n x y z cl cur), .int .i64 (.ofNat pp), .sl 288 l, .int .i64 (Int.ofNat l), .int .i64 (Int.ofNat i), .flt .f32 (apS m n x y z cl cur (gg i 0) (gg i 1) (gg i 2) (fop .sub .f32 (gg i 3) (gg i 0)) (fop .sub .f32 (gg i 4) (gg i 1)) (fop .sub .f32 (gg i 5) (gg i 2)) (fop .mul .f32 (fop .sub .f32 (gg i 3) (gg i 0)) (inv pp)) (fop .mul .f32 (fop .sub .f32 (gg i 4) (gg i 1)) (inv pp)) (fop .mul .f32 (fop .sub .f32 (gg i 5) (gg i 2)) (inv pp)) pp (apR m n x y z cl cur gg pp s i) (firstIdx (okP m n x y z cl cur (gg i 0) (gg i 1) (gg i 2) (fop .sub .f32 (gg i 3) (gg i 0)) (fop .sub .f32 (gg i 4) (gg i 1)) (fop .sub .f32 (gg i 5) (gg i 2)) pp) pp)), .flt .f32 (can .f32 0), .bool false]) (I60i m n x y z cl cur gg l pp s e6 (l)) (J60i m n x y z cl cur gg l pp s e6 (l)) rfl (OSims.self _) (fun _ => rfl) (fun _ => rfl) (fun _ => ALe.self _) (fun _ => rfl) (ALe.self _) (OSims.self _) rfl (fun h => by cases h) (fun k hk L h1 h2 h3 => ?_) fun L hL => ?_
    · rw [round60i]

      by_cases hkm : k < l
      · refine condT (lt_dec hkm) ?_
        rw [wrap_succ (by omega)]
        refine condT (lt_dec hkm) ?_
        refine condT (by rw [ble_of hm, ble_of hpp, hsm, decide_eq_true rfl, decide_eq_true rfl, Nat.beq_refl]; rfl) ?_
        show cond (okI m n x y z cl cur gg pp k) _ _
        cases hs : okI m n x y z cl cur gg pp k
        · exact h2 hkm hs
        · exact h1 hkm hs _ (OSims.self (J60i m n x y z cl cur gg l pp s e6 (k + 1)))
      · refine condE (ge_dec (by omega)) ?_
        obtain rfl : k = l := by omega
        exact h3 rfl
    · exact ⟨fun h => (hL.1 hg).1 h, fun N hN hf hall => by
        have := (hL.1 hg).2 (allUpTo_false hN hf)
        rw [firstIdx_eq hN hf hall] at this
        exact this⟩
  · cases hF

end Go.Fw.E1

/-
  Along paths: what is no number stays none.
-/
namespace Go.Fw.E1
open Go.Proofs
theorem not_num {k : FloatKind} {x : Nat} (h : num k x = false) : (∃ s t, k.format.read x = .nan s t) ∨ ∃ s, k.format.read x = .infinity s := by
  cases hx : k.format.read x with
  | number s m i =>
    have := num_iff.2 ⟨_, _, _, hx⟩
    rw [this] at h; cases h
  | nan s t => exact .inl ⟨s, t, rfl⟩
  | infinity s => exact .inr ⟨s, rfl⟩
theorem num_nan (k : FloatKind) : num k (qnan k) = false := by cases k <;> decide +kernel
theorem num_inf (k : FloatKind) (g : Bool) : num k (k.format.word g k.format.infRung) = false := by cases k <;> cases g <;> decide +kernel
theorem add_eq (k : FloatKind) (x y : Nat) : floatBits .add k x y = ((k.format.read x).sum (k.format.read y)).map k.format.write := rfl
theorem mul_eq (k : FloatKind) (x y : Nat) : floatBits .mul k x y = ((k.format.read x).product (k.format.read y)).map k.format.write := rfl
theorem fop_none {op : BinOp} {k : FloatKind} {x y : Nat} {D : Option Ieee.Datum} (he : floatBits op k x y = D.map k.format.write) (hD : D = none ∨ ∃ g, D = some (.infinity g)) : num k (fop op k x y) = false := by
  unfold fop
  rw [he]
  rcases hD with h | ⟨g, h⟩
  · rw [h]; exact num_nan k
  · rw [h]; exact num_inf k g
theorem sum_infR (s : Bool) (d : Ieee.Datum) : d.sum (.infinity s) = none ∨ ∃ g, d.sum (.infinity s) = some (.infinity g) := by
  cases d with
  | nan a b => exact .inl rfl
  | infinity a => cases a <;> cases s <;> first | exact .inl rfl | exact .inr ⟨_, rfl⟩
  | number a n j => exact .inr ⟨_, rfl⟩
theorem sum_infL (s : Bool) (d : Ieee.Datum) : (Ieee.Datum.infinity s).sum d = none ∨ ∃ g, (Ieee.Datum.infinity s).sum d = some (.infinity g) := by
  cases d with
  | nan a b => exact .inl rfl
  | infinity a => cases a <;> cases s <;> first | exact .inl rfl | exact .inr ⟨_, rfl⟩
  | number a n j => exact .inr ⟨_, rfl⟩
theorem product_infR (s : Bool) (d : Ieee.Datum) : d.product (.infinity s) = none ∨ ∃ g, d.product (.infinity s) = some (.infinity g) := by
  cases d with
  | nan a b => exact .inl rfl
  | infinity a => exact .inr ⟨_, rfl⟩
  | number a n j =>
    simp only [Ieee.Datum.product]
    split
    · exact .inl rfl
    · exact .inr ⟨_, rfl⟩
theorem product_infL (s : Bool) (d : Ieee.Datum) : (Ieee.Datum.infinity s).product d = none ∨ ∃ g, (Ieee.Datum.infinity s).product d = some (.infinity g) := by
  cases d with
  | nan a b => exact .inl rfl
  | infinity a => exact .inr ⟨_, rfl⟩
  | number a n j =>
    simp only [Ieee.Datum.product]
    split
    · exact .inl rfl
    · exact .inr ⟨_, rfl⟩
theorem num_addR {k : FloatKind} {x y : Nat} (h : num k (fop .add k x y) = true) : num k y = true := by
  cases hy : num k y
  · rw [fop_none (add_eq k x y) ?_] at h
    · exact h
    · rcases not_num hy with ⟨s, t, e⟩ | ⟨s, e⟩
      · rw [e]; exact .inl (sum_nan_right _ _ _)
      · rw [e]; exact sum_infR _ _
  · rfl
theorem num_addL {k : FloatKind} {x y : Nat} (h : num k (fop .add k x y) = true) : num k x = true := by
  cases hy : num k x
  · rw [fop_none (add_eq k x y) ?_] at h
    · exact h
    · rcases not_num hy with ⟨s, t, e⟩ | ⟨s, e⟩
      · rw [e]; exact .inl (sum_nan_left _ _ _)
      · rw [e]; exact sum_infL _ _
  · rfl
theorem num_mulL {k : FloatKind} {x y : Nat} (h : num k (fop .mul k x y) = true) : num k x = true := by
  cases hy : num k x
  · rw [fop_none (mul_eq k x y) ?_] at h
    · exact h
    · rcases not_num hy with ⟨s, t, e⟩ | ⟨s, e⟩
      · rw [e]; exact .inl (product_nan_left _ _ _)
      · rw [e]; exact product_infL _ _
  · rfl
theorem sub_eq (k : FloatKind) (x y : Nat) : floatBits .sub k x y = ((k.format.read x).sum (k.format.read y).opposite).map k.format.write := rfl
theorem num_subL {k : FloatKind} {x y : Nat} (h : num k (fop .sub k x y) = true) : num k x = true := by
  cases hy : num k x
  · rw [fop_none (sub_eq k x y) ?_] at h
    · exact h
    · rcases not_num hy with ⟨s, t, e⟩ | ⟨s, e⟩
      · rw [e]; exact .inl (sum_nan_left _ _ _)
      · rw [e]; exact sum_infL _ _
  · rfl
theorem fin_addL {x y : Nat} (h : fin (fop .add .f32 x y) = true) : fin x = true := by rw [fin_num] at h ⊢; exact num_addL h
theorem fin_addR {x y : Nat} (h : fin (fop .add .f32 x y) = true) : fin y = true := by rw [fin_num] at h ⊢; exact num_addR h
theorem fin_mulL {x y : Nat} (h : fin (fop .mul .f32 x y) = true) : fin x = true := by rw [fin_num] at h ⊢; exact num_mulL h
theorem fin_subL {x y : Nat} (h : fin (fop .sub .f32 x y) = true) : fin x = true := by rw [fin_num] at h ⊢; exact num_subL h
end Go.Fw.E1

/-
  Along paths: where a field is none, the sum is none.
-/
namespace Go.Fw.E1
open Go.Proofs
theorem vfin_iff {a b c : Nat} : vfin a b c = true ↔ fin a = true ∧ fin b = true ∧ fin c = true := by
  unfold vfin
  cases fin a <;> cases fin b <;> cases fin c <;> simp
theorem fin_inn {a b c x y z : Nat} (h : fin (inn a b c x y z) = true) : vfin a b c = true := by
  unfold inn at h
  have h1 := fin_addL h
  exact vfin_iff.2 ⟨fin_mulL (fin_addL h1), fin_mulL (fin_addR h1), fin_mulL (fin_addR h)⟩
section
variable {m : Nat} {n : Nat → Nat} {x y z : Nat → Nat → Nat} {cl : Nat → Bool} {cur : Nat → Nat}
theorem faX_fin {p q r s : Nat} : ∀ k, fin (faX n x y z cl cur p q r s k) = true → fin s = true
  | 0, h => h
  | k + 1, h => faX_fin k (fin_addL h)
theorem faY_fin {p q r s : Nat} : ∀ k, fin (faY n x y z cl cur p q r s k) = true → fin s = true
  | 0, h => h
  | k + 1, h => faY_fin k (fin_addL h)
theorem faZ_fin {p q r s : Nat} : ∀ k, fin (faZ n x y z cl cur p q r s k) = true → fin s = true
  | 0, h => h
  | k + 1, h => faZ_fin k (fin_addL h)
theorem st0_yes {p q r c : Nat} (h : vfin p q r = true) : st0 p q r c = 0 := by unfold st0; rw [h]; rfl
theorem st0_fin {p q r c : Nat} (hc : vfin p q r = true → fin c = true) (h : fin (st0 p q r c) = true) : fin c = true := by
  unfold st0 at h
  cases hv : vfin p q r
  · rw [hv] at h; exact fin_subL h
  · exact hc hv
theorem innR_ok {p q r v0 v1 v2 : Nat} (h : fin (innR m n x y z cl cur p q r v0 v1 v2) = true) : (bif vfin p q r then fOkA m n x y z cl cur p q r else false) = true := by
  unfold innR at h
  have h1 := fin_inn h
  obtain ⟨a, b, c⟩ := vfin_iff.1 h1
  have hv : vfin p q r = true := vfin_iff.2 ⟨st0_fin (fun h => (vfin_iff.1 h).1) (faX_fin _ a), st0_fin (fun h => (vfin_iff.1 h).2.1) (faY_fin _ b), st0_fin (fun h => (vfin_iff.1 h).2.2) (faZ_fin _ c)⟩
  rw [st0_yes hv, st0_yes hv, st0_yes hv] at h1
  rw [hv]
  exact h1
theorem innR_eq {p q r v0 v1 v2 : Nat} (h : (bif vfin p q r then fOkA m n x y z cl cur p q r else false) = true) : innP m n x y z cl cur p q r v0 v1 v2 = innR m n x y z cl cur p q r v0 v1 v2 := by
  cases hv : vfin p q r
  · rw [hv] at h; cases h
  · unfold innP innR
    rw [st0_yes hv, st0_yes hv, st0_yes hv]
theorem awS_fin {a0 a1 a2 u0 u1 u2 v0 v1 v2 pp s : Nat} : ∀ K, fin (awS m n x y z cl cur a0 a1 a2 u0 u1 u2 v0 v1 v2 pp s K) = true → fin s = true ∧ ∀ k, k < K → okP m n x y z cl cur a0 a1 a2 u0 u1 u2 pp k = true
  | 0, h => ⟨h, fun k hk => absurd hk (by omega)⟩
  | K + 1, h => by
    have ih := awS_fin K (fin_addL h)
    have h2 := innR_ok (fin_addR h)
    refine ⟨ih.1, fun k hk => ?_⟩
    by_cases e : k = K
    · subst e; exact h2
    · exact ih.2 k (by omega)
theorem apS_eq {a0 a1 a2 u0 u1 u2 v0 v1 v2 pp s : Nat} : ∀ K, (∀ k, k < K → okP m n x y z cl cur a0 a1 a2 u0 u1 u2 pp k = true) → apS m n x y z cl cur a0 a1 a2 u0 u1 u2 v0 v1 v2 pp s K = awS m n x y z cl cur a0 a1 a2 u0 u1 u2 v0 v1 v2 pp s K
  | 0, _ => rfl
  | K + 1, h => by
    have ih := apS_eq (v0 := v0) (v1 := v1) (v2 := v2) (s := s) K (fun k hk => h k (by omega))
    have h2 := innR_eq (v0 := v0) (v1 := v1) (v2 := v2) (h K (by omega))
    show fop .add .f32 (apS m n x y z cl cur a0 a1 a2 u0 u1 u2 v0 v1 v2 pp s K) (innP m n x y z cl cur (atC a0 u0 pp K) (atC a1 u1 pp K) (atC a2 u2 pp K) v0 v1 v2) = fop .add .f32 (awS m n x y z cl cur a0 a1 a2 u0 u1 u2 v0 v1 v2 pp s K) (innR m n x y z cl cur (atC a0 u0 pp K) (atC a1 u1 pp K) (atC a2 u2 pp K) v0 v1 v2)
    rw [ih, h2]
theorem arR_fin {gg : Nat → Nat → Nat} {pp s : Nat} : ∀ N, fin (arR m n x y z cl cur gg pp s N) = true → allUpTo (okI m n x y z cl cur gg pp) N = true := by
  intro N h
  refine allUpTo_iff.2 ?_
  induction N with
  | zero => exact fun i hi => absurd hi (by omega)
  | succ N ih =>
    have h2 := awS_fin _ h
    intro i hi
    by_cases e : i = N
    · subst e; exact allUpTo_iff.2 h2.2
    · exact ih h2.1 i (by omega)
theorem apR_eq {gg : Nat → Nat → Nat} {pp s : Nat} : ∀ N, allUpTo (okI m n x y z cl cur gg pp) N = true → apR m n x y z cl cur gg pp s N = arR m n x y z cl cur gg pp s N := by
  intro N h0
  have h := allUpTo_iff.1 h0
  clear h0
  induction N with
  | zero => rfl
  | succ N ih =>
    have h1 := ih fun i hi => h i (by omega)
    have h2 := allUpTo_iff.1 (h N (by omega))
    show apS _ _ _ _ _ _ _ _ _ _ _ _ _ _ _ _ _ (apR m n x y z cl cur gg pp s N) _ = awS _ _ _ _ _ _ _ _ _ _ _ _ _ _ _ _ _ (arR m n x y z cl cur gg pp s N) _
    rw [h1]
    exact apS_eq _ h2
end
end Go.Fw.E1

/-
  Along paths: contracts of the reference and the program.
-/
namespace Go.Fw.E1
open Go.Proofs
def in32 (p : Int) : Bool := bif decide (p ≥ 1) then decide (p ≤ 32) else false
theorem in32_ok {pp : Nat} (h : in32 (Int.ofNat pp) = true) : pp ≤ 32 := by
  unfold in32 at h
  cases h1 : decide (Int.ofNat pp ≥ 1)
  · rw [h1] at h; cases h
  · rw [h1] at h
    have := of_decide_eq_true h
    simp at this
    omega
theorem in32_neg (pp : Nat) : in32 (Int.negSucc pp) = false := by
  unfold in32
  rw [decide_eq_false (show ¬ (Int.negSucc pp ≥ 1) by omega)]; rfl
noncomputable def arOk (m : Nat) (n : Nat → Nat) (x y z : Nat → Nat → Nat) (cur : Nat → Nat) (n2 cur2 : Nat) (x2 y2 z2 : Nat → Nat) (p : Int) : Bool := areW m n x y z cur && okW n2 cur2 x2 y2 z2 && in32 p
noncomputable def s59a : List A → Option (Bool × A)
  | [.ro 3 m (.wires n x y z cl cur), .agg [.ro 3 n2 (.vecs .f32 x2 y2 z2), .bool cl2, .flt .f32 cur2], .int .i64 (.ofNat pp)] => some (Nat.ble m 1048576 && allUpTo (shortW n) m && Nat.ble n2 1048576, .tup [.flt .f32 (bif arOk m n x y z cur n2 cur2 x2 y2 z2 (Int.ofNat pp) && fin (arR m n x y z cl cur (sg n2 x2 y2 z2) pp (can .f32 0) (cnt n2 cl2)) then arR m n x y z cl cur (sg n2 x2 y2 z2) pp (can .f32 0) (cnt n2 cl2) else can .f32 0), .bool (arOk m n x y z cur n2 cur2 x2 y2 z2 (Int.ofNat pp) && fin (arR m n x y z cl cur (sg n2 x2 y2 z2) pp (can .f32 0) (cnt n2 cl2)))])
  | _ => none
noncomputable def lp60a : List (Nat × (St → T)) := [(0, sumAt Try.f32.ntmps 336 [0, 2, 28, 29, 30, 8, 6, 7] [288] F60i)]
theorem lp60a_ok : LpOK Try.prog (look lp60a) (bodyOf Try.f32) := lp_loops (by kernel_rfl) (by kernel_rfl) fun p hp => by
  simp only [lp60a, List.mem_cons, List.not_mem_nil, or_false] at hp
  rcases hp with rfl
  · exact loop60i
theorem auto60a (m : Nat) (n : Nat → Nat) (x y z : Nat → Nat → Nat) (cl : Nat → Bool) (cur : Nat → Nat) (n2 cur2 : Nat) (x2 y2 z2 : Nat → Nat) (cl2 : Bool) (pp : Nat) : autoLp cfg31v (look lp60a) Try.f32 [.ro 3 m (.wires n x y z cl cur), .agg [.ro 3 n2 (.vecs .f32 x2 y2 z2), .bool cl2, .flt .f32 cur2], .int .i64 (.ofNat pp)] =
    some (m.ble 1048576 && allUpTo (shortW n) m && ((n2.ble 4611686018427387000 || !(!areW m n x y z cur) == false) && bif bif bif !areW m n x y z cur then true else !okW n2 cur2 x2 y2 z2 then true else !bif decide (Int.ofNat pp ≥ 1) then decide (Int.ofNat pp ≤ 32) else false then true else Nat.ble 1 n2 && n2.ble 1073741824 && (decide (Int.ofNat (cnt n2 cl2) = Int.ofNat (cnt n2 cl2)) && (cnt n2 cl2).beq (cnt n2 cl2) && m.ble 1048576 && allUpTo (smallW n) m && pp.ble 32 && (cnt n2 cl2).ble 1000 && bif allUpTo (okI m n x y z cl cur (sg n2 x2 y2 z2) pp) (cnt n2 cl2) then true else true)), A.tup [A.flt FloatKind.f32 (bif bif bif !areW m n x y z cur then true else !okW n2 cur2 x2 y2 z2 then true else !bif decide (Int.ofNat pp ≥ 1) then decide (Int.ofNat pp ≤ 32) else false then can FloatKind.f32 0 else bif allUpTo (okI m n x y z cl cur (sg n2 x2 y2 z2) pp) (cnt n2 cl2) then bif fin (apR m n x y z cl cur (sg n2 x2 y2 z2) pp (can FloatKind.f32 0) (cnt n2 cl2)) then apR m n x y z cl cur (sg n2 x2 y2 z2) pp (can FloatKind.f32 0) (cnt n2 cl2) else can FloatKind.f32 0 else can FloatKind.f32 0), A.bool (bif bif bif !areW m n x y z cur then true else !okW n2 cur2 x2 y2 z2 then true else !bif decide (Int.ofNat pp ≥ 1) then decide (Int.ofNat pp ≤ 32) else false then false else bif allUpTo (okI m n x y z cl cur (sg n2 x2 y2 z2) pp) (cnt n2 cl2) then fin (apR m n x y z cl cur (sg n2 x2 y2 z2) pp (can FloatKind.f32 0) (cnt n2 cl2)) else false)]) := by kernel_rfl
noncomputable def s60a : List A → Option (Bool × A)
  | [.ro 3 m (.wires n x y z cl cur), .agg [.ro 3 n2 (.vecs .f32 x2 y2 z2), .bool cl2, .flt .f32 cur2], .int .i64 (.ofNat pp)] => some (Nat.ble m 1048576 && allUpTo (shortW n) m && Nat.ble n2 1048576, .tup [.flt .f32 (bif arOk m n x y z cur n2 cur2 x2 y2 z2 (Int.ofNat pp) && fin (arR m n x y z cl cur (sg n2 x2 y2 z2) pp (can .f32 0) (cnt n2 cl2)) then arR m n x y z cl cur (sg n2 x2 y2 z2) pp (can .f32 0) (cnt n2 cl2) else can .f32 0), .bool (arOk m n x y z cur n2 cur2 x2 y2 z2 (Int.ofNat pp) && fin (arR m n x y z cl cur (sg n2 x2 y2 z2) pp (can .f32 0) (cnt n2 cl2)))])
  | _ => none
theorem s60a_at : EnvAt Try.prog 32 s60a := of_auto cfg31v_ok lp60a_ok Try.func32 (by kernel_rfl) (by kernel_rfl) fun ds cc rr h hc => by
  unfold s60a at h
  split at h
  · rename_i m n x y z cl cur n2 x2 y2 z2 cl2 cur2 pp
    simp only [Option.some.injEq, Prod.mk.injEq] at h
    obtain ⟨rfl, rfl⟩ := h
    refine auto_fit (auto60a m n x y z cl cur n2 cur2 x2 y2 z2 cl2 pp) ?_ ?_
    · unfold arOk in32
      cases areW m n x y z cur
      · rfl
      · cases okW n2 cur2 x2 y2 z2
        · rfl
        · cases (bif decide (Int.ofNat pp ≥ 1) then decide (Int.ofNat pp ≤ 32) else false)
          · rfl
          · cases hall : allUpTo (okI m n x y z cl cur (sg n2 x2 y2 z2) pp) (cnt n2 cl2)
            · cases hf : fin (arR m n x y z cl cur (sg n2 x2 y2 z2) pp (can .f32 0) (cnt n2 cl2))
              · rfl
              · rw [arR_fin _ hf] at hall; cases hall
            · rw [apR_eq _ hall]; rfl
    · simp only [Bool.and_eq_true, Nat.ble_eq] at hc
      obtain ⟨⟨hm, hsh⟩, hn2⟩ := hc
      rw [ble_of hm, hsh, ble_of (show n2 ≤ 4611686018427387000 by omega)]
      cases hA : areW m n x y z cur
      · rfl
      · cases hB : okW n2 cur2 x2 y2 z2
        · rfl
        · have k4 := okW_n hB
          cases hI : (bif decide (Int.ofNat pp ≥ 1) then decide (Int.ofNat pp ≤ 32) else false)
          · rfl
          · have k5 := in32_ok hI
            rw [(areW_ok hA).2, ble_of k5, ble_of (show 1 ≤ n2 by omega), ble_of (show n2 ≤ 1073741824 by omega), ble_of (show cnt n2 cl2 ≤ 1000 by have := cnt_le n2 cl2; omega), Nat.beq_refl, decide_eq_true rfl, Bool.cond_self]; rfl
  · cases h

noncomputable def s59b : List A → Option (Bool × A)
  | [.ro 3 m (.wires n x y z cl cur), .agg [.ro 3 n2 (.vecs .f32 x2 y2 z2), .bool cl2, .flt .f32 cur2], .int .i64 (.negSucc pp)] => some (Nat.ble m 1048576 && allUpTo (shortW n) m && Nat.ble n2 1048576, .tup [.flt .f32 (can .f32 0), .bool false])
  | _ => none
theorem auto60b (m : Nat) (n : Nat → Nat) (x y z : Nat → Nat → Nat) (cl : Nat → Bool) (cur : Nat → Nat) (n2 cur2 : Nat) (x2 y2 z2 : Nat → Nat) (cl2 : Bool) (pp : Nat) : autoS cfg31v (fun _ => none) true Try.f32 [.ro 3 m (.wires n x y z cl cur), .agg [.ro 3 n2 (.vecs .f32 x2 y2 z2), .bool cl2, .flt .f32 cur2], .int .i64 (.negSucc pp)] =
    some (m.ble 1048576 && allUpTo (shortW n) m && ((n2.ble 4611686018427387000 || !(!areW m n x y z cur) == false) && ((bif bif !areW m n x y z cur then true else !okW n2 cur2 x2 y2 z2 then true else !false) && true)), A.tup [A.flt FloatKind.f32 (can FloatKind.f32 0), A.bool false]) := by kernel_rfl
noncomputable def s60b : List A → Option (Bool × A)
  | [.ro 3 m (.wires n x y z cl cur), .agg [.ro 3 n2 (.vecs .f32 x2 y2 z2), .bool cl2, .flt .f32 cur2], .int .i64 (.negSucc pp)] => some (Nat.ble m 1048576 && allUpTo (shortW n) m && Nat.ble n2 1048576, .tup [.flt .f32 (can .f32 0), .bool false])
  | _ => none
theorem s60b_at : EnvAt Try.prog 32 s60b := of_autoS cfg31v_ok (lp_none _) Try.func32 (by kernel_rfl) (by kernel_rfl) fun ds cc rr h hc => by
  unfold s60b at h
  split at h
  · rename_i m n x y z cl cur n2 x2 y2 z2 cl2 cur2 pp
    simp only [Option.some.injEq, Prod.mk.injEq] at h
    obtain ⟨rfl, rfl⟩ := h
    refine auto_fit (auto60b m n x y z cl cur n2 cur2 x2 y2 z2 cl2 pp) ?_ ?_
    · simp only [Bool.cond_self]
    · simp only [Bool.and_eq_true, Nat.ble_eq] at hc
      obtain ⟨⟨hm, hsh⟩, hn2⟩ := hc
      rw [ble_of hm, hsh, ble_of (show n2 ≤ 4611686018427387000 by omega)]
      cases areW m n x y z cur <;> cases okW n2 cur2 x2 y2 z2 <;> rfl
  · cases h

noncomputable def s59 : List A → Option (Bool × A)
  | [u, v, .int .i64 (.ofNat pp)] => s59a [u, v, .int .i64 (.ofNat pp)]
  | ds => s59b ds
noncomputable def s60 : List A → Option (Bool × A)
  | [u, v, .int .i64 (.ofNat pp)] => s60a [u, v, .int .i64 (.ofNat pp)]
  | ds => s60b ds
theorem s60_at : EnvAt Try.prog 32 s60 := by
  refine ⟨s60a_at.1, fun ds c r h hc => ?_⟩
  unfold s60 at h
  split at h
  · exact s60a_at.2 _ _ _ h hc
  · exact s60b_at.2 _ _ _ h hc
noncomputable def env33v : List (Nat × (List A → Option (Bool × A))) := (32, s60) :: env31v
theorem env33v_ok : EnvOK Try.prog (look env33v) := (env_cons s60_at env31v_ok)
noncomputable def cfg33v : Cfg := mkCfg tab [] xts (look env33v)
theorem cfg33v_ok : CfgOK Try.prog cfg33v := cfg_ok tab_eq (no_fts _) xts_ok env33v_ok mixed
end Go.Fw.E1

/-
  Wires gone back: their points kept.
-/
namespace Go.Fw.E1
open Go.Proofs
theorem auto87i (x y z : Nat) : autoLp cfg35 (fun _ => none) Try.f87 [.agg [.flt .f32 x, .flt .f32 y, .flt .f32 z]] =
    some (true, A.agg [A.flt FloatKind.f32 x, A.flt FloatKind.f32 y, A.flt FloatKind.f32 z]) := by kernel_rfl
noncomputable def s87i : List A → Option (Bool × A)
  | [.agg [.flt .f32 x, .flt .f32 y, .flt .f32 z]] => some (true, .agg [.flt .f32 x, .flt .f32 y, .flt .f32 z])
  | _ => none
theorem s87i_at : EnvAt Try.prog 87 s87i := of_auto cfg35_ok (lp_none _) Try.func87 (by kernel_rfl) (by kernel_rfl) fun ds cc rr h hc => by
  unfold s87i at h
  split at h
  · rename_i x y z
    simp only [Option.some.injEq, Prod.mk.injEq] at h
    obtain ⟨rfl, rfl⟩ := h
    refine auto_fit (auto87i x y z) ?_ ?_
    · rfl
    · rfl
  · cases h

noncomputable def envB1 : List (Nat × (List A → Option (Bool × A))) := (87, s87i) :: env35
theorem envB1_ok : EnvOK Try.prog (look envB1) := env_cons s87i_at env35_ok
noncomputable def cfgB1 : Cfg := mkCfg (nilTab tab) fts75 xts (look envB1)
theorem cfgB1_ok : CfgOK Try.prog cfgB1 := cfgN_ok' tab_eq fts75_ok xts_ok envB1_ok mixed
noncomputable def I95i (n cur : Nat) (x y z : Nat → Nat) (cl : Bool) (k : Nat) : List A := [.fn 87 [], .ro 3 n (.vecs .f32 x y z), .int .i64 (Int.ofNat n), .int .i64 (Int.ofNat k), .ptr 176 0, .ptr 16 0, .bool false]
noncomputable def J95i (n cur : Nat) (x y z : Nat → Nat) (cl : Bool) (k : Nat) : List O := [.var [.sl 272 k, .bool cl, .flt .f32 cur], .row 30 3 k (.vecs .f32 x y z), .var [.nils, .bool false, .flt .f32 0]]
theorem round95i (n cur : Nat) (x y z : Nat → Nat) (cl : Bool) (k : Nat) (L : XK → List A → List (Option O) → Prop) :
    ((exec cfgB1 (fun _ => true) (fun _ => none) 0 1000 (loopOf Try.f85 0) (litSt Try.f85.ntmps 288 [1, 19, 20, 21, 6, 4, 5] [176, 272, 16] (I95i n cur x y z cl k) (J95i n cur x y z cl k))).rt [1, 19, 20, 21, 6, 4, 5] [176, 272, 16]).Ok L =
    bif decide (Int.ofNat k < Int.ofNat n) then 
       bif decide (Int.ofNat k < Int.ofNat n) then 
         bif decide (k + 1 ≤ 1073741824) then 
           L (XK.normal) ([A.fn 87 [], A.ro 3 n (Row.vecs FloatKind.f32 x y z), A.int IntKind.i64 (Int.ofNat n), A.int IntKind.i64 (IntKind.i64.wrap (Int.ofNat k + Int.ofNat 1)), A.ptr 176 0, A.ptr 16 0, A.bool false]) ([some (O.var [A.sl 272 (k + 1), A.bool cl, A.flt FloatKind.f32 cur]),   some     (O.row 30 3 (k + 1)       (Row.vecs FloatKind.f32         (fun j =>           (match decide (j < k) with | true => x j | false => ([[x k, y k, z k]].getD (j - k) []).getD 0 0))         (fun j =>           (match decide (j < k) with | true => y j | false => ([[x k, y k, z k]].getD (j - k) []).getD 1 0))         fun j =>         (match decide (j < k) with | true => z j | false => ([[x k, y k, z k]].getD (j - k) []).getD 2 0))),   some (O.var [A.nils, A.bool false, A.flt FloatKind.f32 0])]) 
         else 
           False 
       else 
         False 
     else 
       L (XK.exit 0) ([A.fn 87 [], A.ro 3 n (Row.vecs FloatKind.f32 x y z), A.int IntKind.i64 (Int.ofNat n), A.int IntKind.i64 (Int.ofNat k), A.ptr 176 0, A.ptr 16 0, A.bool false]) ([some (O.var [A.sl 272 k, A.bool cl, A.flt FloatKind.f32 cur]), some (O.row 30 3 k (Row.vecs FloatKind.f32 x y z)), some (O.var [A.nils, A.bool false, A.flt FloatKind.f32 0])]) := by kernel_rfl
noncomputable def F95i : List A → List (Option O) → Option R3
  | [.fn 87 [], .ro 3 n (.vecs .f32 x y z), .int .i64 l, .int .i64 0, .ptr 176 0, .ptr 16 0, .bool false], [some (.var [.sl 272 0, .bool cl, .flt .f32 cur]), some (.row 30 3 0 g), some (.var [.nils, .bool false, .flt .f32 0])] => some (.ite (decide (l = Int.ofNat n) && Nat.ble n 1000) (.leaf .normal (I95i n cur x y z cl (n)) (J95i n cur x y z cl (n))) .fail)
  | _, _ => none
theorem loop95i : CodeOK Try.prog (fun _ σ => sumAt Try.f85.ntmps 288 [1, 19, 20, 21, 6, 4, 5] [176, 272, 16] F95i σ) (.block 0 (.loop (loopOf Try.f85 0))) := by
  refine block_ok (own := fun _ => true) (lp := (fun _ => none)) (un := 0) (fuel := 1000) cfgB1_ok (lp_none _) fun az os R hF hok => ?_
  unfold F95i at hF
  split at hF
  · rename_i n x y z l cl cur g
    injection hF with hF
    subst hF
    have hg := hok.guard
    have hg' := hg
    simp only [Bool.and_eq_true, Nat.ble_eq, Nat.beq_eq, decide_eq_true_eq] at hg'
    obtain ⟨rfl, hn⟩ := hg'
    refine for_fact (ids := [176, 272, 16]) (fun _ => true) (n) (I95i n cur x y z cl) (J95i n cur x y z cl) _ (.ret) (I95i n cur x y z cl) (I95i n cur x y z cl) (I95i n cur x y z cl (n)) (J95i n cur x y z cl (n)) rfl (by unfold J95i; exact ⟨rfl, ⟨30, _, rfl, .inr rfl, fun p hp => absurd hp (by omega)⟩, rfl, trivial⟩) (fun _ => rfl) (fun _ => rfl) (fun _ => ALe.self _) (fun _ => rfl) (ALe.self _) (OSims.self _) rfl (fun h => by cases h) (fun k hk L h1 h2 h3 => ?_) fun L hL => ?_
    · rw [round95i]

      by_cases hkm : k < n
      · refine condT (lt_dec hkm) ?_
        rw [wrap_succ (by omega)]
        refine condT (lt_dec hkm) ?_
        refine condT (decide_eq_true (by omega)) ?_
        exact h1 hkm rfl _ ⟨rfl, ⟨30, _, rfl, .inr rfl, fun p hp => vec_at (app3 (u := x) rfl hp) (app3 (u := y) rfl hp) (app3 (u := z) rfl hp)⟩, rfl, trivial⟩
      · refine condE (ge_dec (by omega)) ?_
        obtain rfl : k = n := by omega
        exact h3 rfl
    · exact ⟨fun _ => hL.1 hg, fun N _ h => by cases h⟩
  · cases hF

noncomputable def N95i : St → T := nilW 176 0 30 3 (sumAt Try.f85.ntmps 288 [1, 19, 20, 21, 6, 4, 5] [176, 272, 16] F95i)
theorem loopN95i : CodeOK Try.prog (fun _ σ => N95i σ) (.block 0 (.loop (loopOf Try.f85 0))) := nilW_ok loop95i
noncomputable def lp95iT : List (Nat × (St → T)) := [(0, N95i)]
theorem lp95iT_ok : LpOK Try.prog (look lp95iT) (bodyOf Try.f85) := lp_loops (by kernel_rfl) (by kernel_rfl) fun p hp => by
  simp only [lp95iT, List.mem_cons, List.not_mem_nil, or_false] at hp
  rcases hp with rfl
  · exact loopN95i
theorem auto95iT (n cur : Nat) (x y z : Nat → Nat) (cl : Bool) : autoS cfgB1 (look lp95iT) false Try.f85 [.agg [.ro 3 n (.vecs .f32 x y z), .bool cl, .flt .f32 cur], .fn 87 []] =
    some (n.ble 4611686018427387000 && (!!okW n cur x y z && (decide (Int.ofNat n = Int.ofNat n) && n.ble 1000 && (n.ble 4611686018427387000 && (!!okW n cur x y z && true)))), A.tup [A.agg [A.ro 3 n (Row.vecs FloatKind.f32 x y z), A.bool cl, A.flt FloatKind.f32 cur], A.bool true]) := by kernel_rfl
noncomputable def s95iT : List A → Option (Bool × A)
  | [.agg [.ro 3 n (.vecs .f32 x y z), .bool cl, .flt .f32 cur], .fn 87 []] => some (okW n cur x y z, .tup [.agg [.ro 3 n (.vecs .f32 x y z), .bool cl, .flt .f32 cur], .bool true])
  | _ => none
theorem s95iT_at : EnvAt Try.prog 85 s95iT := of_autoS cfgB1_ok lp95iT_ok Try.func85 (by kernel_rfl) (by kernel_rfl) fun ds cc rr h hc => by
  unfold s95iT at h
  split at h
  · rename_i n x y z cl cur
    simp only [Option.some.injEq, Prod.mk.injEq] at h
    obtain ⟨rfl, rfl⟩ := h
    refine auto_fit (auto95iT n cur x y z cl) ?_ ?_
    · rfl
    · have h5 := okW_n hc
      rw [hc, ble_of (show n ≤ 4611686018427387000 by omega), ble_of (show n ≤ 1000 by omega), decide_eq_true rfl]; rfl
  · cases h

noncomputable def envB2 : List (Nat × (List A → Option (Bool × A))) := (85, s95iT) :: envB1
theorem envB2_ok : EnvOK Try.prog (look envB2) := env_cons s95iT_at envB1_ok
noncomputable def cfgB2 : Cfg := mkCfg (nilTab tab) fts75 xts (look envB2)
theorem cfgB2_ok : CfgOK Try.prog cfgB2 := cfgN_ok' tab_eq fts75_ok xts_ok envB2_ok mixed
end Go.Fw.E1

/-
  Wires gone back: points turned round.
-/
namespace Go.Fw.E1
open Go.Proofs
noncomputable def ftsR : List (Nat × Func) := [(88, Try.f88), (75, Try.f75)]
theorem ftsR_ok (f : Nat) (fn : Func) (h : (f, fn) ∈ ftsR) : Try.prog.funcs[f]? = some fn ∧ (fn.name == "runtime.NumGoroutine") = false := by
  simp only [ftsR, List.mem_cons, Prod.mk.injEq, List.not_mem_nil, or_false] at h
  rcases h with ⟨rfl, rfl⟩ | ⟨rfl, rfl⟩
  · exact ⟨Try.func88, by kernel_rfl⟩
  · exact ⟨Try.func75, by kernel_rfl⟩
noncomputable def cfgRS : Cfg := mkCfgX (nilTab tab) ftsR xts (look envB2) [(88, fun σ => .loop .skip σ fun _ _ => .fail)]
end Go.Fw.E1

/-
  Points turned round in place: the loop of slices.Reverse.
-/
namespace Go.Fw.E1
open Go.Proofs
def IR (m i : Nat) (j : Int) : List A := [.sl 64 m, .int .i64 (Int.ofNat i), .int .i64 j]
def setAt (i : Nat) (v : Nat) (x : Nat → Nat) (p : Nat) : Nat := match decide (p = i) with | true => v | false => x p
def inRow (m : Nat) (j : Int) : Bool := decide (0 ≤ j) && decide (j < Int.ofNat m)
theorem roundR64 (m i e lo nx : Nat) (j : Int) (x y z : Nat → Nat) (M : List (Nat × O)) (L : XK → List A → List (Nat × O) → Prop) :
    ((exec cfg0 (fun _ => true) (fun _ => none) 0 1000 (loopOf Try.f88 0) (stM Try.f88.ntmps lo nx [0, 2, 3] (IR m i j) 64 (.row e 3 m (.vecs .f32 x y z)) M)).rm [0, 2, 3]).Ok L =
    (bif decide (Int.ofNat i < j) then
      bif (inRow m (Int.ofNat i) && (inRow m (Int.ofNat i) && (inRow m j && true))) then
        bif inRow m j then
          L .normal [.sl 64 m, .int .i64 (IntKind.i64.wrap (Int.ofNat i + Int.ofNat 1)), .int .i64 (IntKind.i64.wrap (j - Int.ofNat 1))]
            ((64, .row e 3 m (.vecs .f32 (setAt j.toNat (x i) (setAt i (x j.toNat) x)) (setAt j.toNat (y i) (setAt i (y j.toNat) y)) (setAt j.toNat (z i) (setAt i (z j.toNat) z)))) ::
             (64, .row e 3 m (.vecs .f32 (setAt i (x j.toNat) x) (setAt i (y j.toNat) y) (setAt i (z j.toNat) z))) :: (64, .row e 3 m (.vecs .f32 x y z)) :: M)
        else False
      else False
    else L (.exit 0) [.sl 64 m, .int .i64 (Int.ofNat i), .int .i64 j] ((64, .row e 3 m (.vecs .f32 x y z)) :: M)) := by kernel_rfl
/-- A row of m turned round from both ends up to place k. -/
def revTo (m k : Nat) (x : Nat → Nat) (p : Nat) : Nat := match decide (p < k) || decide (m - 1 - k < p) with | true => x (m - 1 - p) | false => x p
noncomputable def JR (e m : Nat) (x y z : Nat → Nat) (k : Nat) : O := .row e 3 m (.vecs .f32 (revTo m k x) (revTo m k y) (revTo m k z))
theorem revTo_step {m k : Nat} (hk : k < m / 2) (x : Nat → Nat) (p : Nat) (hp : p < m) :
    setAt (m - 1 - k) (revTo m k x k) (setAt k (revTo m k x (m - 1 - k)) (revTo m k x)) p = revTo m (k + 1) x p := by
  unfold setAt revTo
  by_cases h1 : p = m - 1 - k
  · subst h1
    have a1 : decide (m - 1 - (k + 1) < m - 1 - k) = true := by simp; omega
    have a2 : decide (k < k) = false := by simp
    have a3 : decide (m - 1 - k < k) = false := by simp; omega
    simp only [a1, a2, a3, decide_true, Bool.or_true, Bool.or_false, Bool.or_self]
    congr 1; omega
  · by_cases h2 : p = k
    · subst h2
      have a1 : decide (p < p + 1) = true := by simp
      have a2 : decide (m - 1 - p < p) = false := by simp; omega
      have a3 : decide (m - 1 - p < m - 1 - p) = false := by simp
      have a4 : decide (p = m - 1 - p) = false := by simp; omega
      simp only [a1, a2, a3, a4, decide_true, Bool.true_or, Bool.or_self]
    · have a1 : (p < k) = (p < k + 1) := by simp; omega
      have a2 : (m - 1 - k < p) = (m - 1 - (k + 1) < p) := by simp; omega
      simp only [h1, h2, decide_false, a1, a2]
noncomputable def FR64 : List A → O → Option (Bool × List A × O)
  | [.sl j m, .int .i64 (.ofNat 0), .int .i64 jz], .row e 3 m2 (.vecs .f32 x y z) => some (Nat.beq j 64 && Nat.beq m2 m && Nat.ble m 1048577 && Nat.ble 1 m && decide (jz = Int.ofNat (m - 1)), IR m (m / 2) (Int.ofNat (m - 1 - m / 2)), .row e 3 m (.vecs .f32 (fun p => x (m - 1 - p)) (fun p => y (m - 1 - p)) (fun p => z (m - 1 - p))))
  | _, _ => none
theorem revTo_zero {m : Nat} (x : Nat → Nat) (p : Nat) (hp : p < m) : x p = revTo m 0 x p := by
  unfold revTo
  have a1 : decide (p < 0) = false := by simp
  have a2 : decide (m - 1 - 0 < p) = false := by simp; omega
  simp only [a1, a2, Bool.or_self]
theorem revTo_end {m : Nat} (x : Nat → Nat) (p : Nat) (hp : p < m) : revTo m (m / 2) x p = x (m - 1 - p) := by
  unfold revTo
  by_cases h : p < m / 2 ∨ m - 1 - m / 2 < p
  · have a : (decide (p < m / 2) || decide (m - 1 - m / 2 < p)) = true := by simpa using h
    simp only [a]
  · have a : (decide (p < m / 2) || decide (m - 1 - m / 2 < p)) = false := by simp; omega
    simp only [a]
    congr 1; omega
theorem inRow_nat {m i : Nat} (h : i < m) : inRow m (Int.ofNat i) = true := by
  unfold inRow
  simp; omega
theorem loopR64 : CodeOK Try.prog (fun _ σ => sumM Try.f88.ntmps [0, 2, 3] 64 FR64 σ) (.block 0 (.loop (loopOf Try.f88 0))) :=
  sumM_ok (own := fun _ => true) (lp := fun _ => none) (un := 0) (fuel := 1000) cfg0_ok (lp_none _) (by
  intro az o az' o' hF
  unfold FR64 at hF
  split at hF
  · rename_i j m jz e m2 x y z
    simp only [Option.some.injEq, Prod.mk.injEq, Bool.and_eq_true, Nat.beq_eq, Nat.ble_eq, decide_eq_true_eq] at hF
    obtain ⟨⟨⟨⟨⟨hj, hm2⟩, hm⟩, hm1⟩, hjz⟩, rfl, rfl⟩ := hF
    subst hj hm2 hjz
    refine ⟨fun k => IR m2 k (Int.ofNat (m2 - 1 - k)), JR e m2 x y z, m2 / 2, rfl, ⟨e, _, rfl, .inr rfl, fun p hp => vec_at (revTo_zero x p hp) (revTo_zero y p hp) (revTo_zero z p hp)⟩, fun _ => rfl, rfl, ALe.self _,
      ⟨e, _, rfl, .inr rfl, fun p hp => vec_at (revTo_end x p hp) (revTo_end y p hp) (revTo_end z p hp)⟩, fun k hk lo nx M => ?_⟩
    unfold JR
    rw [roundR64]
    by_cases hkm : k < m2 / 2
    · refine condT (lt_dec (by omega)) (condT (by rw [inRow_nat (by omega), inRow_nat (by omega)]; rfl) (condT (inRow_nat (by omega)) ⟨hkm, ?_, fun j' hj' => ?_, ?_⟩))
      · rw [wrap_succ (by omega), wrap_pred' (by omega) (by omega)]
        rw [show m2 - 1 - k - 1 = m2 - 1 - (k + 1) by omega]; rfl
      · rw [look_cons_other _ _ hj', look_cons_other _ _ hj', look_cons_other _ _ hj']
      · rw [look_cons_same]
        exact ⟨e, _, rfl, .inr rfl, fun p hp => vec_at (revTo_step hkm x p hp) (revTo_step hkm y p hp) (revTo_step hkm z p hp)⟩
    · obtain rfl : k = m2 / 2 := by omega
      refine condE (ge_dec (by omega)) ⟨rfl, rfl, rfl, fun j' hj' => ?_, ?_⟩
      · rw [look_cons_other _ _ hj']
      · rw [look_cons_same]
        exact ⟨e, _, rfl, .inr rfl, fun _ _ => rfl⟩
  · cases hF)
end Go.Fw.E1

/-
  Wires gone back: slices.Reverse walked in place.
-/
namespace Go.Fw.E1
open Go.Proofs
noncomputable def lpR : List (Nat × (St → T)) := [(0, sumM Try.f88.ntmps [0, 2, 3] 64 FR64)]
theorem lpR_ok : LpOK Try.prog (look lpR) (bodyOf Try.f88) := lp_loops (by kernel_rfl) (by kernel_rfl) fun p hp => by
  rw [List.mem_singleton.1 hp]
  exact loopR64
noncomputable def revS (σ : St) : T := match σ.get 0 with
  | .emp => exec cfg0 (fun _ => true) (fun _ => none) 1 1000 (bodyOf Try.f88) σ
  | _ => exec cfg0 (fun _ => true) (look lpR) 0 1000 (bodyOf Try.f88) σ
theorem revS_ok : CodeOK Try.prog (fun _ σ => revS σ) (bodyOf Try.f88) := by
  intro σ L hok
  replace hok : (revS σ).Ok Try.prog L := hok
  unfold revS at hok
  split at hok
  · exact codeOK_exec cfg0_ok (lp_none _) σ L hok
  · exact codeOK_exec cfg0_ok lpR_ok σ L hok
noncomputable def fxR : List (Nat × (St → T)) := [(88, revS)]
theorem fxR_ok (g : Nat) (s : St → T) (fn : Func) (body : Code) (h1 : (g, s) ∈ fxR) (h2 : (g, fn) ∈ ftsR) (h3 : fn.body = some body) : CodeOK Try.prog (fun _ σ => s σ) body := by
  simp only [fxR, List.mem_singleton, Prod.mk.injEq] at h1
  obtain ⟨rfl, rfl⟩ := h1
  simp only [ftsR, List.mem_cons, Prod.mk.injEq, List.not_mem_nil, or_false] at h2
  rcases h2 with ⟨_, rfl⟩ | ⟨h2, _⟩
  · have e : bodyOf Try.f88 = body := by unfold bodyOf; rw [h3]
    rw [← e]
    exact revS_ok
  · omega
noncomputable def cfgR : Cfg := mkCfgX (nilTab tab) ftsR xts (look envB2) fxR
theorem cfgR_ok : CfgOK Try.prog cfgR :=
  ⟨fun t ti h => nilTab_ok (fun t ti hm => tabOf_ok tab_eq t ti hm) t ti (look_mem h), fun f fn h => ftsR_ok f fn (look_mem h), fun f e h => let ⟨fn, k⟩ := xts_ok f e (look_mem h); ⟨fn, k.at_, k.name, k.body, k.next, k.run⟩, envB2_ok,
    fun g s fn body hs hf hb => fxR_ok g s fn body (look_mem hs) (look_mem hf) hb, mixed⟩
end Go.Fw.E1

/-
  Wires gone back: BackWire.
-/
namespace Go.Fw.E1
open Go.Proofs
theorem auto34T (n cur : Nat) (x y z : Nat → Nat) (cl : Bool) : autoS cfgR (fun _ => none) false Try.f34 [.agg [.ro 3 n (.vecs .f32 x y z), .bool cl, .flt .f32 cur]] =
    some (okW n cur x y z && (n.beq n && n.ble 1048577 && Nat.ble 1 n && decide (IntKind.i64.wrap (Int.ofNat n - 1) = Int.ofNat (n - 1)) && true), A.tup [A.agg [A.ro 3 n (Row.vecs FloatKind.f32 (fun p => x (n - 1 - p)) (fun p => y (n - 1 - p)) fun p => z (n - 1 - p)), A.bool cl, A.flt FloatKind.f32 cur], A.bool true]) := by kernel_rfl
/-- A row of n turned round. -/
def revR (n : Nat) (x : Nat → Nat) (p : Nat) : Nat := x (n - 1 - p)
noncomputable def s34T : List A → Option (Bool × A)
  | [.agg [.ro 3 n (.vecs .f32 x y z), .bool cl, .flt .f32 cur]] => some (okW n cur x y z, .tup [.agg [.ro 3 n (.vecs .f32 (revR n x) (revR n y) (revR n z)), .bool cl, .flt .f32 cur], .bool true])
  | _ => none
theorem s34T_at : EnvAt Try.prog 34 s34T := of_autoS cfgR_ok (lp_none _) Try.func34 (by kernel_rfl) (by kernel_rfl) fun ds cc rr h hc => by
  unfold s34T at h
  split at h
  · rename_i n x y z cl cur
    simp only [Option.some.injEq, Prod.mk.injEq] at h
    obtain ⟨rfl, rfl⟩ := h
    refine auto_fit (auto34T n cur x y z cl) ?_ ?_
    · rfl
    · have h5 := okW_n hc
      have e : IntKind.i64.wrap (Int.ofNat n - 1) = Int.ofNat (n - 1) := wrap_pred' (by omega) (by omega)
      rw [hc, Nat.beq_refl, ble_of (show n ≤ 1048577 by omega), ble_of (show 1 ≤ n by omega), decide_eq_true e]; rfl
  · cases h
end Go.Fw.E1

/-
  The gap of two numbers.
-/
namespace Go.Fw.E1
open Go.Proofs
theorem autoGap (a b : Nat) : autoLp cfg0 (fun _ => none) Try.f23 [.flt .f64 a, .flt .f64 b] =
    some (true, A.flt FloatKind.f64 (fmax FloatKind.f64 (fop BinOp.sub FloatKind.f64 a b) (fop BinOp.sub FloatKind.f64 b a))) := by kernel_rfl
noncomputable def gap8 (a b : Nat) : Nat := fmax .f64 (fop .sub .f64 a b) (fop .sub .f64 b a)
noncomputable def sGap : List A → Option (Bool × A)
  | [.flt .f64 a, .flt .f64 b] => some (true, .flt .f64 (gap8 a b))
  | _ => none
theorem sGap_at : EnvAt Try.prog 23 sGap := of_auto cfg0_ok (lp_none _) Try.func23 (by kernel_rfl) (by kernel_rfl) fun ds cc rr h hc => by
  unfold sGap at h
  split at h
  · rename_i a b
    simp only [Option.some.injEq, Prod.mk.injEq] at h
    obtain ⟨rfl, rfl⟩ := h
    refine auto_fit (autoGap a b) ?_ ?_
    · rfl
    · rfl
  · cases h
end Go.Fw.E1

/-
  Bytes that come in.
-/
namespace Go.Fw.E1
open Go.Proofs
open Go.RowKit (Below)
theorem own : ownKnob Try.prog.godebug = none := by kernel_rfl
theorem laidOut : laidOutB Try.prog = true := by kernel_rfl
section
variable {H : Type} {enc : TypeId × Value → H} {w : World} {spare : Nat → Bool} {held : Bool}
set_option maxRecDepth 100000 in
theorem in_bytesA {r : Reach} {base : Nat} {v : Value} {x : DataW H × List MemPlace} (hv : Value.okWide Try.prog w r base 22 v) (h : ∃ fuel, DataW.trod enc Try.prog w 0 spare held fuel 22 v.cells.toList = some x) :
    ∃ (n : Nat) (b : Nat → Nat), (∀ i, b i < 256) ∧ RelD w (fun b => b < w.heap.size) v (.ro 1 n (.gen fun i => .int .u8 (Int.ofNat (b i)))) := by
  obtain ⟨fuel, h⟩ := h
  obtain ⟨a, l, c, rfl⟩ := Go.WideShapes.okWide_slice Try.underlying22 hv
  obtain ⟨u, n, b, e, hb, hr⟩ := in_bytes Try.underlying22 Try.underlying5 (by kernel_rfl) h
  have e' : [Value.slice a l c] = [u] := e
  simp only [List.cons.injEq, and_true] at e'
  subst e'
  exact ⟨n, b, hb, hr⟩
end
end Go.Fw.E1

/-
  What all laws of wires use: bytes' choices, places, gaps.
-/
namespace Go.Fw.E1
open Go.Proofs
/-- The bytes of a row. -/
def byt (g : Nat → A) (i : Nat) : Nat := match g i with | .int .u8 n => n.toNat | _ => 0
def isU8 (g : Nat → A) (i : Nat) : Bool := match g i with | .int .u8 n => decide (0 ≤ n) && decide (n < 256) | _ => false
theorem isU8_eq {g : Nat → A} {i : Nat} (h : isU8 g i = true) : g i = .int .u8 (Int.ofNat (byt g i)) ∧ byt g i < 256 := by
  unfold isU8 at h
  unfold byt
  split at h
  · rename_i n hn
    simp only [Bool.and_eq_true, decide_eq_true_eq] at h
    rw [hn]
    show A.int .u8 n = .int .u8 (Int.ofNat n.toNat) ∧ n.toNat < 256
    rw [show Int.ofNat n.toNat = n from Int.toNat_of_nonneg h.1]
    exact ⟨rfl, by omega⟩
  · cases h
theorem pure_bytes {f la : Nat} {g : Nat → A} {rest : List A} {r : A} (hg : allUpTo (isU8 g) la = true) (h : PureCall Try.prog f (.ro 1 la (.gen fun i => .int .u8 (Int.ofNat (byt g i))) :: rest) r) : PureCall Try.prog f (.ro 1 la (.gen g) :: rest) r := fun w vs T hT hs hr =>
  h w vs T hT hs fun i hi => match i, hi with
    | 0, _ => (hr 0 (Nat.succ_pos _)).row_congr fun i hi => (isU8_eq (allUpTo_iff.1 hg i hi)).1
    | i + 1, hi => hr (i + 1) hi
noncomputable def r8d (k : Nat) : Nat := match k with | 0 => can .f32 1065353216 | 1 => can .f32 1056964608 | _ => can .f32 3196059648
/-- A byte as a number in quarters. -/
noncomputable def r8q (v : Nat) : Nat := fop .quo .f32 (fofInt .f32 (IntKind.i64.wrap ((IntKind.i64.wrap (Int.ofNat v)).tmod 17 - 8))) (can .f32 1082130432)
/-- A vector's number that a byte chooses. -/
noncomputable def r8c (la : Nat) (b : Nat → Nat) (p k : Nat) : Nat := bif decide (p + k < la) then r8q (b (p + k)) else r8d k
theorem r8c_in {la : Nat} {b : Nat → Nat} {p k : Nat} (h : p + k < la) : r8c la b p k = r8q (b (p + k)) := by unfold r8c; rw [decide_eq_true h]; rfl
theorem r8c_out {la : Nat} {b : Nat → Nat} {p k : Nat} (h : ¬ p + k < la) : r8c la b p k = r8d k := by unfold r8c; rw [decide_eq_false h]; rfl
noncomputable def s25 : List A → Option (Bool × A)
  | [.ro 1 la (.gen g), .int .i64 (Int.ofNat p)] => match p with
    | 0 => some (allUpTo (isU8 g) la, .agg [.flt .f32 (r8c la (byt g) 0 0), .flt .f32 (r8c la (byt g) 0 1), .flt .f32 (r8c la (byt g) 0 2)])
    | 3 => some (allUpTo (isU8 g) la, .agg [.flt .f32 (r8c la (byt g) 3 0), .flt .f32 (r8c la (byt g) 3 1), .flt .f32 (r8c la (byt g) 3 2)])
    | _ => none
  | _ => none
theorem walk25_0_0 (la : Nat) (b : Nat → Nat) : autoW cfgA2 (fun _ => true) 5 (fun _ => none) [true, false, true, false, true, false, false] Try.f25 [.ro 1 la (.gen fun i => .int .u8 (Int.ofNat (b i))), .int .i64 0] = some (!decide (Int.ofNat 0 < Int.ofNat la) && (!decide (Int.ofNat 1 < Int.ofNat la) && (!decide (Int.ofNat 2 < Int.ofNat la) && (true))), .agg [.flt .f32 (r8d 0), .flt .f32 (r8d 1), .flt .f32 (r8d 2)]) := by kernel_rfl
theorem walk25_0_1 (la : Nat) (b : Nat → Nat) : autoW cfgA2 (fun _ => true) 5 (fun _ => none) [true, true, true, false, true, false, false] Try.f25 [.ro 1 la (.gen fun i => .int .u8 (Int.ofNat (b i))), .int .i64 0] = some (decide (Int.ofNat 0 < Int.ofNat la) && (decide (Int.ofNat 0 < Int.ofNat la) && (!decide (Int.ofNat 1 < Int.ofNat la) && (!decide (Int.ofNat 2 < Int.ofNat la) && (true)))), .agg [.flt .f32 (r8q (b 0)), .flt .f32 (r8d 1), .flt .f32 (r8d 2)]) := by kernel_rfl
theorem walk25_0_2 (la : Nat) (b : Nat → Nat) : autoW cfgA2 (fun _ => true) 5 (fun _ => none) [true, true, true, true, true, false, false] Try.f25 [.ro 1 la (.gen fun i => .int .u8 (Int.ofNat (b i))), .int .i64 0] = some (decide (Int.ofNat 0 < Int.ofNat la) && (decide (Int.ofNat 0 < Int.ofNat la) && (decide (Int.ofNat 1 < Int.ofNat la) && (decide (Int.ofNat 1 < Int.ofNat la) && (!decide (Int.ofNat 2 < Int.ofNat la) && (true))))), .agg [.flt .f32 (r8q (b 0)), .flt .f32 (r8q (b 1)), .flt .f32 (r8d 2)]) := by kernel_rfl
theorem walk25_0_3 (la : Nat) (b : Nat → Nat) : autoW cfgA2 (fun _ => true) 5 (fun _ => none) [true, true, true, true, true, true, false] Try.f25 [.ro 1 la (.gen fun i => .int .u8 (Int.ofNat (b i))), .int .i64 0] = some (decide (Int.ofNat 0 < Int.ofNat la) && (decide (Int.ofNat 0 < Int.ofNat la) && (decide (Int.ofNat 1 < Int.ofNat la) && (decide (Int.ofNat 1 < Int.ofNat la) && (decide (Int.ofNat 2 < Int.ofNat la) && (decide (Int.ofNat 2 < Int.ofNat la) && (true)))))), .agg [.flt .f32 (r8q (b 0)), .flt .f32 (r8q (b 1)), .flt .f32 (r8q (b 2))]) := by kernel_rfl
theorem walk25_3_0 (la : Nat) (b : Nat → Nat) : autoW cfgA2 (fun _ => true) 5 (fun _ => none) [true, false, true, false, true, false, false] Try.f25 [.ro 1 la (.gen fun i => .int .u8 (Int.ofNat (b i))), .int .i64 3] = some (!decide (Int.ofNat 3 < Int.ofNat la) && (!decide (Int.ofNat 4 < Int.ofNat la) && (!decide (Int.ofNat 5 < Int.ofNat la) && (true))), .agg [.flt .f32 (r8d 0), .flt .f32 (r8d 1), .flt .f32 (r8d 2)]) := by kernel_rfl
theorem walk25_3_1 (la : Nat) (b : Nat → Nat) : autoW cfgA2 (fun _ => true) 5 (fun _ => none) [true, true, true, false, true, false, false] Try.f25 [.ro 1 la (.gen fun i => .int .u8 (Int.ofNat (b i))), .int .i64 3] = some (decide (Int.ofNat 3 < Int.ofNat la) && (decide (Int.ofNat 3 < Int.ofNat la) && (!decide (Int.ofNat 4 < Int.ofNat la) && (!decide (Int.ofNat 5 < Int.ofNat la) && (true)))), .agg [.flt .f32 (r8q (b 3)), .flt .f32 (r8d 1), .flt .f32 (r8d 2)]) := by kernel_rfl
theorem walk25_3_2 (la : Nat) (b : Nat → Nat) : autoW cfgA2 (fun _ => true) 5 (fun _ => none) [true, true, true, true, true, false, false] Try.f25 [.ro 1 la (.gen fun i => .int .u8 (Int.ofNat (b i))), .int .i64 3] = some (decide (Int.ofNat 3 < Int.ofNat la) && (decide (Int.ofNat 3 < Int.ofNat la) && (decide (Int.ofNat 4 < Int.ofNat la) && (decide (Int.ofNat 4 < Int.ofNat la) && (!decide (Int.ofNat 5 < Int.ofNat la) && (true))))), .agg [.flt .f32 (r8q (b 3)), .flt .f32 (r8q (b 4)), .flt .f32 (r8d 2)]) := by kernel_rfl
theorem walk25_3_3 (la : Nat) (b : Nat → Nat) : autoW cfgA2 (fun _ => true) 5 (fun _ => none) [true, true, true, true, true, true, false] Try.f25 [.ro 1 la (.gen fun i => .int .u8 (Int.ofNat (b i))), .int .i64 3] = some (decide (Int.ofNat 3 < Int.ofNat la) && (decide (Int.ofNat 3 < Int.ofNat la) && (decide (Int.ofNat 4 < Int.ofNat la) && (decide (Int.ofNat 4 < Int.ofNat la) && (decide (Int.ofNat 5 < Int.ofNat la) && (decide (Int.ofNat 5 < Int.ofNat la) && (true)))))), .agg [.flt .f32 (r8q (b 3)), .flt .f32 (r8q (b 4)), .flt .f32 (r8q (b 5))]) := by kernel_rfl
theorem s25_at : EnvAt Try.prog 25 s25 := by
  refine ⟨⟨Try.f25, Try.func25, by kernel_rfl, by kernel_rfl⟩, fun ds cc rr h hc => ?_⟩
  unfold s25 at h
  split at h
  · rename_i la g p
    split at h
    · simp only [Option.some.injEq, Prod.mk.injEq] at h
      obtain ⟨rfl, rfl⟩ := h
      refine pure_bytes hc ?_
      by_cases h0 : 0 < la
      rotate_left
      · rw [r8c_out (p := 0) (k := 0) (by omega), r8c_out (p := 0) (k := 1) (by omega), r8c_out (p := 0) (k := 2) (by omega)]
        exact autoW_ok cfgA2_ok Try.func25 (by kernel_rfl) (lp_none _) (walk25_0_0 la (byt g)) (by rw [decide_eq_false (show ¬ Int.ofNat 0 < Int.ofNat la by simp; omega), decide_eq_false (show ¬ Int.ofNat 1 < Int.ofNat la by simp; omega), decide_eq_false (show ¬ Int.ofNat 2 < Int.ofNat la by simp; omega)]; rfl)
      by_cases h1 : 1 < la
      rotate_left
      · rw [r8c_in (p := 0) (k := 0) (by omega), r8c_out (p := 0) (k := 1) (by omega), r8c_out (p := 0) (k := 2) (by omega)]
        exact autoW_ok cfgA2_ok Try.func25 (by kernel_rfl) (lp_none _) (walk25_0_1 la (byt g)) (by rw [decide_eq_true (show Int.ofNat 0 < Int.ofNat la by simp; omega), decide_eq_false (show ¬ Int.ofNat 1 < Int.ofNat la by simp; omega), decide_eq_false (show ¬ Int.ofNat 2 < Int.ofNat la by simp; omega)]; rfl)
      by_cases h2 : 2 < la
      rotate_left
      · rw [r8c_in (p := 0) (k := 0) (by omega), r8c_in (p := 0) (k := 1) (by omega), r8c_out (p := 0) (k := 2) (by omega)]
        exact autoW_ok cfgA2_ok Try.func25 (by kernel_rfl) (lp_none _) (walk25_0_2 la (byt g)) (by rw [decide_eq_true (show Int.ofNat 0 < Int.ofNat la by simp; omega), decide_eq_true (show Int.ofNat 1 < Int.ofNat la by simp; omega), decide_eq_false (show ¬ Int.ofNat 2 < Int.ofNat la by simp; omega)]; rfl)
      rw [r8c_in (p := 0) (k := 0) (by omega), r8c_in (p := 0) (k := 1) (by omega), r8c_in (p := 0) (k := 2) (by omega)]
      exact autoW_ok cfgA2_ok Try.func25 (by kernel_rfl) (lp_none _) (walk25_0_3 la (byt g)) (by rw [decide_eq_true (show Int.ofNat 0 < Int.ofNat la by simp; omega), decide_eq_true (show Int.ofNat 1 < Int.ofNat la by simp; omega), decide_eq_true (show Int.ofNat 2 < Int.ofNat la by simp; omega)]; rfl)
    · simp only [Option.some.injEq, Prod.mk.injEq] at h
      obtain ⟨rfl, rfl⟩ := h
      refine pure_bytes hc ?_
      by_cases h0 : 3 < la
      rotate_left
      · rw [r8c_out (p := 3) (k := 0) (by omega), r8c_out (p := 3) (k := 1) (by omega), r8c_out (p := 3) (k := 2) (by omega)]
        exact autoW_ok cfgA2_ok Try.func25 (by kernel_rfl) (lp_none _) (walk25_3_0 la (byt g)) (by rw [decide_eq_false (show ¬ Int.ofNat 3 < Int.ofNat la by simp; omega), decide_eq_false (show ¬ Int.ofNat 4 < Int.ofNat la by simp; omega), decide_eq_false (show ¬ Int.ofNat 5 < Int.ofNat la by simp; omega)]; rfl)
      by_cases h1 : 4 < la
      rotate_left
      · rw [r8c_in (p := 3) (k := 0) (by omega), r8c_out (p := 3) (k := 1) (by omega), r8c_out (p := 3) (k := 2) (by omega)]
        exact autoW_ok cfgA2_ok Try.func25 (by kernel_rfl) (lp_none _) (walk25_3_1 la (byt g)) (by rw [decide_eq_true (show Int.ofNat 3 < Int.ofNat la by simp; omega), decide_eq_false (show ¬ Int.ofNat 4 < Int.ofNat la by simp; omega), decide_eq_false (show ¬ Int.ofNat 5 < Int.ofNat la by simp; omega)]; rfl)
      by_cases h2 : 5 < la
      rotate_left
      · rw [r8c_in (p := 3) (k := 0) (by omega), r8c_in (p := 3) (k := 1) (by omega), r8c_out (p := 3) (k := 2) (by omega)]
        exact autoW_ok cfgA2_ok Try.func25 (by kernel_rfl) (lp_none _) (walk25_3_2 la (byt g)) (by rw [decide_eq_true (show Int.ofNat 3 < Int.ofNat la by simp; omega), decide_eq_true (show Int.ofNat 4 < Int.ofNat la by simp; omega), decide_eq_false (show ¬ Int.ofNat 5 < Int.ofNat la by simp; omega)]; rfl)
      rw [r8c_in (p := 3) (k := 0) (by omega), r8c_in (p := 3) (k := 1) (by omega), r8c_in (p := 3) (k := 2) (by omega)]
      exact autoW_ok cfgA2_ok Try.func25 (by kernel_rfl) (lp_none _) (walk25_3_3 la (byt g)) (by rw [decide_eq_true (show Int.ofNat 3 < Int.ofNat la by simp; omega), decide_eq_true (show Int.ofNat 4 < Int.ofNat la by simp; omega), decide_eq_true (show Int.ofNat 5 < Int.ofNat la by simp; omega)]; rfl)
    · cases h
  · cases h

/-- What a byte chooses below n. -/
noncomputable def r8a (la : Nat) (b : Nat → Nat) (k n : Int) : Int := bif decide (k ≥ Int.ofNat la) then 0 else (IntKind.i64.wrap (Int.ofNat (b k.toNat))).tmod n
noncomputable def s13 : List A → Option (Bool × A)
  | [.ro 1 la (.gen g), .int .i64 k, .int .i64 n] => some (allUpTo (isU8 g) la && decide (0 ≤ k) && decide (1 < n), .int .i64 (r8a la (byt g) k n))
  | _ => none
theorem walk13_0 (la : Nat) (b : Nat → Nat) (k n : Int) : autoW cfgA2 (fun _ => true) 5 (fun _ => none) [true] Try.f13 [.ro 1 la (.gen fun i => .int .u8 (Int.ofNat (b i))), .int .i64 k, .int .i64 n] = some ((bif decide (n ≤ 1) then true else decide (k ≥ Int.ofNat la)) && true, .int .i64 0) := by kernel_rfl
theorem walk13_1 (la : Nat) (b : Nat → Nat) (k n : Int) : autoW cfgA2 (fun _ => true) 5 (fun _ => none) [false] Try.f13 [.ro 1 la (.gen fun i => .int .u8 (Int.ofNat (b i))), .int .i64 k, .int .i64 n] = some (!(bif decide (n ≤ 1) then true else decide (k ≥ Int.ofNat la)) && (decide (0 ≤ k) && decide (k < Int.ofNat la) && (!decide (n = 0) && true)), .int .i64 ((IntKind.i64.wrap (Int.ofNat (b k.toNat))).tmod n)) := by kernel_rfl
theorem s13_at : EnvAt Try.prog 13 s13 := by
  refine ⟨⟨Try.f13, Try.func13, by kernel_rfl, by kernel_rfl⟩, fun ds cc rr h hc => ?_⟩
  unfold s13 at h
  split at h
  · rename_i la g k n
    simp only [Option.some.injEq, Prod.mk.injEq] at h
    obtain ⟨rfl, rfl⟩ := h
    simp only [Bool.and_eq_true, decide_eq_true_eq] at hc
    refine pure_bytes hc.1.1 ?_
    unfold r8a
    by_cases hk : k ≥ Int.ofNat la
    · rw [decide_eq_true hk]
      exact autoW_ok cfgA2_ok Try.func13 (by kernel_rfl) (lp_none _) (walk13_0 la (byt g) k n) (by rw [decide_eq_true hk, decide_eq_false (show ¬ n ≤ 1 by omega)]; rfl)
    · rw [decide_eq_false hk]
      exact autoW_ok cfgA2_ok Try.func13 (by kernel_rfl) (lp_none _) (walk13_1 la (byt g) k n) (by
        rw [decide_eq_false hk, decide_eq_false (show ¬ n ≤ 1 by omega), decide_eq_true hc.1.2, decide_eq_true (show k < Int.ofNat la by omega), decide_eq_false (show ¬ n = 0 by omega)]; rfl)
  · cases h
/-! ### Functions that answer: fields, squares, places apart -/
noncomputable def s15T : List A → Option (Bool × A)
  | [.ro 3 m (.wires n x y z cl cur), .agg [.flt .f32 p, .flt .f32 q, .flt .f32 r]] => some (Nat.ble m 1048576 && allUpTo (shortW n) m && flOk m n x y z cl cur p q r, .tup [.agg [.flt .f32 (faX n x y z cl cur p q r 0 m), .flt .f32 (faY n x y z cl cur p q r 0 m), .flt .f32 (faZ n x y z cl cur p q r 0 m)], .bool true])
  | _ => none
theorem s15T_at : EnvAt Try.prog 15 s15T := by
  refine ⟨s54_at.1, fun ds cc r h hc => ?_⟩
  unfold s15T at h
  split at h
  · rename_i m n x y z cl cur p q r
    simp only [Option.some.injEq, Prod.mk.injEq] at h
    obtain ⟨rfl, rfl⟩ := h
    rw [Bool.and_eq_true] at hc
    have := s54_at.2 [.ro 3 m (.wires n x y z cl cur), .agg [.flt .f32 p, .flt .f32 q, .flt .f32 r]] _ _ rfl hc.1
    rw [hc.2] at this
    exact this
  · cases h
noncomputable def s21T : List A → Option (Bool × A)
  | [.agg [.ro 3 n (.vecs .f32 x y z), .bool cl, .flt .f32 cur], .agg [.flt .f32 p, .flt .f32 q, .flt .f32 r]] => some (Nat.ble n 1073741824 && fOk n cur x y z cl p q r, .tup [.agg [.flt .f32 (fwX n x y z cl cur p q r), .flt .f32 (fwY n x y z cl cur p q r), .flt .f32 (fwZ n x y z cl cur p q r)], .bool true])
  | _ => none
theorem s21T_at : EnvAt Try.prog 21 s21T := by
  refine ⟨s45_at.1, fun ds cc r h hc => ?_⟩
  unfold s21T at h
  split at h
  · rename_i n x y z cl cur p q r
    simp only [Option.some.injEq, Prod.mk.injEq] at h
    obtain ⟨rfl, rfl⟩ := h
    rw [Bool.and_eq_true] at hc
    have := s45_at.2 [.agg [.ro 3 n (.vecs .f32 x y z), .bool cl, .flt .f32 cur], .agg [.flt .f32 p, .flt .f32 q, .flt .f32 r]] _ _ rfl hc.1
    rw [hc.2] at this
    exact this
  · cases h
/-- A square's points. -/
noncomputable def sqX (s h i : Nat) : Nat := ([[s, s, h], [fneg .f32 s, s, h], [fneg .f32 s, fneg .f32 s, h], [s, fneg .f32 s, h]].getD i []).getD 0 0
noncomputable def sqY (s h i : Nat) : Nat := ([[s, s, h], [fneg .f32 s, s, h], [fneg .f32 s, fneg .f32 s, h], [s, fneg .f32 s, h]].getD i []).getD 1 0
noncomputable def sqZ (s h i : Nat) : Nat := ([[s, s, h], [fneg .f32 s, s, h], [fneg .f32 s, fneg .f32 s, h], [s, fneg .f32 s, h]].getD i []).getD 2 0
noncomputable def sqOk (s h c : Nat) : Bool := above s && fin h && okW 4 c (sqX s h) (sqY s h) (sqZ s h)
theorem walk29 (s h c : Nat) : autoW cfgGI (fun _ => true) 0 (fun _ => none) [false, false] Try.f29 [.flt .f32 s, .flt .f32 h, .flt .f32 c] = some ((!bif !above s then true else !fin h) && ((!!okW 4 c (sqX s h) (sqY s h) (sqZ s h)) && true), .tup [.agg [.ro 3 4 (.vecs .f32 (sqX s h) (sqY s h) (sqZ s h)), .bool true, .flt .f32 c], .bool true]) := by kernel_rfl
noncomputable def s29T : List A → Option (Bool × A)
  | [.flt .f32 s, .flt .f32 h, .flt .f32 c] => some (sqOk s h c, .tup [.agg [.ro 3 4 (.vecs .f32 (sqX s h) (sqY s h) (sqZ s h)), .bool true, .flt .f32 c], .bool true])
  | _ => none
theorem s29T_at : EnvAt Try.prog 29 s29T := by
  refine ⟨⟨Try.f29, Try.func29, by kernel_rfl, by kernel_rfl⟩, fun ds cc rr h hc => ?_⟩
  unfold s29T at h
  split at h
  · rename_i s h' c
    simp only [Option.some.injEq, Prod.mk.injEq] at h
    obtain ⟨rfl, rfl⟩ := h
    unfold sqOk at hc
    simp only [Bool.and_eq_true] at hc
    exact autoW_ok cfgGI_ok Try.func29 (by kernel_rfl) (lp_none _) (walk29 s h' c) (by rw [hc.1.1, hc.1.2, hc.2]; rfl)
  · cases h
/-- Along a path. -/
noncomputable def arGo (m : Nat) (n : Nat → Nat) (x y z : Nat → Nat → Nat) (cl : Nat → Bool) (cur : Nat → Nat) (n2 : Nat) (x2 y2 z2 : Nat → Nat) (cl2 : Bool) (cur2 pp : Nat) : Bool := arOk m n x y z cur n2 cur2 x2 y2 z2 (Int.ofNat pp) && fin (arR m n x y z cl cur (sg n2 x2 y2 z2) pp (can .f32 0) (cnt n2 cl2))
noncomputable def arV (m : Nat) (n : Nat → Nat) (x y z : Nat → Nat → Nat) (cl : Nat → Bool) (cur : Nat → Nat) (n2 : Nat) (x2 y2 z2 : Nat → Nat) (cl2 : Bool) (pp : Nat) : Nat := arR m n x y z cl cur (sg n2 x2 y2 z2) pp (can .f32 0) (cnt n2 cl2)
noncomputable def s32T : List A → Option (Bool × A)
  | [.ro 3 m (.wires n x y z cl cur), .agg [.ro 3 n2 (.vecs .f32 x2 y2 z2), .bool cl2, .flt .f32 cur2], .int .i64 (Int.ofNat pp)] => some (Nat.ble m 1048576 && allUpTo (shortW n) m && Nat.ble n2 1048576 && arGo m n x y z cl cur n2 x2 y2 z2 cl2 cur2 pp, .tup [.flt .f32 (arV m n x y z cl cur n2 x2 y2 z2 cl2 pp), .bool true])
  | _ => none
theorem s32T_at : EnvAt Try.prog 32 s32T := by
  refine ⟨s60a_at.1, fun ds cc r h hc => ?_⟩
  unfold s32T at h
  split at h
  · rename_i m n x y z cl cur n2 x2 y2 z2 cl2 cur2 pp
    simp only [Option.some.injEq, Prod.mk.injEq] at h
    obtain ⟨rfl, rfl⟩ := h
    rw [Bool.and_eq_true] at hc
    have := s60a_at.2 [.ro 3 m (.wires n x y z cl cur), .agg [.ro 3 n2 (.vecs .f32 x2 y2 z2), .bool cl2, .flt .f32 cur2], .int .i64 (Int.ofNat pp)] _ _ rfl hc.1
    have h2 : (arOk m n x y z cur n2 cur2 x2 y2 z2 (Int.ofNat pp) && fin (arR m n x y z cl cur (sg n2 x2 y2 z2) pp (can .f32 0) (cnt n2 cl2))) = true := hc.2
    rw [h2] at this
    exact this
  · cases h
noncomputable def envD0 : List (Nat × (List A → Option (Bool × A))) := (28, auto cfgA1 Try.f28) :: (23, sGap) :: (29, s29T) :: (21, s21T) :: (15, s15T) :: (25, s25) :: (13, s13) :: (11, auto cfgA1 Try.f11) :: (33, s122T) :: (34, s34T) :: (36, s37T) :: (32, s32T) :: (27, s26T) :: (12, s12) :: envA1
theorem envD0_ok : EnvOK Try.prog (look envD0) := env_cons (auto_at cfgA1_ok Try.func28 (by kernel_rfl) (by kernel_rfl)) (env_cons sGap_at (env_cons s29T_at (env_cons s21T_at (env_cons s15T_at (env_cons s25_at (env_cons s13_at (env_cons (auto_at cfgA1_ok Try.func11 (by kernel_rfl) (by kernel_rfl)) (env_cons s122T_at (env_cons s34T_at (env_cons s37T_at (env_cons s32T_at (env_cons s26T_at (env_cons s12_at envA1_ok)))))))))))))
noncomputable def cfgD0 : Cfg := mkCfg tab [] xts (look envD0)
theorem cfgD0_ok : CfgOK Try.prog cfgD0 := cfg_ok tab_eq (no_fts _) xts_ok envD0_ok mixed
noncomputable def cfgD0i : Cfg := mkCfg (nilTab tab) ftsI xts (look envD0)
theorem cfgD0i_ok : CfgOK Try.prog cfgD0i := cfgN_ok' tab_eq ftsI_ok xts_ok envD0_ok mixed
end Go.Fw.E1

/-
  Moments in fields: contracts.
-/
namespace Go.Fw.E1
open Go.Proofs
noncomputable def s91T : List A → Option (Bool × A)
  | [.agg [.flt .f32 a, .flt .f32 b, .flt .f32 c], .ro 3 m (.wires n x y z cl cur), .agg [.flt .f32 p, .flt .f32 q, .flt .f32 r]] => some (vfin a b c && (Nat.ble m 1048576 && allUpTo (shortW n) m && flOk m n x y z cl cur p q r), .tup [.agg [.flt .f32 (faX n x y z cl cur p q r 0 m), .flt .f32 (faY n x y z cl cur p q r 0 m), .flt .f32 (faZ n x y z cl cur p q r 0 m)], .bool true])
  | _ => none
theorem walk91 (a b c m : Nat) (n : Nat → Nat) (x y z : Nat → Nat → Nat) (cl : Nat → Bool) (cur : Nat → Nat) (p q r : Nat) : autoW cfgD0 (fun _ => true) 0 (fun _ => none) [false] Try.f91 [.agg [.flt .f32 a, .flt .f32 b, .flt .f32 c], .ro 3 m (.wires n x y z cl cur), .agg [.flt .f32 p, .flt .f32 q, .flt .f32 r]] = some (!!vfin a b c && (Nat.ble m 1048576 && allUpTo (shortW n) m && flOk m n x y z cl cur p q r && true), .tup [.agg [.flt .f32 (faX n x y z cl cur p q r 0 m), .flt .f32 (faY n x y z cl cur p q r 0 m), .flt .f32 (faZ n x y z cl cur p q r 0 m)], .bool true]) := by kernel_rfl
theorem s91T_at : EnvAt Try.prog 91 s91T := by
  refine ⟨⟨Try.f91, Try.func91, by kernel_rfl, by kernel_rfl⟩, fun ds cc rr h hc => ?_⟩
  unfold s91T at h
  split at h
  · rename_i a b c m n x y z cl cur p q r
    simp only [Option.some.injEq, Prod.mk.injEq] at h
    obtain ⟨rfl, rfl⟩ := h
    rw [Bool.and_eq_true] at hc
    exact autoW_ok cfgD0_ok Try.func91 (by kernel_rfl) (lp_none _) (walk91 a b c m n x y z cl cur p q r) (by rw [hc.1, hc.2]; rfl)
  · cases h
/-- The cross product's numbers. -/
noncomputable def crX (_a b c _x y z : Nat) : Nat := fop .sub .f32 (fop .mul .f32 b z) (fop .mul .f32 c y)
noncomputable def crY (a _b c x _y z : Nat) : Nat := fop .sub .f32 (fop .mul .f32 c x) (fop .mul .f32 a z)
noncomputable def crZ (a b _c x y _z : Nat) : Nat := fop .sub .f32 (fop .mul .f32 a y) (fop .mul .f32 b x)
noncomputable def s92T : List A → Option (Bool × A)
  | [.agg [.flt .f32 a, .flt .f32 b, .flt .f32 c], .agg [.flt .f32 x, .flt .f32 y, .flt .f32 z]] => some (true, .agg [.flt .f32 (crX a b c x y z), .flt .f32 (crY a b c x y z), .flt .f32 (crZ a b c x y z)])
  | _ => none
theorem s92T_at : EnvAt Try.prog 92 s92T := by
  refine ⟨s147_at.1, fun ds cc r h hc => ?_⟩
  unfold s92T at h
  split at h
  · rename_i a b c x y z
    simp only [Option.some.injEq, Prod.mk.injEq] at h
    obtain ⟨rfl, rfl⟩ := h
    exact s147_at.2 [.agg [.flt .f32 a, .flt .f32 b, .flt .f32 c], .agg [.flt .f32 x, .flt .f32 y, .flt .f32 z]] _ _ rfl rfl
  · cases h
noncomputable def s76T : List A → Option (Bool × A)
  | [.agg [.flt .f32 a, .flt .f32 b, .flt .f32 c]] => some (vfin a b c, .tup [.agg [.flt .f32 a, .flt .f32 b, .flt .f32 c], .bool true])
  | _ => none
theorem s76T_at : EnvAt Try.prog 76 s76T := by
  refine ⟨s101_at.1, fun ds cc r h hc => ?_⟩
  unfold s76T at h
  split at h
  · rename_i a b c
    simp only [Option.some.injEq, Prod.mk.injEq] at h
    obtain ⟨rfl, rfl⟩ := h
    have := s101_at.2 [.agg [.flt .f32 a, .flt .f32 b, .flt .f32 c]] _ _ rfl rfl
    rw [hc] at this
    exact this
  · cases h
noncomputable def s78T : List A → Option (Bool × A)
  | [.flt .f32 a] => some (fin a, .tup [.flt .f32 a, .bool true])
  | _ => none
theorem s78T_at : EnvAt Try.prog 78 s78T := by
  refine ⟨s92_at.1, fun ds cc r h hc => ?_⟩
  unfold s78T at h
  split at h
  · rename_i a
    simp only [Option.some.injEq, Prod.mk.injEq] at h
    obtain ⟨rfl, rfl⟩ := h
    have := s92_at.2 [.flt .f32 a] _ _ rfl rfl
    rw [hc] at this
    exact this
  · cases h
noncomputable def envD1 : List (Nat × (List A → Option (Bool × A))) := (92, s92T) :: (76, s76T) :: (78, s78T) :: (91, s91T) :: (93, auto cfgD0 Try.f93) :: envD0
theorem envD1_ok : EnvOK Try.prog (look envD1) := env_cons s92T_at (env_cons s76T_at (env_cons s78T_at (env_cons s91T_at (env_cons (auto_at cfgD0_ok Try.func93 (by kernel_rfl) (by kernel_rfl)) envD0_ok))))
noncomputable def cfgD1 : Cfg := mkCfg tab [] xts (look envD1)
theorem cfgD1_ok : CfgOK Try.prog cfgD1 := cfg_ok tab_eq (no_fts _) xts_ok envD1_ok mixed
/-- May a field be asked for a moment? -/
noncomputable def fG (a b c m : Nat) (n : Nat → Nat) (x y z : Nat → Nat → Nat) (cl : Nat → Bool) (cur : Nat → Nat) (p q r : Nat) : Bool := vfin a b c && (Nat.ble m 1048576 && allUpTo (shortW n) m && flOk m n x y z cl cur p q r)
/-- The moment along the field. -/
noncomputable def mfI (a b c m : Nat) (n : Nat → Nat) (x y z : Nat → Nat → Nat) (cl : Nat → Bool) (cur : Nat → Nat) (p q r : Nat) : Nat := inn a b c (faX n x y z cl cur p q r 0 m) (faY n x y z cl cur p q r 0 m) (faZ n x y z cl cur p q r 0 m)
theorem walk39 (a b c m : Nat) (n : Nat → Nat) (x y z : Nat → Nat → Nat) (cl : Nat → Bool) (cur : Nat → Nat) (p q r : Nat) : autoW cfgD1 (fun _ => true) 0 (fun _ => none) [false] Try.f39 [.agg [.flt .f32 a, .flt .f32 b, .flt .f32 c], .ro 3 m (.wires n x y z cl cur), .agg [.flt .f32 p, .flt .f32 q, .flt .f32 r]] = some ((fG a b c m n x y z cl cur p q r) && (vfin (crX a b c (faX n x y z cl cur p q r 0 m) (faY n x y z cl cur p q r 0 m) (faZ n x y z cl cur p q r 0 m)) (crY a b c (faX n x y z cl cur p q r 0 m) (faY n x y z cl cur p q r 0 m) (faZ n x y z cl cur p q r 0 m)) (crZ a b c (faX n x y z cl cur p q r 0 m) (faY n x y z cl cur p q r 0 m) (faZ n x y z cl cur p q r 0 m)) && true) , .tup [.agg [.flt .f32 (crX a b c (faX n x y z cl cur p q r 0 m) (faY n x y z cl cur p q r 0 m) (faZ n x y z cl cur p q r 0 m)), .flt .f32 (crY a b c (faX n x y z cl cur p q r 0 m) (faY n x y z cl cur p q r 0 m) (faZ n x y z cl cur p q r 0 m)), .flt .f32 (crZ a b c (faX n x y z cl cur p q r 0 m) (faY n x y z cl cur p q r 0 m) (faZ n x y z cl cur p q r 0 m))], .bool true]) := by kernel_rfl
noncomputable def s39T : List A → Option (Bool × A)
  | [.agg [.flt .f32 a, .flt .f32 b, .flt .f32 c], .ro 3 m (.wires n x y z cl cur), .agg [.flt .f32 p, .flt .f32 q, .flt .f32 r]] => some ((fG a b c m n x y z cl cur p q r) && vfin (crX a b c (faX n x y z cl cur p q r 0 m) (faY n x y z cl cur p q r 0 m) (faZ n x y z cl cur p q r 0 m)) (crY a b c (faX n x y z cl cur p q r 0 m) (faY n x y z cl cur p q r 0 m) (faZ n x y z cl cur p q r 0 m)) (crZ a b c (faX n x y z cl cur p q r 0 m) (faY n x y z cl cur p q r 0 m) (faZ n x y z cl cur p q r 0 m)), .tup [.agg [.flt .f32 (crX a b c (faX n x y z cl cur p q r 0 m) (faY n x y z cl cur p q r 0 m) (faZ n x y z cl cur p q r 0 m)), .flt .f32 (crY a b c (faX n x y z cl cur p q r 0 m) (faY n x y z cl cur p q r 0 m) (faZ n x y z cl cur p q r 0 m)), .flt .f32 (crZ a b c (faX n x y z cl cur p q r 0 m) (faY n x y z cl cur p q r 0 m) (faZ n x y z cl cur p q r 0 m))], .bool true])
  | _ => none
theorem s39T_at : EnvAt Try.prog 39 s39T := by
  refine ⟨⟨Try.f39, Try.func39, by kernel_rfl, by kernel_rfl⟩, fun ds cc rr h hc => ?_⟩
  unfold s39T at h
  split at h
  · rename_i a b c m n x y z cl cur p q r
    simp only [Option.some.injEq, Prod.mk.injEq] at h
    obtain ⟨rfl, rfl⟩ := h
    exact autoW_ok cfgD1_ok Try.func39 (by kernel_rfl) (lp_none _) (walk39 a b c m n x y z cl cur p q r) (by
      rw [Bool.and_eq_true] at hc; rw [hc.1, hc.2]; rfl)
  · cases h
theorem walk40 (a b c m : Nat) (n : Nat → Nat) (x y z : Nat → Nat → Nat) (cl : Nat → Bool) (cur : Nat → Nat) (p q r : Nat) : autoW cfgD1 (fun _ => true) 0 (fun _ => none) [false] Try.f40 [.agg [.flt .f32 a, .flt .f32 b, .flt .f32 c], .ro 3 m (.wires n x y z cl cur), .agg [.flt .f32 p, .flt .f32 q, .flt .f32 r]] = some ((fG a b c m n x y z cl cur p q r) && (fin (fneg .f32 (mfI a b c m n x y z cl cur p q r)) && true) , .tup [.flt .f32 (fneg .f32 (mfI a b c m n x y z cl cur p q r)), .bool true]) := by kernel_rfl
noncomputable def s40T : List A → Option (Bool × A)
  | [.agg [.flt .f32 a, .flt .f32 b, .flt .f32 c], .ro 3 m (.wires n x y z cl cur), .agg [.flt .f32 p, .flt .f32 q, .flt .f32 r]] => some ((fG a b c m n x y z cl cur p q r) && fin (fneg .f32 (mfI a b c m n x y z cl cur p q r)), .tup [.flt .f32 (fneg .f32 (mfI a b c m n x y z cl cur p q r)), .bool true])
  | _ => none
theorem s40T_at : EnvAt Try.prog 40 s40T := by
  refine ⟨⟨Try.f40, Try.func40, by kernel_rfl, by kernel_rfl⟩, fun ds cc rr h hc => ?_⟩
  unfold s40T at h
  split at h
  · rename_i a b c m n x y z cl cur p q r
    simp only [Option.some.injEq, Prod.mk.injEq] at h
    obtain ⟨rfl, rfl⟩ := h
    exact autoW_ok cfgD1_ok Try.func40 (by kernel_rfl) (lp_none _) (walk40 a b c m n x y z cl cur p q r) (by
      rw [Bool.and_eq_true] at hc; rw [hc.1, hc.2]; rfl)
  · cases h
/-- How the energy changes over a step. -/
noncomputable def mfD (a b c m : Nat) (n : Nat → Nat) (x y z : Nat → Nat → Nat) (cl : Nat → Bool) (cur : Nat → Nat) (p q r u v w s : Nat) : Nat := fop .quo .f32 (fop .sub .f32 (mfI a b c m n x y z cl cur p q r) (mfI a b c m n x y z cl cur u v w)) (fop .mul .f32 (can .f32 1073741824) s)
theorem walk41 (a b c m : Nat) (n : Nat → Nat) (x y z : Nat → Nat → Nat) (cl : Nat → Bool) (cur : Nat → Nat) (p q r s : Nat) : autoW cfgD1 (fun _ => true) 5 (fun _ => none) [false, false, true, false, true, false, false] Try.f41 [.agg [.flt .f32 a, .flt .f32 b, .flt .f32 c], .ro 3 m (.wires n x y z cl cur), .agg [.flt .f32 p, .flt .f32 q, .flt .f32 r], .flt .f32 s] = some ((!bif !above s then true else !vfin p q r) && (((fG a b c m n x y z cl cur (fop .add .f32 p s) (fop .add .f32 q 0) (fop .add .f32 r 0)) && true) && (((fG a b c m n x y z cl cur (fop .sub .f32 p s) (fop .sub .f32 q 0) (fop .sub .f32 r 0)) && true) && (((fG a b c m n x y z cl cur (fop .add .f32 p 0) (fop .add .f32 q s) (fop .add .f32 r 0)) && true) && (((fG a b c m n x y z cl cur (fop .sub .f32 p 0) (fop .sub .f32 q s) (fop .sub .f32 r 0)) && true) && (((fG a b c m n x y z cl cur (fop .add .f32 p 0) (fop .add .f32 q 0) (fop .add .f32 r s)) && true) && (((fG a b c m n x y z cl cur (fop .sub .f32 p 0) (fop .sub .f32 q 0) (fop .sub .f32 r s)) && true) && ((vfin (mfD a b c m n x y z cl cur (fop .add .f32 p s) (fop .add .f32 q 0) (fop .add .f32 r 0) (fop .sub .f32 p s) (fop .sub .f32 q 0) (fop .sub .f32 r 0) s) (mfD a b c m n x y z cl cur (fop .add .f32 p 0) (fop .add .f32 q s) (fop .add .f32 r 0) (fop .sub .f32 p 0) (fop .sub .f32 q s) (fop .sub .f32 r 0) s) (mfD a b c m n x y z cl cur (fop .add .f32 p 0) (fop .add .f32 q 0) (fop .add .f32 r s) (fop .sub .f32 p 0) (fop .sub .f32 q 0) (fop .sub .f32 r s) s) && true) && true))))))), .tup [.agg [.flt .f32 (mfD a b c m n x y z cl cur (fop .add .f32 p s) (fop .add .f32 q 0) (fop .add .f32 r 0) (fop .sub .f32 p s) (fop .sub .f32 q 0) (fop .sub .f32 r 0) s), .flt .f32 (mfD a b c m n x y z cl cur (fop .add .f32 p 0) (fop .add .f32 q s) (fop .add .f32 r 0) (fop .sub .f32 p 0) (fop .sub .f32 q s) (fop .sub .f32 r 0) s), .flt .f32 (mfD a b c m n x y z cl cur (fop .add .f32 p 0) (fop .add .f32 q 0) (fop .add .f32 r s) (fop .sub .f32 p 0) (fop .sub .f32 q 0) (fop .sub .f32 r s) s)], .bool true]) := by kernel_rfl
noncomputable def mfOk (a b c m : Nat) (n : Nat → Nat) (x y z : Nat → Nat → Nat) (cl : Nat → Bool) (cur : Nat → Nat) (p q r s : Nat) : Bool := above s && vfin p q r && ((fG a b c m n x y z cl cur (fop .add .f32 p s) (fop .add .f32 q 0) (fop .add .f32 r 0)) && (fG a b c m n x y z cl cur (fop .sub .f32 p s) (fop .sub .f32 q 0) (fop .sub .f32 r 0)) && (fG a b c m n x y z cl cur (fop .add .f32 p 0) (fop .add .f32 q s) (fop .add .f32 r 0)) && (fG a b c m n x y z cl cur (fop .sub .f32 p 0) (fop .sub .f32 q s) (fop .sub .f32 r 0)) && (fG a b c m n x y z cl cur (fop .add .f32 p 0) (fop .add .f32 q 0) (fop .add .f32 r s)) && (fG a b c m n x y z cl cur (fop .sub .f32 p 0) (fop .sub .f32 q 0) (fop .sub .f32 r s))) && vfin (mfD a b c m n x y z cl cur (fop .add .f32 p s) (fop .add .f32 q 0) (fop .add .f32 r 0) (fop .sub .f32 p s) (fop .sub .f32 q 0) (fop .sub .f32 r 0) s) (mfD a b c m n x y z cl cur (fop .add .f32 p 0) (fop .add .f32 q s) (fop .add .f32 r 0) (fop .sub .f32 p 0) (fop .sub .f32 q s) (fop .sub .f32 r 0) s) (mfD a b c m n x y z cl cur (fop .add .f32 p 0) (fop .add .f32 q 0) (fop .add .f32 r s) (fop .sub .f32 p 0) (fop .sub .f32 q 0) (fop .sub .f32 r s) s)
noncomputable def s41T : List A → Option (Bool × A)
  | [.agg [.flt .f32 a, .flt .f32 b, .flt .f32 c], .ro 3 m (.wires n x y z cl cur), .agg [.flt .f32 p, .flt .f32 q, .flt .f32 r], .flt .f32 s] => some (mfOk a b c m n x y z cl cur p q r s, .tup [.agg [.flt .f32 (mfD a b c m n x y z cl cur (fop .add .f32 p s) (fop .add .f32 q 0) (fop .add .f32 r 0) (fop .sub .f32 p s) (fop .sub .f32 q 0) (fop .sub .f32 r 0) s), .flt .f32 (mfD a b c m n x y z cl cur (fop .add .f32 p 0) (fop .add .f32 q s) (fop .add .f32 r 0) (fop .sub .f32 p 0) (fop .sub .f32 q s) (fop .sub .f32 r 0) s), .flt .f32 (mfD a b c m n x y z cl cur (fop .add .f32 p 0) (fop .add .f32 q 0) (fop .add .f32 r s) (fop .sub .f32 p 0) (fop .sub .f32 q 0) (fop .sub .f32 r s) s)], .bool true])
  | _ => none
theorem s41T_at : EnvAt Try.prog 41 s41T := by
  refine ⟨⟨Try.f41, Try.func41, by kernel_rfl, by kernel_rfl⟩, fun ds cc rr h hc => ?_⟩
  unfold s41T at h
  split at h
  · rename_i a b c m n x y z cl cur p q r s
    simp only [Option.some.injEq, Prod.mk.injEq] at h
    obtain ⟨rfl, rfl⟩ := h
    exact autoW_ok cfgD1_ok Try.func41 (by kernel_rfl) (lp_none _) (walk41 a b c m n x y z cl cur p q r s) (by
      unfold mfOk at hc
      simp only [Bool.and_eq_true] at hc
      obtain ⟨⟨⟨h1, h2⟩, ⟨⟨⟨⟨h3, h4⟩, h5⟩, h6⟩, h7⟩, h8⟩, h9⟩ := hc
      rw [h1, h2, h3, h4, h5, h6, h7, h8, h9]; rfl)
  · cases h
noncomputable def mmE (p q r e : Nat) : Nat := fop .mul .f32 e (fop .quo .f32 (can .f32 1065353216) (root32 (inn p q r p q r)))
noncomputable def mmX (a b c p q r : Nat) : Nat := inn a b c (mmE p q r p) (mmE p q r q) (mmE p q r r)
noncomputable def mmF (p q r : Nat) : Nat := fop .quo .f32 (can .f32 1077936128) (fop .mul .f32 (inn p q r p q r) (inn p q r p q r))
noncomputable def mmC (b a e x y z f : Nat) : Nat := fop .mul .f32 (fop .add .f32 (fop .add .f32 (fop .add .f32 (fop .mul .f32 b x) (fop .mul .f32 a y)) (fop .mul .f32 e z)) (fop .mul .f32 e (fneg .f32 (fop .mul .f32 (fop .mul .f32 (can .f32 1084227584) x) y)))) f
theorem walk43 (a b c x y z p q r : Nat) : autoW cfgD1 (fun _ => true) 0 (fun _ => none) [false] Try.f43 [.agg [.flt .f32 a, .flt .f32 b, .flt .f32 c], .agg [.flt .f32 x, .flt .f32 y, .flt .f32 z], .agg [.flt .f32 p, .flt .f32 q, .flt .f32 r]] = some ((!bif bif !vfin a b c then true else !vfin x y z then true else !vfin p q r) && (vfin (mmC x a (mmE p q r p) (mmX a b c p q r) (mmX x y z p q r) (inn a b c x y z) (mmF p q r)) (mmC y b (mmE p q r q) (mmX a b c p q r) (mmX x y z p q r) (inn a b c x y z) (mmF p q r)) (mmC z c (mmE p q r r) (mmX a b c p q r) (mmX x y z p q r) (inn a b c x y z) (mmF p q r)) && true), .tup [.agg [.flt .f32 (mmC x a (mmE p q r p) (mmX a b c p q r) (mmX x y z p q r) (inn a b c x y z) (mmF p q r)), .flt .f32 (mmC y b (mmE p q r q) (mmX a b c p q r) (mmX x y z p q r) (inn a b c x y z) (mmF p q r)), .flt .f32 (mmC z c (mmE p q r r) (mmX a b c p q r) (mmX x y z p q r) (inn a b c x y z) (mmF p q r))], .bool true]) := by kernel_rfl
noncomputable def mmOk (a b c x y z p q r : Nat) : Bool := vfin a b c && vfin x y z && vfin p q r && vfin (mmC x a (mmE p q r p) (mmX a b c p q r) (mmX x y z p q r) (inn a b c x y z) (mmF p q r)) (mmC y b (mmE p q r q) (mmX a b c p q r) (mmX x y z p q r) (inn a b c x y z) (mmF p q r)) (mmC z c (mmE p q r r) (mmX a b c p q r) (mmX x y z p q r) (inn a b c x y z) (mmF p q r))
noncomputable def s43T : List A → Option (Bool × A)
  | [.agg [.flt .f32 a, .flt .f32 b, .flt .f32 c], .agg [.flt .f32 x, .flt .f32 y, .flt .f32 z], .agg [.flt .f32 p, .flt .f32 q, .flt .f32 r]] => some (mmOk a b c x y z p q r, .tup [.agg [.flt .f32 (mmC x a (mmE p q r p) (mmX a b c p q r) (mmX x y z p q r) (inn a b c x y z) (mmF p q r)), .flt .f32 (mmC y b (mmE p q r q) (mmX a b c p q r) (mmX x y z p q r) (inn a b c x y z) (mmF p q r)), .flt .f32 (mmC z c (mmE p q r r) (mmX a b c p q r) (mmX x y z p q r) (inn a b c x y z) (mmF p q r))], .bool true])
  | _ => none
theorem s43T_at : EnvAt Try.prog 43 s43T := by
  refine ⟨⟨Try.f43, Try.func43, by kernel_rfl, by kernel_rfl⟩, fun ds cc rr h hc => ?_⟩
  unfold s43T at h
  split at h
  · rename_i a b c x y z p q r
    simp only [Option.some.injEq, Prod.mk.injEq] at h
    obtain ⟨rfl, rfl⟩ := h
    exact autoW_ok cfgD1_ok Try.func43 (by kernel_rfl) (lp_none _) (walk43 a b c x y z p q r) (by
      unfold mmOk at hc
      simp only [Bool.and_eq_true] at hc
      obtain ⟨⟨⟨h1, h2⟩, h3⟩, h4⟩ := hc
      rw [h1, h2, h3, h4]; rfl)
  · cases h
noncomputable def envD2 : List (Nat × (List A → Option (Bool × A))) := (39, s39T) :: (40, s40T) :: (41, s41T) :: (43, s43T) :: envD1
theorem envD2_ok : EnvOK Try.prog (look envD2) := env_cons s39T_at (env_cons s40T_at (env_cons s41T_at (env_cons s43T_at envD1_ok)))
noncomputable def cfgD2 : Cfg := mkCfg tab [] xts (look envD2)
theorem cfgD2_ok : CfgOK Try.prog cfgD2 := cfg_ok tab_eq (no_fts _) xts_ok envD2_ok mixed
end Go.Fw.E1

/-
  The law of moments: its walk.
-/
namespace Go.Fw.E1
open Go.Proofs
noncomputable def q4 : Nat := can .f32 1048576000
noncomputable def mwN (i : Nat) : Nat := [8].getD i 0
noncomputable def mwX (i : Nat) : Nat → Nat := [ringX (Int.ofNat 8) (can .f32 1065353216)].getD i fun _ => 0
noncomputable def mwY (i : Nat) : Nat → Nat := [ringY (Int.ofNat 8) (can .f32 1065353216)].getD i fun _ => 0
noncomputable def mwZ (i : Nat) : Nat → Nat := [fun _ => can .f32 0].getD i fun _ => 0
noncomputable def mwB (i : Nat) : Bool := [true].getD i false
noncomputable def mwI (i : Nat) : Nat := [can .f32 1073741824].getD i 0
/-- The field. -/
noncomputable def fdX (p q r : Nat) : Nat := faX mwN mwX mwY mwZ mwB mwI p q r 0 1
noncomputable def fdY (p q r : Nat) : Nat := faY mwN mwX mwY mwZ mwB mwI p q r 0 1
noncomputable def fdZ (p q r : Nat) : Nat := faZ mwN mwX mwY mwZ mwB mwI p q r 0 1
noncomputable def mG (m0 m1 m2 p q r : Nat) : Bool := fG m0 m1 m2 1 mwN mwX mwY mwZ mwB mwI p q r
noncomputable def mI (m0 m1 m2 p q r : Nat) : Nat := mfI m0 m1 m2 1 mwN mwX mwY mwZ mwB mwI p q r
noncomputable def mD (m0 m1 m2 p q r u v w s : Nat) : Nat := mfD m0 m1 m2 1 mwN mwX mwY mwZ mwB mwI p q r u v w s
noncomputable def C7p (m0 m1 m2 p q r : Nat) (x : Bool) : Bool := (allUpTo (shortW mwN) 1 && flOk 1 mwN mwX mwY mwZ mwB mwI p q r) && ((mG m0 m1 m2 p q r && vfin (crX m0 m1 m2 (fdX p q r) (fdY p q r) (fdZ p q r)) (crY m0 m1 m2 (fdX p q r) (fdY p q r) (fdZ p q r)) (crZ m0 m1 m2 (fdX p q r) (fdY p q r) (fdZ p q r))) && ((mG m0 m1 m2 p q r && fin (fneg .f32 (mI m0 m1 m2 p q r))) && (mfOk m0 m1 m2 1 mwN mwX mwY mwZ mwB mwI p q r q4 && (((mG m0 m1 m2 (fop .add .f32 p q4) (fop .add .f32 q 0) (fop .add .f32 r 0) && fin (fneg .f32 (mI m0 m1 m2 (fop .add .f32 p q4) (fop .add .f32 q 0) (fop .add .f32 r 0)))) && true) && (((mG m0 m1 m2 (fop .sub .f32 p q4) (fop .sub .f32 q 0) (fop .sub .f32 r 0) && fin (fneg .f32 (mI m0 m1 m2 (fop .sub .f32 p q4) (fop .sub .f32 q 0) (fop .sub .f32 r 0)))) && true) && x)))))
noncomputable def C7w (m0 m1 m2 o0 o1 o2 u v w : Nat) : Bool := mmOk m0 m1 m2 o0 o1 o2 u v w && ((mmOk o0 o1 o2 m0 m1 m2 (fop .mul .f32 u (can .f32 3212836864)) (fop .mul .f32 v (can .f32 3212836864)) (fop .mul .f32 w (can .f32 3212836864)) && true) && (!false && true))
noncomputable def C7 (la : Nat) (b : Nat → Nat) (lc : Nat) (c : Nat → Nat) (ub uc : Bool) : Bool :=
  (!bif decide (Int.ofNat la > 48) then true else decide (Int.ofNat lc > 48)) && (ringOk (Int.ofNat 8) (can .f32 1065353216) (can .f32 0) (can .f32 1073741824) && (ub && (ub && (uc && C7p (r8c la b 0 0) (r8c la b 0 1) (r8c la b 0 2) (r8c lc c 0 0) (r8c lc c 0 1) (fop .add .f32 (r8c lc c 0 2) (can .f32 1082130432)) (uc && C7w (r8c la b 0 0) (r8c la b 0 1) (r8c la b 0 2) (r8c la b 3 0) (r8c la b 3 1) (r8c la b 3 2) (r8c lc c 3 0) (fop .add .f32 (r8c lc c 3 1) (can .f32 1084227584)) (r8c lc c 3 2))))))
noncomputable def R7a (m0 m1 m2 p q r : Nat) : Bool := (forder .f64 (gap8 (fcvt .f32 .f64 (inn (crX m0 m1 m2 (fdX p q r) (fdY p q r) (fdZ p q r)) (crY m0 m1 m2 (fdX p q r) (fdY p q r) (fdZ p q r)) (crZ m0 m1 m2 (fdX p q r) (fdY p q r) (fdZ p q r)) m0 m1 m2)) (can .f64 0)) (can .f64 4562254508917369340) == some .lt)
noncomputable def R7b (m0 m1 m2 p q r : Nat) : Bool := (forder .f64 (gap8 (fcvt .f32 .f64 (inn (crX m0 m1 m2 (fdX p q r) (fdY p q r) (fdZ p q r)) (crY m0 m1 m2 (fdX p q r) (fdY p q r) (fdZ p q r)) (crZ m0 m1 m2 (fdX p q r) (fdY p q r) (fdZ p q r)) (fdX p q r) (fdY p q r) (fdZ p q r))) (can .f64 0)) (can .f64 4562254508917369340) == some .lt)
noncomputable def R7c (m0 m1 m2 p q r : Nat) : Bool := (forder .f64 (gap8 (fcvt .f32 .f64 (fneg .f32 (mI m0 m1 m2 p q r))) (fneg .f64 (fcvt .f32 .f64 (inn m0 m1 m2 (fdX p q r) (fdY p q r) (fdZ p q r))))) (can .f64 4562254508917369340) == some .lt)
noncomputable def R7d (m0 m1 m2 p q r : Nat) : Bool := (forder .f64 (gap8 (fcvt .f32 .f64 (mD m0 m1 m2 (fop .add .f32 p q4) (fop .add .f32 q 0) (fop .add .f32 r 0) (fop .sub .f32 p q4) (fop .sub .f32 q 0) (fop .sub .f32 r 0) q4)) (fop .mul .f64 (fop .sub .f64 (fcvt .f32 .f64 (fneg .f32 (mI m0 m1 m2 (fop .sub .f32 p q4) (fop .sub .f32 q 0) (fop .sub .f32 r 0)))) (fcvt .f32 .f64 (fneg .f32 (mI m0 m1 m2 (fop .add .f32 p q4) (fop .add .f32 q 0) (fop .add .f32 r 0))))) (can .f64 4611686018427387904))) (can .f64 4562254508917369340) == some .lt)
noncomputable def R7e (m0 m1 m2 o0 o1 o2 u v w : Nat) : Bool := (forder .f64 (fcvt .f32 .f64 (long (fop .sub .f32 (mmC o0 m0 (mmE u v w u) (mmX m0 m1 m2 u v w) (mmX o0 o1 o2 u v w) (inn m0 m1 m2 o0 o1 o2) (mmF u v w)) (fop .mul .f32 (mmC m0 o0 (mmE (fop .mul .f32 u (can .f32 3212836864)) (fop .mul .f32 v (can .f32 3212836864)) (fop .mul .f32 w (can .f32 3212836864)) (fop .mul .f32 u (can .f32 3212836864))) (mmX o0 o1 o2 (fop .mul .f32 u (can .f32 3212836864)) (fop .mul .f32 v (can .f32 3212836864)) (fop .mul .f32 w (can .f32 3212836864))) (mmX m0 m1 m2 (fop .mul .f32 u (can .f32 3212836864)) (fop .mul .f32 v (can .f32 3212836864)) (fop .mul .f32 w (can .f32 3212836864))) (inn o0 o1 o2 m0 m1 m2) (mmF (fop .mul .f32 u (can .f32 3212836864)) (fop .mul .f32 v (can .f32 3212836864)) (fop .mul .f32 w (can .f32 3212836864)))) (can .f32 3212836864))) (fop .sub .f32 (mmC o1 m1 (mmE u v w v) (mmX m0 m1 m2 u v w) (mmX o0 o1 o2 u v w) (inn m0 m1 m2 o0 o1 o2) (mmF u v w)) (fop .mul .f32 (mmC m1 o1 (mmE (fop .mul .f32 u (can .f32 3212836864)) (fop .mul .f32 v (can .f32 3212836864)) (fop .mul .f32 w (can .f32 3212836864)) (fop .mul .f32 v (can .f32 3212836864))) (mmX o0 o1 o2 (fop .mul .f32 u (can .f32 3212836864)) (fop .mul .f32 v (can .f32 3212836864)) (fop .mul .f32 w (can .f32 3212836864))) (mmX m0 m1 m2 (fop .mul .f32 u (can .f32 3212836864)) (fop .mul .f32 v (can .f32 3212836864)) (fop .mul .f32 w (can .f32 3212836864))) (inn o0 o1 o2 m0 m1 m2) (mmF (fop .mul .f32 u (can .f32 3212836864)) (fop .mul .f32 v (can .f32 3212836864)) (fop .mul .f32 w (can .f32 3212836864)))) (can .f32 3212836864))) (fop .sub .f32 (mmC o2 m2 (mmE u v w w) (mmX m0 m1 m2 u v w) (mmX o0 o1 o2 u v w) (inn m0 m1 m2 o0 o1 o2) (mmF u v w)) (fop .mul .f32 (mmC m2 o2 (mmE (fop .mul .f32 u (can .f32 3212836864)) (fop .mul .f32 v (can .f32 3212836864)) (fop .mul .f32 w (can .f32 3212836864)) (fop .mul .f32 w (can .f32 3212836864))) (mmX o0 o1 o2 (fop .mul .f32 u (can .f32 3212836864)) (fop .mul .f32 v (can .f32 3212836864)) (fop .mul .f32 w (can .f32 3212836864))) (mmX m0 m1 m2 (fop .mul .f32 u (can .f32 3212836864)) (fop .mul .f32 v (can .f32 3212836864)) (fop .mul .f32 w (can .f32 3212836864))) (inn o0 o1 o2 m0 m1 m2) (mmF (fop .mul .f32 u (can .f32 3212836864)) (fop .mul .f32 v (can .f32 3212836864)) (fop .mul .f32 w (can .f32 3212836864)))) (can .f32 3212836864))))) (can .f64 4562254508917369340) == some .lt)
noncomputable def R7 (m0 m1 m2 o0 o1 o2 p q r u v w : Nat) : Bool := bif bif bif bif R7a m0 m1 m2 p q r then R7b m0 m1 m2 p q r else false then R7c m0 m1 m2 p q r else false then R7d m0 m1 m2 p q r else false then R7e m0 m1 m2 o0 o1 o2 u v w else false
noncomputable def gB (b : Nat → Nat) (i : Nat) : A := .int .u8 (Int.ofNat (b i))
theorem walk7 (la : Nat) (b : Nat → Nat) (lc : Nat) (c : Nat → Nat) : autoW cfgD2 (fun _ => false) 5 (fun _ => none) [false, false] Try.f7 [.ro 1 la (.gen (gB b)), .ro 1 lc (.gen (gB c))] = some (C7 la b lc c (allUpTo (isU8 (gB b)) la) (allUpTo (isU8 (gB c)) lc), .bool (R7 (r8c la b 0 0) (r8c la b 0 1) (r8c la b 0 2) (r8c la b 3 0) (r8c la b 3 1) (r8c la b 3 2) (r8c lc c 0 0) (r8c lc c 0 1) (fop .add .f32 (r8c lc c 0 2) (can .f32 1082130432)) (r8c lc c 3 0) (fop .add .f32 (r8c lc c 3 1) (can .f32 1084227584)) (r8c lc c 3 2))) := by kernel_rfl
theorem long7 (la : Nat) (b : Nat → Nat) (lc : Nat) (c : Nat → Nat) : autoW cfgD2 (fun _ => false) 5 (fun _ => none) [true] Try.f7 [.ro 1 la (.gen (gB b)), .ro 1 lc (.gen (gB c))] = some ((bif decide (Int.ofNat la > 48) then true else decide (Int.ofNat lc > 48)) && true, .bool true) := by kernel_rfl
end Go.Fw.E1

/-
  Words that bytes choose, as quarters; gaps and distances as fractions.
-/
namespace Go.Fw.E1
open Go.Proofs
/-- The word of (j - 8) / 4. -/
def qw (j : Nat) : Nat := [3221225472, 3219128320, 3217031168, 3214934016, 3212836864, 3208642560, 3204448256, 3196059648, 0, 1048576000, 1056964608, 1061158912, 1065353216, 1067450368, 1069547520, 1071644672, 1073741824].getD j 0
set_option maxRecDepth 100000 in
theorem r8q_tab : allUpTo (fun v => Nat.beq (r8q v) (qw (v % 17))) 256 = true := by decide +kernel
theorem r8q_eq {v : Nat} (h : v < 256) : r8q v = qw (v % 17) := Nat.eq_of_beq_eq_true (allUpTo_iff.1 r8q_tab v h)
theorem r8d_tab : (Nat.beq (r8d 0) (qw 12) && Nat.beq (r8d 1) (qw 10) && Nat.beq (r8d 2) (qw 7)) = true := by decide +kernel
theorem r8c_ex {la : Nat} {b : Nat → Nat} (hb : ∀ i, b i < 256) (p : Nat) {k : Nat} (hk : k < 3) : ∃ j, j < 17 ∧ r8c la b p k = qw j := by
  by_cases h : p + k < la
  · exact ⟨b (p + k) % 17, Nat.mod_lt _ (by omega), by rw [r8c_in h, r8q_eq (hb _)]⟩
  · rw [r8c_out h]
    have := r8d_tab
    simp only [Bool.and_eq_true] at this
    match k, hk with
    | 0, _ => exact ⟨12, by omega, Nat.eq_of_beq_eq_true this.1.1⟩
    | 1, _ => exact ⟨10, by omega, Nat.eq_of_beq_eq_true this.1.2⟩
    | 2, _ => exact ⟨7, by omega, Nat.eq_of_beq_eq_true this.2⟩
set_option maxRecDepth 100000 in
theorem qw_tab : allUpTo (fun j => isV .f32 (vof .f32 (qw j)) (((Int.ofNat j - 8 : Int) : Rat) * (1 / 4))) 17 = true := by decide +kernel
theorem qw_qt {j : Nat} (h : j < 17) : Qt (qw j) (Int.ofNat j - 8) := Val.of_vof (allUpTo_iff.1 qw_tab j h)
/-- What has a value is finite. -/
theorem fin_val {x : Nat} {q : Rat} (h : Val .f32 x q) : fin x = true := by
  obtain ⟨n, h, _⟩ := h
  have h2 : Fin .f32 (fop .sub .f32 x x) 0 := by
    have := Fin.sub h h
    rw [Int.sub_self, rI_0] at this
    exact this (limK_pos _)
  unfold fin
  have h0 : Fin .f32 (can .f32 0) 0 := by
    have : Rep .f32 (can .f32 0) .zero := by rw [show can .f32 0 = 0 by decide +kernel]; exact rep_of .f32 0
    exact this
  rw [Fin.order h2 h0]
  rfl
theorem vfin_val {x y z : Nat} {p q r : Rat} (hx : Val .f32 x p) (hy : Val .f32 y q) (hz : Val .f32 z r) : vfin x y z = true := by
  unfold vfin
  rw [fin_val hx, fin_val hy, fin_val hz]; rfl
theorem gt0_val {x : Nat} {q : Rat} (h : Val .f32 x q) (h0 : 0 < q) : above x = true := by
  unfold above
  rw [fin_val h]
  unfold gt0
  have hz : Val .f32 (can .f32 0) 0 := Val.of_vof (by decide +kernel)
  rw [forder_gt h hz h0]; rfl
/-- The numbers that the laws compare with. -/
def k001 : Rat := 4611686018427388 / 4611686018427387904
theorem k001_val : Val .f64 (can .f64 4562254508917369340) k001 := Val.of_vof (by decide +kernel)
theorem zero64 : Val .f64 (can .f64 0) 0 := Val.of_vof (by decide +kernel)
theorem gap_val {x y : Nat} {a b t : Rat} (hx : Val .f64 x a) (hy : Val .f64 y b) (h : Near (a - b) t) (ht : t ≤ 1) : ∃ g, Val .f64 (gap8 x y) g ∧ g ≤ t + 1 / 2 ^ 50 := by
  have hm : t ≤ most := Rat.le_trans ht (by decide +kernel)
  obtain ⟨c, h1, h2⟩ := hx.sub hy h hm
  obtain ⟨d, h3, h4⟩ := hy.sub hx (X := t) (by unfold Near at *; constructor <;> grind) hm
  refine ⟨_, fmax_val h1 h3, ?_⟩
  have hu : ur .f64 + tiny .f64 ≤ 1 / 2 ^ 50 := by decide +kernel
  have hup := ur_pos .f64
  have := Rat.mul_le_mul_of_nonneg_right ht (Rat.le_of_lt hup)
  unfold Near at *
  split <;> grind
theorem gap_lt {x y K : Nat} {a b t k : Rat} (hx : Val .f64 x a) (hy : Val .f64 y b) (h : Near (a - b) t) (hK : Val .f64 K k) (ht : t ≤ 1) (hk : t + 1 / 2 ^ 50 < k) : (forder .f64 (gap8 x y) K == some .lt) = true := by
  obtain ⟨g, h1, h2⟩ := gap_val hx hy h ht
  rw [forder_lt h1 hK (by grind)]; rfl
theorem gap_ngt {x y K : Nat} {a b t k : Rat} (hx : Val .f64 x a) (hy : Val .f64 y b) (h : Near (a - b) t) (hK : Val .f64 K k) (ht : t ≤ 1) (hk : t + 1 / 2 ^ 50 < k) : (forder .f64 (gap8 x y) K == some .gt) = false := by
  obtain ⟨g, h1, h2⟩ := gap_val hx hy h ht
  rw [forder_lt h1 hK (by grind)]; rfl
/-- A length of small numbers. -/
theorem long_near {a b c : Nat} {x y z t : Rat} (ha : Val .f32 a x) (hb : Val .f32 b y) (hc : Val .f32 c z) (hx : Near x t) (hy : Near y t) (hz : Near z t) (ht : t ≤ 1) : ∃ l, Val .f32 (long a b c) l ∧ 0 ≤ l ∧ l ≤ 2 * t + 1 / 2 ^ 50 := by
  have t0 := hx.nonneg
  have k1 := hx.mul hx
  have k2 := hy.mul hy
  have k3 := hz.mul hz
  have tt : t * t ≤ 1 * 1 := sq_mono t0 ht
  obtain ⟨l, l1, l2, l3⟩ := long_val ha hb hc rfl (by
    have : (12 : Rat) ≤ most := by decide +kernel
    unfold Near at k1 k2 k3; grind)
  refine ⟨l, l1, l2, le_of_sq (by have : (0 : Rat) ≤ 1 / 2 ^ 50 := by decide +kernel
                                  grind) ?_⟩
  have he : e22 * 1024 ≤ 1 := by decide +kernel
  have hep := e22_pos
  have s : 32 * tiny .f32 ≤ 1 / 2 ^ 50 * (1 / 2 ^ 50) := by decide +kernel
  have A0 := sqn x
  have A1 := sqn y
  have A2 := sqn z
  have m1 := small_mul (show 0 ≤ x * x + y * y + z * z by grind) hep he
  have hq : (0 : Rat) < 1 / 2 ^ 50 := by decide +kernel
  have h5 := Rat.mul_nonneg t0 (Rat.le_of_lt hq)
  have htt := sqn t
  unfold Near at *
  grind
end Go.Fw.E1

/-
  The law of moments: the field; what stands across; how the energy falls.
-/
namespace Go.Fw.E1
open Go.Proofs
theorem fdX_eq (p q r : Nat) : fdX p q r = fop .add .f32 0 (fop .mul .f32 (fX (sg 8 RX RY (fun _ => can .f32 0)) p q r 0 8) (can .f32 1073741824)) := by kernel_rfl
theorem fdY_eq (p q r : Nat) : fdY p q r = fop .add .f32 0 (fop .mul .f32 (fY (sg 8 RX RY (fun _ => can .f32 0)) p q r 0 8) (can .f32 1073741824)) := by kernel_rfl
theorem fdZ_eq (p q r : Nat) : fdZ p q r = fop .add .f32 0 (fop .mul .f32 (fZ (sg 8 RX RY (fun _ => can .f32 0)) p q r 0 8) (can .f32 1073741824)) := by kernel_rfl
set_option maxRecDepth 100000 in
theorem vqt_tab : allUpTo (fun i => isV .f32 (vqt i) (((Int.ofNat i - 9 : Int) : Rat) * (1 / 4)) && isV .f32 (vqz i) (((Int.ofNat i + 7 : Int) : Rat) * (1 / 4))) 19 = true := by decide +kernel
theorem bandT {a b : Bool} (h : band a b = true) : a = true ∧ b = true := by rw [band_eq, Bool.and_eq_true] at h; exact h
theorem vle2_val {w : Nat} {v : V} (hr : Rep .f32 w v) (h : vle2 v = true) : ∃ q, Val .f32 w q ∧ Near q 2 := by
  obtain ⟨h1, h2⟩ := bandT h
  have hv := rep_val hr h1
  refine ⟨_, hv.val, ?_⟩
  have h2 := Nat.le_of_ble_eq_true h2
  have hu := unit_pos .f32
  have e : (1427247692705959881058285969449495136382746624 : Nat) = 2 * 2 ^ 149 := by decide +kernel
  rw [e] at h2
  have k1 : (Go.Fw.sg (vlow v) (vmag v)) ≤ ((2 * 2 ^ 149 : Nat) : Int) ∧ -((2 * 2 ^ 149 : Nat) : Int) ≤ Go.Fw.sg (vlow v) (vmag v) := by
    generalize (2 * 2 ^ 149 : Nat) = N at *
    unfold Go.Fw.sg
    split <;> omega
  have a1 := Rat.intCast_le_intCast.2 k1.1
  have a2 := Rat.intCast_le_intCast.2 k1.2
  rw [Rat.intCast_neg] at a2
  rw [Rat.intCast_natCast] at a1 a2
  have e2 : ((2 * 2 ^ 149 : Nat) : Rat) = 2 * unit .f32 := by unfold unit; rw [Rat.natCast_mul]; rfl
  rw [e2] at a1 a2
  have hc : ((Go.Fw.sg (vlow v) (vmag v) : Int) : Rat) / unit .f32 * unit .f32 = _ := Rat.div_mul_cancel (by grind)
  generalize ((Go.Fw.sg (vlow v) (vmag v) : Int) : Rat) / unit .f32 = c at *
  rw [← hc] at a1 a2
  constructor
  · refine Rat.le_of_mul_le_mul_right (c := unit .f32) ?_ hu; grind
  · refine Rat.le_of_mul_le_mul_right (c := unit .f32) ?_ hu; grind
theorem vmRow_all {i : Nat} (h : i < 19) : vmRow i = true := by
  by_cases h1 : i < 5
  · have := allUpTo_iff.1 vmRowsa i h1
    rwa [Nat.zero_add] at this
  by_cases h2 : i < 10
  · have := allUpTo_iff.1 vmRowsb (i - 5) (by omega)
    rwa [show 5 + (i - 5) = i by omega] at this
  by_cases h3 : i < 15
  · have := allUpTo_iff.1 vmRowsc (i - 10) (by omega)
    rwa [show 10 + (i - 10) = i by omega] at this
  · have := allUpTo_iff.1 vmRowsd (i - 15) (by omega)
    rwa [show 15 + (i - 15) = i by omega] at this
theorem field_ap {p q r : Nat} {i j k : Nat} (hi : i < 19) (hj : j < 19) (hk : k < 19) (hp : Qt p (Int.ofNat i - 9)) (hq : Qt q (Int.ofNat j - 9)) (hr : Qt r (Int.ofNat k + 7)) :
    ∃ x y z, Ap (fdX p q r) x (2 * b1) 0 ∧ Ap (fdY p q r) y (2 * b1) 0 ∧ Ap (fdZ p q r) z (2 * b1) 0 := by
  have ti := allUpTo_iff.1 vqt_tab i hi
  have tj := allUpTo_iff.1 vqt_tab j hj
  have tk := allUpTo_iff.1 vqt_tab k hk
  simp only [Bool.and_eq_true] at ti tj tk
  have rp := Val.rep hp ti.1
  have rq := Val.rep hq tj.1
  have rr := Val.rep hr tk.2
  have h := allUpTo_iff.1 (allUpTo_iff.1 (vmRow_all hi) j hj) k hk
  obtain ⟨h1, h⟩ := bandT h
  obtain ⟨h2, h3⟩ := bandT h
  have rx : Rep .f32 (fdX p q r) (vmX (vqt i) (vqt j) (vqz k)) := by
    rw [fdX_eq]
    exact rep_add rep0 (rep_mul (rep_fX rep_vlx rep_vly (fun _ => repc0) rp rq rr 8) rep_two)
  have ry : Rep .f32 (fdY p q r) (vmY (vqt i) (vqt j) (vqz k)) := by
    rw [fdY_eq]
    exact rep_add rep0 (rep_mul (rep_fY rep_vlx rep_vly (fun _ => repc0) rp rq rr 8) rep_two)
  have rz : Rep .f32 (fdZ p q r) (vmZ (vqt i) (vqt j) (vqz k)) := by
    rw [fdZ_eq]
    exact rep_add rep0 (rep_mul (rep_fZ rep_vlx rep_vly (fun _ => repc0) rp rq rr 8) rep_two)
  obtain ⟨x, x1, x2⟩ := vle2_val rx h1
  obtain ⟨y, y1, y2⟩ := vle2_val ry h2
  obtain ⟨z, z1, z2⟩ := vle2_val rz h3
  have e := scl_b1 2
  exact ⟨x, y, z, .val x1 (by rw [e]; exact x2), .val y1 (by rw [e]; exact y2), .val z1 (by rw [e]; exact z2)⟩
/-- The wire is one. -/
theorem wire_ok : okW 8 (can .f32 1073741824) RX RY (fun _ => can .f32 0) = true := by
  unfold okW
  rw [decide_eq_true (show 2 ≤ 8 ∧ 8 ≤ 48 by omega), show fin (can .f32 1073741824) = true by decide +kernel]
  rw [Bool.true_and, Bool.true_and]
  refine allUpTo_iff.2 fun i hi => ?_
  have t : allUpTo (fun i => fin (r8x i) && fin (r8y i)) 8 = true := by decide +kernel
  have := allUpTo_iff.1 t i hi
  rw [Bool.and_eq_true] at this
  unfold vfinAt vfin
  rw [ring8x hi, ring8y hi, this.1, this.2, show fin (can .f32 0) = true by decide +kernel]; rfl
theorem are_ok : areW 1 mwN mwX mwY mwZ mwI = true := by
  unfold areW
  rw [decide_eq_true (show 1 ≤ 8 by omega), Bool.true_and]
  refine allUpTo_iff.2 fun i hi => ?_
  obtain rfl : i = 0 := by omega
  exact wire_ok
theorem ring_is : ringOk (Int.ofNat 8) (can .f32 1065353216) (can .f32 0) (can .f32 1073741824) = true := by
  have h2 : okW (Int.ofNat 8).toNat (can .f32 1073741824) (ringX (Int.ofNat 8) (can .f32 1065353216)) (ringY (Int.ofNat 8) (can .f32 1065353216)) (fun _ => can .f32 0) = true := wire_ok
  unfold ringOk
  rw [h2, show above (can .f32 1065353216) = true by decide +kernel]; rfl
theorem flOk_val {p q r : Nat} {x y z u v w : Rat} (hp : Val .f32 p u) (hq : Val .f32 q v) (hr : Val .f32 r w) (hx : Val .f32 (fdX p q r) x) (hy : Val .f32 (fdY p q r) y) (hz : Val .f32 (fdZ p q r) z) : flOk 1 mwN mwX mwY mwZ mwB mwI p q r = true := by
  have h : fOkA 1 mwN mwX mwY mwZ mwB mwI p q r = true := vfin_val hx hy hz
  unfold flOk
  rw [are_ok, vfin_val hp hq hr, h]; rfl
theorem mG_val {m0 m1 m2 p q r : Nat} {a b c x y z u v w : Rat} (h0 : Val .f32 m0 a) (h1 : Val .f32 m1 b) (h2 : Val .f32 m2 c) (hp : Val .f32 p u) (hq : Val .f32 q v) (hr : Val .f32 r w) (hx : Val .f32 (fdX p q r) x) (hy : Val .f32 (fdY p q r) y) (hz : Val .f32 (fdZ p q r) z) : mG m0 m1 m2 p q r = true := by
  unfold mG fG
  rw [vfin_val h0 h1 h2, flOk_val hp hq hr hx hy hz]; rfl
/-- A moment and a field. -/
structure MF (m0 m1 m2 f0 f1 f2 : Nat) (a b c x y z : Rat) : Prop where
  m0 : Ap m0 a (2 * b1) 0
  m1 : Ap m1 b (2 * b1) 0
  m2 : Ap m2 c (2 * b1) 0
  f0 : Ap f0 x (2 * b1) 0
  f1 : Ap f1 y (2 * b1) 0
  f2 : Ap f2 z (2 * b1) 0
section
variable {m0 m1 m2 f0 f1 f2 : Nat} {a b c x y z : Rat} (h : MF m0 m1 m2 f0 f1 f2 a b c x y z)
include h
theorem MF.inn : Ap (inn m0 m1 m2 f0 f1 f2) (a * x + b * y + c * z) (13 * b1) 6597069766656 :=
  ((((h.m0.mul h.f0 (by decide +kernel)).add (h.m1.mul h.f1 (by decide +kernel)) (by decide +kernel)).add (h.m2.mul h.f2 (by decide +kernel)) (by decide +kernel)).weak (by decide +kernel) (by decide +kernel))
theorem MF.crX : Ap (crX m0 m1 m2 f0 f1 f2) (b * z - c * y) (9 * b1) 2199023255552 :=
  ((h.m1.mul h.f2 (by decide +kernel)).sub (h.m2.mul h.f1 (by decide +kernel)) (by decide +kernel)).weak (by decide +kernel) (by decide +kernel)
theorem MF.crY : Ap (crY m0 m1 m2 f0 f1 f2) (c * x - a * z) (9 * b1) 2199023255552 :=
  ((h.m2.mul h.f0 (by decide +kernel)).sub (h.m0.mul h.f2 (by decide +kernel)) (by decide +kernel)).weak (by decide +kernel) (by decide +kernel)
theorem MF.crZ : Ap (crZ m0 m1 m2 f0 f1 f2) (a * y - b * x) (9 * b1) 2199023255552 :=
  ((h.m0.mul h.f1 (by decide +kernel)).sub (h.m1.mul h.f0 (by decide +kernel)) (by decide +kernel)).weak (by decide +kernel) (by decide +kernel)
theorem MF.across {g0 g1 g2 : Nat} {u v w : Rat} (k0 : Ap g0 u (2 * b1) 0) (k1 : Ap g1 v (2 * b1) 0) (k2 : Ap g2 w (2 * b1) 0) (e : (b * z - c * y) * u + (c * x - a * z) * v + (a * y - b * x) * w = 0) :
    ∃ t, Val .f32 (Go.Fw.E1.inn (Go.Fw.E1.crX m0 m1 m2 f0 f1 f2) (Go.Fw.E1.crY m0 m1 m2 f0 f1 f2) (Go.Fw.E1.crZ m0 m1 m2 f0 f1 f2) g0 g1 g2) t ∧ Near t (scl 70368744177664) := by
  have := (((h.crX.mul k0 (by decide +kernel)).add (h.crY.mul k1 (by decide +kernel)) (by decide +kernel)).add (h.crZ.mul k2 (by decide +kernel)) (by decide +kernel)).weak (E' := 70368744177664) (Nat.le_refl _) (by decide +kernel)
  obtain ⟨t, h1, h2, _⟩ := this
  refine ⟨t, h1, ?_⟩
  rw [e] at h2
  unfold Near at *
  grind
end
theorem scl_46 : scl 70368744177664 + 1 / 2 ^ 50 < k001 := by decide +kernel
theorem scl_46' : scl 70368744177664 ≤ 1 := by decide +kernel
end Go.Fw.E1

/-
  The law of moments: what two moments do to one another.
-/
namespace Go.Fw.E1
open Go.Proofs
noncomputable def n1 : Nat := can .f32 3212836864
noncomputable def five : Nat := can .f32 1084227584
theorem n1_val : Val .f32 n1 (-1) := Val.of_vof (by decide +kernel)
theorem five_val : Val .f32 five 5 := Val.of_vof (by decide +kernel)
set_option maxRecDepth 100000 in
theorem neg_tab : allUpTo (fun j => (Nat.beq (fop .mul .f32 (fop .mul .f32 (qw j) n1) (fop .mul .f32 (qw j) n1)) (fop .mul .f32 (qw j) (qw j)) && isV .f32 (vof .f32 (fop .mul .f32 (qw j) n1)) (-(((Int.ofNat j - 8 : Int) : Rat) * (1 / 4)))) &&
    (Nat.beq (fop .mul .f32 (fop .mul .f32 (fop .add .f32 (qw j) five) n1) (fop .mul .f32 (fop .add .f32 (qw j) five) n1)) (fop .mul .f32 (fop .add .f32 (qw j) five) (fop .add .f32 (qw j) five)) && isV .f32 (vof .f32 (fop .mul .f32 (fop .add .f32 (qw j) five) n1)) (-(((Int.ofNat j + 12 : Int) : Rat) * (1 / 4))) && isV .f32 (vof .f32 (fop .add .f32 (qw j) five)) ((((Int.ofNat j + 12 : Int) : Rat) * (1 / 4))))) 17 = true := by decide +kernel
/-- A way, and the same gone back. -/
structure Wy (u v w : Nat) (x y z : Rat) : Prop where
  pu : Ap u x (7 * b1) 0
  pv : Ap v y (7 * b1) 0
  pw : Ap w z (7 * b1) 0
  nu : Ap (fop .mul .f32 u n1) (-x) (7 * b1) 0
  nv : Ap (fop .mul .f32 v n1) (-y) (7 * b1) 0
  nw : Ap (fop .mul .f32 w n1) (-z) (7 * b1) 0
  far : 3 ≤ y
  e : inn (fop .mul .f32 u n1) (fop .mul .f32 v n1) (fop .mul .f32 w n1) (fop .mul .f32 u n1) (fop .mul .f32 v n1) (fop .mul .f32 w n1) = inn u v w u v w
theorem q_near {z : Int} {n : Nat} (h : z.natAbs ≤ 4 * n) : Near ((z : Rat) * (1 / 4)) (scl (n * b1)) := by
  rw [scl_b1]
  have h1 : z ≤ ((4 * n : Nat) : Int) := by omega
  have h2 : -((4 * n : Nat) : Int) ≤ z := by omega
  have h1 := Rat.intCast_le_intCast.2 h1
  have h2 := Rat.intCast_le_intCast.2 h2
  rw [Rat.intCast_neg] at h2
  rw [Rat.intCast_natCast, Rat.natCast_mul] at h1 h2
  have q0 : (0 : Rat) ≤ 1 / 4 := by decide +kernel
  have h1 := Rat.mul_le_mul_of_nonneg_right h1 q0
  have h2 := Rat.mul_le_mul_of_nonneg_right h2 q0
  have e : ((4 : Nat) : Rat) * (n : Rat) * (1 / 4) = (n : Rat) := by
    have : ((4 : Nat) : Rat) * (1 / 4) = 1 := by decide +kernel
    rw [Rat.mul_comm ((4 : Nat) : Rat), Rat.mul_assoc, this, Rat.mul_one]
  rw [e] at h1
  rw [Rat.neg_mul, e] at h2
  exact ⟨h2, h1⟩
theorem wy_ok {i j k : Nat} (hi : i < 17) (hj : j < 17) (hk : k < 17) : Wy (qw i) (fop .add .f32 (qw j) five) (qw k) (((Int.ofNat i - 8 : Int) : Rat) * (1 / 4)) (((Int.ofNat j + 12 : Int) : Rat) * (1 / 4)) (((Int.ofNat k - 8 : Int) : Rat) * (1 / 4)) := by
  have ti := allUpTo_iff.1 neg_tab i hi
  have tj := allUpTo_iff.1 neg_tab j hj
  have tk := allUpTo_iff.1 neg_tab k hk
  simp only [Bool.and_eq_true] at ti tj tk
  have ni := q_near (z := Int.ofNat i - 8) (n := 7) (by simp; omega)
  have nj := q_near (z := Int.ofNat j + 12) (n := 7) (by simp; omega)
  have nk := q_near (z := Int.ofNat k - 8) (n := 7) (by simp; omega)
  refine ⟨.val (qw_qt hi) ni, .val (Val.of_vof tj.2.2) nj, .val (qw_qt hk) nk, .val (Val.of_vof ti.1.2) ni.neg, .val (Val.of_vof tj.2.1.2) nj.neg, .val (Val.of_vof tk.1.2) nk.neg, ?_, ?_⟩
  · have h : (12 : Int) ≤ Int.ofNat j + 12 := by simp; omega
    have h := Rat.intCast_le_intCast.2 h
    have := Rat.mul_le_mul_of_nonneg_right h (show (0 : Rat) ≤ 1 / 4 by decide +kernel)
    have e : ((12 : Int) : Rat) * (1 / 4) = 3 := by decide +kernel
    rw [e] at this
    exact this
  · unfold inn
    rw [Nat.eq_of_beq_eq_true ti.1.1, Nat.eq_of_beq_eq_true tj.2.1.1, Nat.eq_of_beq_eq_true tk.1.1]
noncomputable def roQ (u v w : Nat) : Nat := fop .quo .f32 (can .f32 1065353216) (root32 (inn u v w u v w))
theorem one_val : Val .f32 (can .f32 1065353216) 1 := Val.of_vof (by decide +kernel)
theorem three_val : Val .f32 (can .f32 1077936128) 3 := Val.of_vof (by decide +kernel)
theorem div_near {a b L : Rat} (ha : 0 ≤ a) (hL : 0 < L) (hb : L ≤ b) : Near (a / b) (a / L) := by
  have hb0 : 0 < b := by grind
  have e1 : a / b * b = a := Rat.div_mul_cancel (by grind)
  have e2 : a / L * L = a := Rat.div_mul_cancel (by grind)
  have p : 0 ≤ a / b := by
    by_cases h : 0 ≤ a / b
    · exact h
    · have := Rat.mul_lt_mul_of_pos_right (show a / b < 0 by grind) hb0
      grind
  have q : a / b ≤ a / L := by
    refine Rat.le_of_mul_le_mul_right (c := L) ?_ hL
    have := Rat.mul_le_mul_of_nonneg_left hb p
    grind
  unfold Near
  constructor <;> grind
section
variable {u v w : Nat} {x y z : Rat} (h : Wy u v w x y z)
include h
theorem Wy.sq : 9 ≤ x * x + y * y + z * z ∧ x * x + y * y + z * z ≤ 147 := by
  have h1 := sqn x
  have h2 := sqn z
  have h3 := sq_mono (show (0 : Rat) ≤ 3 by decide) h.far
  obtain ⟨_, _, _, k1⟩ := h.pu
  obtain ⟨_, _, _, k2⟩ := h.pv
  obtain ⟨_, _, _, k3⟩ := h.pw
  rw [scl_b1] at k1 k2 k3
  have k1 := k1.mul k1
  have k2 := k2.mul k2
  have k3 := k3.mul k3
  have e : ((7 : Nat) : Rat) * ((7 : Nat) : Rat) = 49 := by decide +kernel
  rw [e] at k1 k2 k3
  unfold Near at k1 k2 k3
  constructor <;> grind
theorem Wy.root : ∃ r, Ap (roQ u v w) r 403533026912403456 0 := by
  obtain ⟨s1, s2⟩ := h.sq
  obtain ⟨_, a1, _, _⟩ := h.pu.self
  obtain ⟨hu, hv, hw⟩ := And.intro h.pu (And.intro h.pv h.pw)
  have vu : Val .f32 u x := by
    obtain ⟨a, k1, k2, _⟩ := hu
    have : a = x := by
      have e0 : scl 0 = 0 := by decide +kernel
      rw [e0] at k2; unfold Near at k2; grind
    exact this ▸ k1
  have vv : Val .f32 v y := by
    obtain ⟨a, k1, k2, _⟩ := hv
    have : a = y := by
      have e0 : scl 0 = 0 := by decide +kernel
      rw [e0] at k2; unfold Near at k2; grind
    exact this ▸ k1
  have vw : Val .f32 w z := by
    obtain ⟨a, k1, k2, _⟩ := hw
    have : a = z := by
      have e0 : scl 0 = 0 := by decide +kernel
      rw [e0] at k2; unfold Near at k2; grind
    exact this ▸ k1
  obtain ⟨l, l1, l2, l3⟩ := long_val vu vv vw rfl (by
    have : (147 * 4 : Rat) ≤ most := by decide +kernel
    grind)
  have he : e22 * 1024 ≤ 1 := by decide +kernel
  have hep := e22_pos
  have sm := small_mul (show 0 ≤ x * x + y * y + z * z by grind) hep he
  have ht : tiny .f32 * 1024 ≤ 1 := by decide +kernel
  have hl : 29 / 10 ≤ l := by
    refine le_of_sq l2 ?_
    have : (29 / 10 : Rat) * (29 / 10) ≤ 85 / 10 := by decide +kernel
    have k : (85 / 10 : Rat) = 8 + 1 / 2 := by decide +kernel
    have k2 : (1 / 2 : Rat) + 1 / 2 = 1 := by decide +kernel
    unfold Near at l3
    grind
  have hl0 : (0 : Rat) < 29 / 10 := by decide +kernel
  have hn := div_near (a := 1) (by decide) hl0 hl
  obtain ⟨c, c1, c2⟩ := one_val.quo l1 (show l ≠ 0 by grind) hn (by decide +kernel)
  refine ⟨c, .val c1 ?_⟩
  have k1 : (1 : Rat) / (29 / 10) + (1 / (29 / 10) * ur .f32 + tiny .f32) ≤ scl 403533026912403456 := by decide +kernel
  unfold Near at *
  constructor <;> grind
theorem Wy.fac : ∃ f, Ap (mmF u v w) f 72057594037927936 0 := by
  obtain ⟨s1, s2⟩ := h.sq
  have q := (((h.pu.mul h.pu (by decide +kernel)).add (h.pv.mul h.pv (by decide +kernel)) (by decide +kernel)).add (h.pw.mul h.pw (by decide +kernel)) (by decide +kernel)).weak (B' := 148 * b1) (E' := 2 ^ 47) (by decide +kernel) (by decide +kernel)
  obtain ⟨i, i1, i2, i3⟩ := q.out
  have i1 : Val .f32 (inn u v w u v w) i := i1
  have k : scl (2 ^ 47) ≤ 1 / 10 := by decide +kernel
  have t1 : (1 / 10 : Rat) + 1 / 10 + 1 / 10 + 1 / 10 + 1 / 10 + 1 / 10 + 1 / 10 + 1 / 10 + 1 / 10 + 1 / 10 = 1 := by decide +kernel
  have hi : 8 ≤ i := by unfold Near at i2; grind
  have hs := sq_mono (show (0 : Rat) ≤ 8 by decide) hi
  have k3 : scl (148 * b1 + 2 ^ 47) ≤ 149 := by decide +kernel
  have hi2 : i ≤ 149 := by unfold Near at i3; grind
  have hs2 := sq_mono (show 0 ≤ i by grind) hi2
  obtain ⟨g, g1, g2, g3⟩ := i1.sq (by
    have : (149 * 149 : Rat) ≤ most := by decide +kernel
    grind)
  have hu2 := small_mul (show 0 ≤ i * i by grind) (ur_pos .f32) ur32_small
  have ht : tiny .f32 * 1024 ≤ 1 := by decide +kernel
  have hg : 60 ≤ g := by unfold Near at g3; grind
  have hn := div_near (a := 3) (by decide) (show (0 : Rat) < 60 by decide) hg
  obtain ⟨c, c1, c2⟩ := three_val.quo g1 (show g ≠ 0 by grind) hn (by decide +kernel)
  refine ⟨c, .val c1 ?_⟩
  have k1 : (3 : Rat) / 60 + (3 / 60 * ur .f32 + tiny .f32) ≤ scl 72057594037927936 := by decide +kernel
  unfold Near at *
  constructor <;> grind
end
/-- A number of the force. -/
theorem mmC_ap {b a e x y z f : Nat} {vb va ve vx vy vz vf : Rat} (hb : Ap b vb (2 * b1) 0) (ha : Ap a va (2 * b1) 0) (he : Ap e ve 2882303761517117000 168400000000) (hx : Ap x vx (15 * b1) 3810000000000) (hy : Ap y vy (15 * b1) 3810000000000) (hz : Ap z vz (13 * b1) 2300000000000) (hf : Ap f vf 72057594037927936 0) :
    Ap (mmC b a e x y z f) ((vb * vx + va * vy + ve * vz + ve * (-(5 * vx * vy))) * vf) (200 * b1) 165000000000000 :=
  have h5 : Ap (can .f32 1084227584) 5 (5 * b1) 0 := .val five_val (by rw [scl_b1]; unfold Near; decide +kernel)
  ((((((hb.mul hx (by decide +kernel)).add (ha.mul hy (by decide +kernel)) (by decide +kernel)).add (he.mul hz (by decide +kernel)) (by decide +kernel)).add (he.mul (((h5.mul hx (by decide +kernel)).mul hy (by decide +kernel)).neg) (by decide +kernel)) (by decide +kernel)).mul hf (by decide +kernel)).weak (by decide +kernel) (by decide +kernel))
theorem mmE_ap {p q r e : Nat} {x ro : Rat} (he : Ap e x (7 * b1) 0) (hr : Ap (roQ p q r) ro 403533026912403456 0) : Ap (mmE p q r e) (x * ro) 2882303761517117000 168400000000 :=
  (he.mul hr (by decide +kernel)).weak (by decide +kernel) (by decide +kernel)
theorem inn_ap {a b c x y z : Nat} {va vb vc vx vy vz : Rat} (ha : Ap a va (2 * b1) 0) (hb : Ap b vb (2 * b1) 0) (hc : Ap c vc (2 * b1) 0) (hx : Ap x vx 2882303761517117000 168400000000) (hy : Ap y vy 2882303761517117000 168400000000) (hz : Ap z vz 2882303761517117000 168400000000) : Ap (inn a b c x y z) (va * vx + vb * vy + vc * vz) (15 * b1) 3810000000000 :=
  (((ha.mul hx (by decide +kernel)).add (hb.mul hy (by decide +kernel)) (by decide +kernel)).add (hc.mul hz (by decide +kernel)) (by decide +kernel)).weak (by decide +kernel) (by decide +kernel)
theorem inn2_ap {a b c x y z : Nat} {va vb vc vx vy vz : Rat} (ha : Ap a va (2 * b1) 0) (hb : Ap b vb (2 * b1) 0) (hc : Ap c vc (2 * b1) 0) (hx : Ap x vx (2 * b1) 0) (hy : Ap y vy (2 * b1) 0) (hz : Ap z vz (2 * b1) 0) : Ap (inn a b c x y z) (va * vx + vb * vy + vc * vz) (13 * b1) 2300000000000 :=
  (((ha.mul hx (by decide +kernel)).add (hb.mul hy (by decide +kernel)) (by decide +kernel)).add (hc.mul hz (by decide +kernel)) (by decide +kernel)).weak (by decide +kernel) (by decide +kernel)
/-- Both forces' number together. -/
theorem both_ap {f g : Nat} {X : Rat} (hf : Ap f X (200 * b1) 165000000000000) (hg : Ap g (-X) (200 * b1) 165000000000000) : ∃ d, Val .f32 (fop .sub .f32 f (fop .mul .f32 g n1)) d ∧ Near d (scl 400000000000000) := by
  have hn : Ap n1 (-1) b1 0 := .val n1_val (by rw [show b1 = 1 * b1 by decide, scl_b1]; unfold Near; decide +kernel)
  obtain ⟨d, d1, d2, _⟩ := (hf.sub (hg.mul hn (by decide +kernel)) (by decide +kernel)).weak (E' := 400000000000000) (Nat.le_refl _) (by decide +kernel)
  refine ⟨d, d1, ?_⟩
  have e : X - -X * -1 = 0 := by grind
  rw [e] at d2
  unfold Near at *
  grind
theorem scl_400 : scl 400000000000000 ≤ 1 ∧ 2 * scl 400000000000000 + 1 / 2 ^ 50 < k001 := by decide +kernel
theorem R7e_ok {m0 m1 m2 o0 o1 o2 u v w : Nat} {a b c x y z p q r : Rat} (h0 : Ap m0 a (2 * b1) 0) (h1 : Ap m1 b (2 * b1) 0) (h2 : Ap m2 c (2 * b1) 0) (k0 : Ap o0 x (2 * b1) 0) (k1 : Ap o1 y (2 * b1) 0) (k2 : Ap o2 z (2 * b1) 0) (hw : Wy u v w p q r) :
    C7w m0 m1 m2 o0 o1 o2 u v w = true ∧ R7e m0 m1 m2 o0 o1 o2 u v w = true := by
  obtain ⟨ro, hr⟩ := hw.root
  obtain ⟨f, hf⟩ := hw.fac
  have hr' : Ap (roQ (fop .mul .f32 u n1) (fop .mul .f32 v n1) (fop .mul .f32 w n1)) ro 403533026912403456 0 := by
    unfold roQ
    rw [hw.e]; exact hr
  have hf' : Ap (mmF (fop .mul .f32 u n1) (fop .mul .f32 v n1) (fop .mul .f32 w n1)) f 72057594037927936 0 := by
    unfold mmF
    rw [hw.e]; exact hf
  have e0 := mmE_ap hw.pu hr
  have e1 := mmE_ap hw.pv hr
  have e2 := mmE_ap hw.pw hr
  have g0 := mmE_ap hw.nu hr'
  have g1 := mmE_ap hw.nv hr'
  have g2 := mmE_ap hw.nw hr'
  have xm : Ap (mmX m0 m1 m2 u v w) _ (15 * b1) 3810000000000 := inn_ap h0 h1 h2 e0 e1 e2
  have xo : Ap (mmX o0 o1 o2 u v w) _ (15 * b1) 3810000000000 := inn_ap k0 k1 k2 e0 e1 e2
  have ym : Ap (mmX m0 m1 m2 (fop .mul .f32 u n1) (fop .mul .f32 v n1) (fop .mul .f32 w n1)) _ (15 * b1) 3810000000000 := inn_ap h0 h1 h2 g0 g1 g2
  have yo : Ap (mmX o0 o1 o2 (fop .mul .f32 u n1) (fop .mul .f32 v n1) (fop .mul .f32 w n1)) _ (15 * b1) 3810000000000 := inn_ap k0 k1 k2 g0 g1 g2
  have zm := inn2_ap h0 h1 h2 k0 k1 k2
  have zo := inn2_ap k0 k1 k2 h0 h1 h2
  have A0 := mmC_ap k0 h0 e0 xm xo zm hf
  have A1 := mmC_ap k1 h1 e1 xm xo zm hf
  have A2 := mmC_ap k2 h2 e2 xm xo zm hf
  have B0 := mmC_ap h0 k0 g0 yo ym zo hf'
  have B1 := mmC_ap h1 k1 g1 yo ym zo hf'
  have B2 := mmC_ap h2 k2 g2 yo ym zo hf'
  obtain ⟨d0, D0, N0⟩ := both_ap A0 (B0.congr (by grind))
  obtain ⟨d1, D1, N1⟩ := both_ap A1 (B1.congr (by grind))
  obtain ⟨d2, D2, N2⟩ := both_ap A2 (B2.congr (by grind))
  obtain ⟨l, L1, L2, L3⟩ := long_near D0 D1 D2 N0 N1 N2 scl_400.1
  obtain ⟨_, va0⟩ := A0.valE
  obtain ⟨_, va1⟩ := A1.valE
  obtain ⟨_, va2⟩ := A2.valE
  obtain ⟨_, vb0⟩ := B0.valE
  obtain ⟨_, vb1⟩ := B1.valE
  obtain ⟨_, vb2⟩ := B2.valE
  obtain ⟨_, w0⟩ := h0.valE
  obtain ⟨_, w1⟩ := h1.valE
  obtain ⟨_, w2⟩ := h2.valE
  obtain ⟨_, w3⟩ := k0.valE
  obtain ⟨_, w4⟩ := k1.valE
  obtain ⟨_, w5⟩ := k2.valE
  obtain ⟨_, w6⟩ := hw.pu.valE
  obtain ⟨_, w7⟩ := hw.pv.valE
  obtain ⟨_, w8⟩ := hw.pw.valE
  obtain ⟨_, w9⟩ := hw.nu.valE
  obtain ⟨_, w10⟩ := hw.nv.valE
  obtain ⟨_, w11⟩ := hw.nw.valE
  constructor
  · have c1 : mmOk m0 m1 m2 o0 o1 o2 u v w = true := by
      unfold mmOk
      rw [vfin_val w0 w1 w2, vfin_val w3 w4 w5, vfin_val w6 w7 w8, vfin_val va0 va1 va2]; rfl
    have c2 : mmOk o0 o1 o2 m0 m1 m2 (fop .mul .f32 u n1) (fop .mul .f32 v n1) (fop .mul .f32 w n1) = true := by
      unfold mmOk
      rw [vfin_val w0 w1 w2, vfin_val w3 w4 w5, vfin_val w9 w10 w11, vfin_val vb0 vb1 vb2]; rfl
    unfold C7w
    unfold n1 at c2
    rw [c1, c2]; rfl
  · unfold R7e
    have hl := forder_lt (Val.widen L1) k001_val (by have := scl_400.2; grind)
    unfold n1 at hl
    rw [hl]; rfl
end Go.Fw.E1

/-
  The law of moments.
-/
namespace Go.Fw.E1
open Go.Proofs
theorem q4_qt : Qt q4 1 := Val.of_vof (by decide +kernel)
theorem four_qt : Qt (can .f32 1082130432) 16 := Val.of_vof (by decide +kernel)
theorem nil_qt : Qt 0 0 := Val.of_vof (by decide +kernel)
theorem q4_up : above q4 = true := by decide +kernel
theorem qt_to {w : Nat} {a b : Int} (h : Qt w a) (e : a = b) : Qt w b := e ▸ h
theorem mI_eq (m0 m1 m2 p q r : Nat) : mI m0 m1 m2 p q r = inn m0 m1 m2 (fdX p q r) (fdY p q r) (fdZ p q r) := rfl
theorem gap_same {x y K : Nat} {a k : Rat} (hx : Val .f64 x a) (hy : Val .f64 y a) (hK : Val .f64 K k) (hk : 1 / 2 ^ 50 < k) : (forder .f64 (gap8 x y) K == some .lt) = true :=
  gap_lt hx hy (t := 0) (by unfold Near; constructor <;> grind) hK (by decide) (by grind)
theorem k001_big : (1 : Rat) / 2 ^ 50 < k001 := by decide +kernel
theorem half_val : Val .f32 (fop .mul .f32 (can .f32 1073741824) q4) (1 / 2) := Val.of_vof (by decide +kernel)
theorem two64 : Val .f64 (can .f64 4611686018427387904) 2 := Val.of_vof (by decide +kernel)
/-- How the energy changes, told twice. -/
theorem fall {i j : Nat} {a b : Rat} {B E : Nat} (hi : Ap i a (13 * b1) 6597069766656) (hj : Ap j b (13 * b1) 6597069766656) (_ : B = E) :
    (∃ c, Val .f32 (fop .quo .f32 (fop .sub .f32 i j) (fop .mul .f32 (can .f32 1073741824) q4)) c) ∧
    (forder .f64 (gap8 (fcvt .f32 .f64 (fop .quo .f32 (fop .sub .f32 i j) (fop .mul .f32 (can .f32 1073741824) q4))) (fop .mul .f64 (fop .sub .f64 (fcvt .f32 .f64 (fneg .f32 j)) (fcvt .f32 .f64 (fneg .f32 i))) (can .f64 4611686018427387904))) (can .f64 4562254508917369340) == some .lt) = true := by
  obtain ⟨x, x1, _, x3⟩ := hi.out
  obtain ⟨y, y1, _, y3⟩ := hj.out
  have k : scl (13 * b1 + 6597069766656) ≤ 14 := by decide +kernel
  have x3 := x3.mono k
  have y3 := y3.mono k
  have hd := (x3.sub y3)
  have e28 : (14 : Rat) + 14 = 28 := by decide +kernel
  rw [e28] at hd
  obtain ⟨s, s1, s2⟩ := x1.sub y1 hd (by decide +kernel)
  have hs : Near s 29 := by
    have : (28 : Rat) * ur .f32 + tiny .f32 ≤ 1 := by decide +kernel
    unfold Near at *; constructor <;> grind
  have h2 : s / (1 / 2) * (1 / 2) = s := Rat.div_mul_cancel (by decide +kernel)
  have hh : (1 / 2 : Rat) + 1 / 2 = 1 := by decide +kernel
  have hq : s / (1 / 2) = s + s := by
    have : s / (1 / 2) * (1 / 2) + s / (1 / 2) * (1 / 2) = s / (1 / 2) := by rw [← Rat.mul_add, hh, Rat.mul_one]
    rw [← this, h2]
  have hss := hs.add hs
  rw [← hq] at hss
  have e58 : (29 : Rat) + 29 = 58 := by decide +kernel
  rw [e58] at hss
  obtain ⟨c, c1, c2⟩ := s1.quo half_val (by decide +kernel) hss (by decide +kernel)
  refine ⟨⟨c, c1⟩, ?_⟩
  have hd2 : Near (-y - -x) 28 := by
    have : -y - -x = x - y := by grind
    rw [this]; exact hd
  obtain ⟨d, d1, d2⟩ := y1.neg.widen.sub x1.neg.widen hd2 (by decide +kernel)
  have hdd : Near (d * 2) 58 := by
    have : (28 : Rat) * ur .f64 + tiny .f64 ≤ 1 := by decide +kernel
    unfold Near at *; constructor <;> grind
  obtain ⟨g, g1, g2⟩ := d1.mul two64 hdd (by decide +kernel)
  rw [hq] at c2
  have m1 : (28 : Rat) * ur .f32 + tiny .f32 + (28 * ur .f32 + tiny .f32) + (58 * ur .f32 + tiny .f32) + (28 * ur .f64 + tiny .f64 + (28 * ur .f64 + tiny .f64)) + (58 * ur .f64 + tiny .f64) ≤ 1 / 65536 := by decide +kernel
  refine gap_lt c1.widen g1 (t := 1 / 65536) ?_ k001_val (by decide +kernel) (by decide +kernel)
  unfold Near at *
  constructor <;> grind
theorem at_ok {m0 m1 m2 p q r i j k : Nat} {a b c : Rat} (h0 : Ap m0 a (2 * b1) 0) (h1 : Ap m1 b (2 * b1) 0) (h2 : Ap m2 c (2 * b1) 0) (hi : i < 19) (hj : j < 19) (hk : k < 19) (hp : Qt p (Int.ofNat i - 9)) (hq : Qt q (Int.ofNat j - 9)) (hr : Qt r (Int.ofNat k + 7)) :
    ∃ x y z, MF m0 m1 m2 (fdX p q r) (fdY p q r) (fdZ p q r) a b c x y z ∧ flOk 1 mwN mwX mwY mwZ mwB mwI p q r = true ∧ mG m0 m1 m2 p q r = true ∧ fin (fneg .f32 (mI m0 m1 m2 p q r)) = true := by
  obtain ⟨x, y, z, hx, hy, hz⟩ := field_ap hi hj hk hp hq hr
  obtain ⟨_, vx⟩ := hx.valE
  obtain ⟨_, vy⟩ := hy.valE
  obtain ⟨_, vz⟩ := hz.valE
  obtain ⟨_, v0⟩ := h0.valE
  obtain ⟨_, v1⟩ := h1.valE
  obtain ⟨_, v2⟩ := h2.valE
  have mf : MF m0 m1 m2 (fdX p q r) (fdY p q r) (fdZ p q r) a b c x y z := ⟨h0, h1, h2, hx, hy, hz⟩
  obtain ⟨_, vi⟩ := mf.inn.neg.valE
  exact ⟨x, y, z, mf, flOk_val hp hq hr vx vy vz, mG_val v0 v1 v2 hp hq hr vx vy vz, fin_val vi⟩
theorem place7 {m0 m1 m2 p q r i j k : Nat} {a b c : Rat} (h0 : Ap m0 a (2 * b1) 0) (h1 : Ap m1 b (2 * b1) 0) (h2 : Ap m2 c (2 * b1) 0) (hi : i < 17) (hj : j < 17) (hk : k < 17) (hp : Qt p (Int.ofNat i - 8)) (hq : Qt q (Int.ofNat j - 8)) (hr : Qt r (Int.ofNat k + 8)) :
    C7p m0 m1 m2 p q r true = true ∧ R7a m0 m1 m2 p q r = true ∧ R7b m0 m1 m2 p q r = true ∧ R7c m0 m1 m2 p q r = true ∧ R7d m0 m1 m2 p q r = true := by
  have aI : ∀ {w : Nat} {z : Int} (n : Nat), Qt w z → z = Int.ofNat n - 9 → Qt w (Int.ofNat n - 9) := fun n h e => qt_to h e
  have aK : ∀ {w : Nat} {z : Int} (n : Nat), Qt w z → z = Int.ofNat n + 7 → Qt w (Int.ofNat n + 7) := fun n h e => qt_to h e
  have p0 := aI (i + 1) hp (by simp; omega)
  have q0 := aI (j + 1) hq (by simp; omega)
  have r0 := aK (k + 1) hr (by simp; omega)
  have bi : ((i : Int) - 8).natAbs ≤ 8 := by omega
  have pP := aI (i + 2) (hp.add q4_qt (by simp; omega)) (by simp; omega)
  have pM := aI i (hp.sub q4_qt (by simp; omega)) (by simp; omega)
  have qP := aI (j + 2) (hq.add q4_qt (by simp; omega)) (by simp; omega)
  have qM := aI j (hq.sub q4_qt (by simp; omega)) (by simp; omega)
  have rP := aK (k + 2) (hr.add q4_qt (by simp; omega)) (by simp; omega)
  have rM := aK k (hr.sub q4_qt (by simp; omega)) (by simp; omega)
  have p1 := aI (i + 1) (hp.add nil_qt (by simp; omega)) (by simp; omega)
  have p2 := aI (i + 1) (hp.sub nil_qt (by simp; omega)) (by simp; omega)
  have q1 := aI (j + 1) (hq.add nil_qt (by simp; omega)) (by simp; omega)
  have q2 := aI (j + 1) (hq.sub nil_qt (by simp; omega)) (by simp; omega)
  have r1 := aK (k + 1) (hr.add nil_qt (by simp; omega)) (by simp; omega)
  have r2 := aK (k + 1) (hr.sub nil_qt (by simp; omega)) (by simp; omega)
  obtain ⟨x, y, z, M, F1, F2, F3⟩ := at_ok h0 h1 h2 (by omega) (by omega) (by omega) p0 q0 r0
  obtain ⟨_, _, _, MXP, _, G1, I1⟩ := at_ok h0 h1 h2 (by omega) (by omega) (by omega) pP q1 r1
  obtain ⟨_, _, _, MXM, _, G2, I2⟩ := at_ok h0 h1 h2 (by omega) (by omega) (by omega) pM q2 r2
  obtain ⟨_, _, _, MYP, _, G3, _⟩ := at_ok h0 h1 h2 (by omega) (by omega) (by omega) p1 qP r1
  obtain ⟨_, _, _, MYM, _, G4, _⟩ := at_ok h0 h1 h2 (by omega) (by omega) (by omega) p2 qM r2
  obtain ⟨_, _, _, MZP, _, G5, _⟩ := at_ok h0 h1 h2 (by omega) (by omega) (by omega) p1 q1 rP
  obtain ⟨_, _, _, MZM, _, G6, _⟩ := at_ok h0 h1 h2 (by omega) (by omega) (by omega) p2 q2 rM
  obtain ⟨⟨_, D1⟩, W⟩ := fall (B := 0) MXP.inn MXM.inn rfl
  obtain ⟨⟨_, D2⟩, _⟩ := fall (B := 0) MYP.inn MYM.inn rfl
  obtain ⟨⟨_, D3⟩, _⟩ := fall (B := 0) MZP.inn MZM.inn rfl
  have D1' : Val .f32 (mfD m0 m1 m2 1 mwN mwX mwY mwZ mwB mwI (fop .add .f32 p q4) (fop .add .f32 q 0) (fop .add .f32 r 0) (fop .sub .f32 p q4) (fop .sub .f32 q 0) (fop .sub .f32 r 0) q4) _ := D1
  have D2' : Val .f32 (mfD m0 m1 m2 1 mwN mwX mwY mwZ mwB mwI (fop .add .f32 p 0) (fop .add .f32 q q4) (fop .add .f32 r 0) (fop .sub .f32 p 0) (fop .sub .f32 q q4) (fop .sub .f32 r 0) q4) _ := D2
  have D3' : Val .f32 (mfD m0 m1 m2 1 mwN mwX mwY mwZ mwB mwI (fop .add .f32 p 0) (fop .add .f32 q 0) (fop .add .f32 r q4) (fop .sub .f32 p 0) (fop .sub .f32 q 0) (fop .sub .f32 r q4) q4) _ := D3
  obtain ⟨t1, T1, N1⟩ := M.across h0 h1 h2 (by grind)
  obtain ⟨t2, T2, N2⟩ := M.across M.f0 M.f1 M.f2 (by grind)
  obtain ⟨i0, I0⟩ := M.inn.valE
  obtain ⟨_, X1⟩ := M.crX.valE
  obtain ⟨_, X2⟩ := M.crY.valE
  obtain ⟨_, X3⟩ := M.crZ.valE
  have sub0 : ∀ t : Rat, Near t (scl 70368744177664) → Near (t - 0) (scl 70368744177664) := fun t h => by
    have : t - 0 = t := by grind
    rw [this]; exact h
  refine ⟨?_, ?_, ?_, ?_, ?_⟩
  · have k2 : mfOk m0 m1 m2 1 mwN mwX mwY mwZ mwB mwI p q r q4 = true := by
      have E : ∀ u v w : Nat, fG m0 m1 m2 1 mwN mwX mwY mwZ mwB mwI u v w = mG m0 m1 m2 u v w := fun _ _ _ => rfl
      unfold mfOk
      rw [E, E, E, E, E, E, q4_up, vfin_val hp hq hr, G1, G2, G3, G4, G5, G6, vfin_val D1' D2' D3']; rfl
    unfold C7p
    rw [F1, F2, vfin_val X1 X2 X3, F3, k2, G1, I1, G2, I2]; rfl
  · exact gap_lt T1.widen zero64 (sub0 _ N1) k001_val scl_46' scl_46
  · exact gap_lt T2.widen zero64 (sub0 _ N2) k001_val scl_46' scl_46
  · exact gap_same (Val.widen I0.neg) (Val.neg (Val.widen I0)) k001_val k001_big
  · exact W
theorem u8_all {la : Nat} {b : Nat → Nat} (hb : ∀ i, b i < 256) : allUpTo (isU8 (gB b)) la = true := allUpTo_iff.2 fun i _ => by
  show (decide (0 ≤ Int.ofNat (b i)) && decide (Int.ofNat (b i) < 256)) = true
  have := hb i
  rw [decide_eq_true (show 0 ≤ Int.ofNat (b i) from Int.natCast_nonneg _), decide_eq_true (show Int.ofNat (b i) < 256 by simp; omega)]; rfl
theorem C7p_and (m0 m1 m2 p q r : Nat) (x : Bool) (h : C7p m0 m1 m2 p q r true = true) (hx : x = true) : C7p m0 m1 m2 p q r x = true := by subst hx; exact h
theorem law7 {la lc : Nat} {b c : Nat → Nat} (hb : ∀ i, b i < 256) (hc : ∀ i, c i < 256) : PureCall Try.prog 7 [.ro 1 la (.gen fun i => .int .u8 (Int.ofNat (b i))), .ro 1 lc (.gen fun i => .int .u8 (Int.ofNat (c i)))] (.bool true) := by
  by_cases h : la ≤ 48 ∧ lc ≤ 48
  · obtain ⟨j0, J0, E0⟩ := r8c_ex (la := la) hb 0 (k := 0) (by omega)
    obtain ⟨j1, J1, E1⟩ := r8c_ex (la := la) hb 0 (k := 1) (by omega)
    obtain ⟨j2, J2, E2⟩ := r8c_ex (la := la) hb 0 (k := 2) (by omega)
    obtain ⟨j3, J3, E3⟩ := r8c_ex (la := la) hb 3 (k := 0) (by omega)
    obtain ⟨j4, J4, E4⟩ := r8c_ex (la := la) hb 3 (k := 1) (by omega)
    obtain ⟨j5, J5, E5⟩ := r8c_ex (la := la) hb 3 (k := 2) (by omega)
    obtain ⟨i0, I0, A0⟩ := r8c_ex (la := lc) hc 0 (k := 0) (by omega)
    obtain ⟨i1, I1, A1⟩ := r8c_ex (la := lc) hc 0 (k := 1) (by omega)
    obtain ⟨i2, I2, A2⟩ := r8c_ex (la := lc) hc 0 (k := 2) (by omega)
    obtain ⟨i3, I3, A3⟩ := r8c_ex (la := lc) hc 3 (k := 0) (by omega)
    obtain ⟨i4, I4, A4⟩ := r8c_ex (la := lc) hc 3 (k := 1) (by omega)
    obtain ⟨i5, I5, A5⟩ := r8c_ex (la := lc) hc 3 (k := 2) (by omega)
    have W := walk7 la b lc c
    have ap : ∀ j, j < 17 → Ap (qw j) _ (2 * b1) 0 := fun j hj => .val (qw_qt hj) (q_near (z := Int.ofNat j - 8) (n := 2) (by simp; omega))
    obtain ⟨K1, K2, K3, K4, K5⟩ := place7 (ap _ J0) (ap _ J1) (ap _ J2) I0 I1 I2 (qw_qt I0) (qw_qt I1) (qt_to (b := Int.ofNat i2 + 8) ((qw_qt I2).add four_qt (by simp; omega)) (by simp; omega))
    obtain ⟨K6, K7⟩ := R7e_ok (ap _ J0) (ap _ J1) (ap _ J2) (ap _ J3) (ap _ J4) (ap _ J5) (wy_ok I3 I4 I5)
    rw [E0, E1, E2, E3, E4, E5, A0, A1, A2, A3, A4, A5] at W
    have hR : R7 (qw j0) (qw j1) (qw j2) (qw j3) (qw j4) (qw j5) (qw i0) (qw i1) (fop .add .f32 (qw i2) (can .f32 1082130432)) (qw i3) (fop .add .f32 (qw i4) (can .f32 1084227584)) (qw i5) = true := by
      unfold R7
      unfold five at K7
      rw [K2, K3, K4, K5, K7]; rfl
    rw [hR] at W
    refine autoW_ok cfgD2_ok Try.func7 (by kernel_rfl) (lp_none _) W ?_
    unfold C7
    rw [E0, E1, E2, E3, E4, E5, A0, A1, A2, A3, A4, A5, u8_all hb, u8_all hc, ring_is]
    unfold five at K6
    rw [K6, show (true && true) = true from rfl, K1, decide_eq_false (show ¬ Int.ofNat la > 48 by simp; omega), decide_eq_false (show ¬ Int.ofNat lc > 48 by simp; omega)]; rfl
  · refine autoW_ok cfgD2_ok Try.func7 (by kernel_rfl) (lp_none _) (long7 la b lc c) ?_
    by_cases h1 : la ≤ 48
    · rw [decide_eq_false (show ¬ Int.ofNat la > 48 by simp; omega), decide_eq_true (show Int.ofNat lc > 48 by simp; omega)]; rfl
    · rw [decide_eq_true (show Int.ofNat la > 48 by simp; omega)]; rfl
end Go.Fw.E1
