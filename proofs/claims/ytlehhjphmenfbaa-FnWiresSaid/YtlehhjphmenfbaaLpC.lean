/-
  Wires that are scaled.
-/
import Derived.Test.YtlehhjphmenfbaaLpB
import Derived.Test.YtlehhjphmenfbaaLpA
import Derived.Test.YtlehhjphmenfbaaFwD

namespace Go.Fw.E1
open Go.Proofs
theorem auto98c (x y z a : Nat) : autoLp cfg35 (fun _ => none) Try.f98 [.agg [.flt .f32 x, .flt .f32 y, .flt .f32 z], .rop (.agg [.flt .f32 a]) 0] =
    some (true, A.agg [A.flt FloatKind.f32 (fop BinOp.mul FloatKind.f32 x a), A.flt FloatKind.f32 (fop BinOp.mul FloatKind.f32 y a), A.flt FloatKind.f32 (fop BinOp.mul FloatKind.f32 z a)]) := by kernel_rfl
noncomputable def s98c : List A → Option (Bool × A)
  | [.agg [.flt .f32 x, .flt .f32 y, .flt .f32 z], .rop (.agg [.flt .f32 a]) 0] => some (true, .agg [.flt .f32 (fop .mul .f32 x a), .flt .f32 (fop .mul .f32 y a), .flt .f32 (fop .mul .f32 z a)])
  | _ => none
theorem s98c_at : EnvAt Try.prog 98 s98c := of_auto cfg35_ok (lp_none _) Try.func98 (by kernel_rfl) (by kernel_rfl) fun ds cc rr h hc => by
  unfold s98c at h
  split at h
  · rename_i x y z a
    simp only [Option.some.injEq, Prod.mk.injEq] at h
    obtain ⟨rfl, rfl⟩ := h
    refine auto_fit (auto98c x y z a) ?_ ?_
    · rfl
    · rfl
  · cases h
noncomputable def env41k : List (Nat × (List A → Option (Bool × A))) := (98, s98c) :: env35
theorem env41k_ok : EnvOK Try.prog (look env41k) := (env_cons s98c_at env35_ok)
noncomputable def cfgKN : Cfg := mkCfg (nilTab tab) fts75 xts (look env41k)
theorem cfgKN_ok : CfgOK Try.prog cfgKN := cfgN_ok' tab_eq fts75_ok xts_ok env41k_ok mixed
noncomputable def scX (a : Nat) (x : Nat → Nat) (p : Nat) : Nat := fop .mul .f32 (x p) a
noncomputable def I95k (n cur a : Nat) (x y z : Nat → Nat) (cl : Bool) (k : Nat) : List A := [.fn 98 [.rop (.agg [.flt .f32 a]) 0], .ro 3 n (.vecs .f32 x y z), .int .i64 (Int.ofNat n), .int .i64 (Int.ofNat k), .ptr 176 0, .ptr 16 0, .bool false]
noncomputable def J95k (n cur a : Nat) (x y z : Nat → Nat) (cl : Bool) (k : Nat) : List O := [.var [.sl 272 k, .bool cl, .flt .f32 cur], .row 30 3 k (.vecs .f32 (scX a x) (scX a y) (scX a z)), .var [.nils, .bool false, .flt .f32 0]]
theorem round95k (n cur a : Nat) (x y z : Nat → Nat) (cl : Bool) (k : Nat) (L : XK → List A → List (Option O) → Prop) :
    ((exec cfgKN (fun _ => true) (fun _ => none) 0 1000 (loopOf Try.f85 0) (litSt Try.f85.ntmps 288 [1, 19, 20, 21, 6, 4, 5] [176, 272, 16] (I95k n cur a x y z cl k) (J95k n cur a x y z cl k))).rt [1, 19, 20, 21, 6, 4, 5] [176, 272, 16]).Ok L =
    bif decide (Int.ofNat k < Int.ofNat n) then 
       bif decide (Int.ofNat k < Int.ofNat n) then 
         bif decide (k + 1 ≤ 1073741824) then 
           L (XK.normal) ([A.fn 98 [(A.agg [A.flt FloatKind.f32 a]).rop 0], A.ro 3 n (Row.vecs FloatKind.f32 x y z), A.int IntKind.i64 (Int.ofNat n), A.int IntKind.i64 (IntKind.i64.wrap (Int.ofNat k + Int.ofNat 1)), A.ptr 176 0, A.ptr 16 0, A.bool false]) ([some (O.var [A.sl 272 (k + 1), A.bool cl, A.flt FloatKind.f32 cur]),   some     (O.row 30 3 (k + 1)       (Row.vecs FloatKind.f32         (fun j =>           (match decide (j < k) with | true => scX a x j | false => ([[fop BinOp.mul FloatKind.f32 (x k) a, fop BinOp.mul FloatKind.f32 (y k) a, fop BinOp.mul FloatKind.f32 (z k) a]].getD (j - k) []).getD 0 0))         (fun j =>           (match decide (j < k) with | true => scX a y j | false => ([[fop BinOp.mul FloatKind.f32 (x k) a, fop BinOp.mul FloatKind.f32 (y k) a, fop BinOp.mul FloatKind.f32 (z k) a]].getD (j - k) []).getD 1 0))         fun j =>         (match decide (j < k) with | true => scX a z j | false => ([[fop BinOp.mul FloatKind.f32 (x k) a, fop BinOp.mul FloatKind.f32 (y k) a, fop BinOp.mul FloatKind.f32 (z k) a]].getD (j - k) []).getD 2 0))),   some (O.var [A.nils, A.bool false, A.flt FloatKind.f32 0])]) 
         else 
           False 
       else 
         False 
     else 
       L (XK.exit 0) ([A.fn 98 [(A.agg [A.flt FloatKind.f32 a]).rop 0], A.ro 3 n (Row.vecs FloatKind.f32 x y z), A.int IntKind.i64 (Int.ofNat n), A.int IntKind.i64 (Int.ofNat k), A.ptr 176 0, A.ptr 16 0, A.bool false]) ([some (O.var [A.sl 272 k, A.bool cl, A.flt FloatKind.f32 cur]), some (O.row 30 3 k (Row.vecs FloatKind.f32 (fun p => scX a x p) (fun p => scX a y p) fun p => scX a z p)), some (O.var [A.nils, A.bool false, A.flt FloatKind.f32 0])]) := by kernel_rfl
noncomputable def F95k : List A → List (Option O) → Option R3
  | [.fn 98 [.rop (.agg [.flt .f32 a]) 0], .ro 3 n (.vecs .f32 x y z), .int .i64 l, .int .i64 0, .ptr 176 0, .ptr 16 0, .bool false], [some (.var [.sl 272 0, .bool cl, .flt .f32 cur]), some (.row 30 3 0 g), some (.var [.nils, .bool false, .flt .f32 0])] => some (.ite (decide (l = Int.ofNat n) && Nat.ble n 1000) (.leaf .normal (I95k n cur a x y z cl (n)) (J95k n cur a x y z cl (n))) .fail)
  | _, _ => none
theorem loop95k : CodeOK Try.prog (fun _ σ => sumAt Try.f85.ntmps 288 [1, 19, 20, 21, 6, 4, 5] [176, 272, 16] F95k σ) (.block 0 (.loop (loopOf Try.f85 0))) := by
  refine block_ok (own := fun _ => true) (lp := (fun _ => none)) (un := 0) (fuel := 1000) cfgKN_ok (lp_none _) fun az os R hF hok => ?_
  unfold F95k at hF
  split at hF
  · rename_i a n x y z l cl cur g
    injection hF with hF
    subst hF
    have hg := hok.guard
    have hg' := hg
    simp only [Bool.and_eq_true, Nat.ble_eq, Nat.beq_eq, decide_eq_true_eq] at hg'
    obtain ⟨rfl, hn⟩ := hg'
    refine for_fact (ids := [176, 272, 16]) (fun _ => true) (n) (I95k n cur a x y z cl) (J95k n cur a x y z cl) _ (.ret) (I95k n cur a x y z cl) (I95k n cur a x y z cl) (I95k n cur a x y z cl (n)) (J95k n cur a x y z cl (n)) rfl (by unfold J95k; exact ⟨rfl, ⟨30, _, rfl, .inr rfl, fun p hp => absurd hp (by omega)⟩, rfl, trivial⟩) (fun _ => rfl) (fun _ => rfl) (fun _ => ALe.self _) (fun _ => rfl) (ALe.self _) (OSims.self _) rfl (fun h => by cases h) (fun k hk L h1 h2 h3 => ?_) fun L hL => ?_
    · rw [round95k]
      by_cases hkm : k < n
      · refine condT (lt_dec hkm) ?_
        rw [wrap_succ (by omega)]
        refine condT (lt_dec hkm) ?_
        refine condT (decide_eq_true (by omega)) ?_
        exact h1 hkm rfl _ ⟨rfl, ⟨30, _, rfl, .inr rfl, fun p hp => vec_at (app3 (u := scX a x) rfl hp) (app3 (u := scX a y) rfl hp) (app3 (u := scX a z) rfl hp)⟩, rfl, trivial⟩
      · refine condE (ge_dec (by omega)) ?_
        obtain rfl : k = n := by omega
        exact h3 rfl
    · exact ⟨fun _ => hL.1 hg, fun N _ h => by cases h⟩
  · cases hF
noncomputable def N95k : St → T := nilW 176 0 30 3 (sumAt Try.f85.ntmps 288 [1, 19, 20, 21, 6, 4, 5] [176, 272, 16] F95k)
theorem loopN95k : CodeOK Try.prog (fun _ σ => N95k σ) (.block 0 (.loop (loopOf Try.f85 0))) := nilW_ok loop95k
noncomputable def sclOk (n cur a : Nat) (x y z : Nat → Nat) : Bool := okW n cur x y z && okW n cur (scX a x) (scX a y) (scX a z)
theorem scl_ok {n cur a : Nat} {x y z : Nat → Nat} (h : sclOk n cur a x y z = true) : okW n cur x y z = true ∧ okW n cur (scX a x) (scX a y) (scX a z) = true ∧ 1 ≤ n ∧ n ≤ 1000 := by
  unfold sclOk at h
  simp only [Bool.and_eq_true] at h
  obtain ⟨h1, h2⟩ := h
  exact ⟨h1, h2, by have := okW_n h1; omega, by have := okW_n h1; omega⟩
noncomputable def lp95kT : List (Nat × (St → T)) := [(0, N95k)]
theorem lp95kT_ok : LpOK Try.prog (look lp95kT) (bodyOf Try.f85) := lp_loops (by kernel_rfl) (by kernel_rfl) fun p hp => by
  simp only [lp95kT, List.mem_cons, List.not_mem_nil, or_false] at hp
  rcases hp with rfl
  · exact loopN95k
theorem auto95kT (n cur : Nat) (x y z : Nat → Nat) (cl : Bool) (a : Nat) : autoS cfgKN (look lp95kT) false Try.f85 [.agg [.ro 3 n (.vecs .f32 x y z), .bool cl, .flt .f32 cur], .fn 98 [.rop (.agg [.flt .f32 a]) 0]] =
    some (n.ble 4611686018427387000 && (!!okW n cur x y z && (decide (Int.ofNat n = Int.ofNat n) && n.ble 1000 && (n.ble 4611686018427387000 && (!!okW n cur (scX a x) (scX a y) (scX a z) && true)))), A.tup [A.agg [A.ro 3 n (Row.vecs FloatKind.f32 (fun p => scX a x p) (fun p => scX a y p) fun p => scX a z p), A.bool cl, A.flt FloatKind.f32 cur], A.bool true]) := by kernel_rfl
noncomputable def s95kT : List A → Option (Bool × A)
  | [.agg [.ro 3 n (.vecs .f32 x y z), .bool cl, .flt .f32 cur], .fn 98 [.rop (.agg [.flt .f32 a]) 0]] => some (sclOk n cur a x y z, .tup [.agg [.ro 3 n (.vecs .f32 (scX a x) (scX a y) (scX a z)), .bool cl, .flt .f32 cur], .bool true])
  | _ => none
theorem s95kT_at : EnvAt Try.prog 85 s95kT := of_autoS cfgKN_ok lp95kT_ok Try.func85 (by kernel_rfl) (by kernel_rfl) fun ds cc rr h hc => by
  unfold s95kT at h
  split at h
  · rename_i n x y z cl cur a
    simp only [Option.some.injEq, Prod.mk.injEq] at h
    obtain ⟨rfl, rfl⟩ := h
    refine auto_fit (auto95kT n cur x y z cl a) ?_ ?_
    · rfl
    · obtain ⟨h1, h2, h3, h4⟩ := scl_ok hc
      rw [h1, h2, ble_of (show n ≤ 4611686018427387000 by omega), ble_of (show n ≤ 1000 by omega), decide_eq_true rfl]; rfl
  · cases h
noncomputable def env42k : List (Nat × (List A → Option (Bool × A))) := (85, s95kT) :: env41k
theorem env42k_ok : EnvOK Try.prog (look env42k) := (env_cons s95kT_at env41k_ok)
noncomputable def cfgKT : Cfg := mkCfg (nilTab tab) fts75 xts (look env42k)
theorem cfgKT_ok : CfgOK Try.prog cfgKT := cfgN_ok' tab_eq fts75_ok xts_ok env42k_ok mixed
theorem auto48k (n cur : Nat) (x y z : Nat → Nat) (cl : Bool) (a : Nat) : autoLp cfgKT (fun _ => none) Try.f48 [.agg [.ro 3 n (.vecs .f32 x y z), .bool cl, .flt .f32 cur], .flt .f32 a] =
    some (sclOk n cur a x y z && true, A.tup [A.agg [A.ro 3 n (Row.vecs FloatKind.f32 (fun p => scX a x p) (fun p => scX a y p) fun p => scX a z p), A.bool cl, A.flt FloatKind.f32 cur], A.bool true]) := by kernel_rfl
noncomputable def s48k : List A → Option (Bool × A)
  | [.agg [.ro 3 n (.vecs .f32 x y z), .bool cl, .flt .f32 cur], .flt .f32 a] => some (sclOk n cur a x y z, .tup [.agg [.ro 3 n (.vecs .f32 (scX a x) (scX a y) (scX a z)), .bool cl, .flt .f32 cur], .bool true])
  | _ => none
theorem s48k_at : EnvAt Try.prog 48 s48k := of_auto cfgKT_ok (lp_none _) Try.func48 (by kernel_rfl) (by kernel_rfl) fun ds cc rr h hc => by
  unfold s48k at h
  split at h
  · rename_i n x y z cl cur a
    simp only [Option.some.injEq, Prod.mk.injEq] at h
    obtain ⟨rfl, rfl⟩ := h
    refine auto_fit (auto48k n cur x y z cl a) ?_ ?_
    · rfl
    · rw [hc]; rfl
  · cases h
end Go.Fw.E1

/-
  The same numbers, vectors, wires: contracts by success. How many segments a wire has.
-/
namespace Go.Fw.E1
open Go.Proofs
theorem walk46 (n cur : Nat) (x y z : Nat → Nat) (cl : Bool) : autoW cfgR1 (fun _ => true) 0 (fun _ => none) [false] Try.f46 [.agg [.ro 3 n (.vecs .f32 x y z), .bool cl, .flt .f32 cur]] = some (n.ble 4611686018427387000 && (!!okW n cur x y z && (Nat.ble 1 n && n.ble 1073741824 && true)), .tup [.int .i64 (Int.ofNat (cnt n cl)), .bool true]) := by kernel_rfl
noncomputable def s46T : List A → Option (Bool × A)
  | [.agg [.ro 3 n (.vecs .f32 x y z), .bool cl, .flt .f32 cur]] => some (okW n cur x y z, .tup [.int .i64 (Int.ofNat (cnt n cl)), .bool true])
  | _ => none
theorem s46T_at : EnvAt Try.prog 46 s46T := by
  refine ⟨⟨Try.f46, Try.func46, by kernel_rfl, by kernel_rfl⟩, fun ds cc rr h hc => ?_⟩
  unfold s46T at h
  split at h
  · rename_i n x y z cl cur
    simp only [Option.some.injEq, Prod.mk.injEq] at h
    obtain ⟨rfl, rfl⟩ := h
    have h2 := okW_n hc
    exact autoW_ok cfgR1_ok Try.func46 (by kernel_rfl) (lp_none _) (walk46 n cur x y z cl) (by rw [hc, ble_of (show n ≤ 4611686018427387000 by omega), ble_of (show 1 ≤ n by omega), ble_of (show n ≤ 1073741824 by omega)]; rfl)
  · cases h
noncomputable def sgn (x : Nat) : Bool := decide (IntKind.i64.wrap (Int.ofNat x) < 0)
theorem walkSgn (x : Nat) : autoW cfgR1 (fun _ => true) 0 (fun _ => none) [] Try.f117 [.flt .f64 x] = some (!isNaN .f64 x && true, .bool (sgn x)) := by kernel_rfl
noncomputable def sSgn : List A → Option (Bool × A)
  | [.flt .f64 x] => some (!isNaN .f64 x, .bool (sgn x))
  | _ => none
theorem sSgn_at : EnvAt Try.prog 117 sSgn := by
  refine ⟨⟨Try.f117, Try.func117, by kernel_rfl, by kernel_rfl⟩, fun ds cc rr h hc => ?_⟩
  unfold sSgn at h
  split at h
  · rename_i x
    simp only [Option.some.injEq, Prod.mk.injEq] at h
    obtain ⟨rfl, rfl⟩ := h
    exact autoW_ok cfgR1_ok Try.func117 (by kernel_rfl) (lp_none _) (walkSgn x) (by rw [hc]; rfl)
  · cases h
noncomputable def envR2 : List (Nat × (List A → Option (Bool × A))) := (46, s46T) :: (48, s48k) :: (117, sSgn) :: envR1
theorem envR2_ok : EnvOK Try.prog (look envR2) := env_cons s46T_at (env_cons s48k_at (env_cons sSgn_at envR1_ok))
noncomputable def cfgR2 : Cfg := mkCfg tab [] xts (look envR2)
theorem cfgR2_ok : CfgOK Try.prog cfgR2 := cfg_ok tab_eq (no_fts _) xts_ok envR2_ok mixed
end Go.Fw.E1

/-
  The same wires: contracts by success.
-/
namespace Go.Fw.E1
open Go.Proofs
noncomputable def numOk (x : Nat) : Bool := (forder .f32 x x == some .eq) && !isNaN .f64 (fcvt .f32 .f64 x)
noncomputable def samO (x y : Nat) : Bool := Nat.beq x y && numOk x
theorem walk102 (x y : Nat) : autoW cfgR2 (fun _ => true) 0 (fun _ => none) [false] Try.f102 [.flt .f32 x, .flt .f32 y] = some ((!bif forder FloatKind.f32 x x != some Ordering.eq then true else forder FloatKind.f32 y y != some Ordering.eq) && ((!isNaN FloatKind.f64 (fcvt FloatKind.f32 FloatKind.f64 x) || !(forder FloatKind.f32 x y == some Ordering.eq) == true) && ((!isNaN FloatKind.f64 (fcvt FloatKind.f32 FloatKind.f64 y) || !(forder FloatKind.f32 x y == some Ordering.eq) == true) && true)), A.bool (bif forder FloatKind.f32 x y == some Ordering.eq then sgn (fcvt FloatKind.f32 FloatKind.f64 x) == sgn (fcvt FloatKind.f32 FloatKind.f64 y) else false)) := by kernel_rfl
noncomputable def s102T : List A → Option (Bool × A)
  | [.flt .f32 x, .flt .f32 y] => some (samO x y, .bool true)
  | _ => none
theorem s102T_at : EnvAt Try.prog 102 s102T := by
  refine ⟨⟨Try.f102, Try.func102, by kernel_rfl, by kernel_rfl⟩, fun ds cc rr h hc => ?_⟩
  unfold s102T at h
  split at h
  · rename_i x y
    simp only [Option.some.injEq, Prod.mk.injEq] at h
    obtain ⟨rfl, rfl⟩ := h
    unfold samO numOk at hc
    simp only [Bool.and_eq_true] at hc
    obtain ⟨h1, h2, h3⟩ := hc
    obtain rfl := Nat.eq_of_beq_eq_true h1
    have hf : forder .f32 x x = some .eq := eq_of_beq h2
    have key := walk102 x x
    rw [hf, h3] at key
    have e : (bif (some Ordering.eq == some Ordering.eq) then sgn (fcvt FloatKind.f32 FloatKind.f64 x) == sgn (fcvt FloatKind.f32 FloatKind.f64 x) else false) = true := by
      show (sgn (fcvt FloatKind.f32 FloatKind.f64 x) == sgn (fcvt FloatKind.f32 FloatKind.f64 x)) = true
      exact beq_self_eq_true _
    rw [e] at key
    exact autoW_ok cfgR2_ok Try.func102 (by kernel_rfl) (lp_none _) key rfl
  · cases h
noncomputable def envR3 : List (Nat × (List A → Option (Bool × A))) := (102, s102T) :: envR2
theorem envR3_ok : EnvOK Try.prog (look envR3) := env_cons s102T_at envR2_ok
noncomputable def cfgR3 : Cfg := mkCfg tab [] xts (look envR3)
theorem cfgR3_ok : CfgOK Try.prog cfgR3 := cfg_ok tab_eq (no_fts _) xts_ok envR3_ok mixed
end Go.Fw.E1

/-
  The same vectors: contracts by success.
-/
namespace Go.Fw.E1
open Go.Proofs
theorem walk101 (x y z a b c : Nat) : autoW cfgR3 (fun _ => true) 0 (fun _ => none) [] Try.f101 [.agg [.flt .f32 x, .flt .f32 y, .flt .f32 z], .agg [.flt .f32 a, .flt .f32 b, .flt .f32 c]] = some (samO x a && ((samO y b || false) && ((samO z c || !true == true) && true)), .bool true) := by kernel_rfl
noncomputable def samV (x y z a b c : Nat) : Bool := samO x a && samO y b && samO z c
noncomputable def s101T : List A → Option (Bool × A)
  | [.agg [.flt .f32 x, .flt .f32 y, .flt .f32 z], .agg [.flt .f32 a, .flt .f32 b, .flt .f32 c]] => some (samV x y z a b c, .bool true)
  | _ => none
theorem s101T_at : EnvAt Try.prog 101 s101T := by
  refine ⟨⟨Try.f101, Try.func101, by kernel_rfl, by kernel_rfl⟩, fun ds cc rr h hc => ?_⟩
  unfold s101T at h
  split at h
  · rename_i x y z a b c
    simp only [Option.some.injEq, Prod.mk.injEq] at h
    obtain ⟨rfl, rfl⟩ := h
    unfold samV at hc
    simp only [Bool.and_eq_true] at hc
    exact autoW_ok cfgR3_ok Try.func101 (by kernel_rfl) (lp_none _) (walk101 x y z a b c) (by rw [hc.1.1, hc.1.2, hc.2]; rfl)
  · cases h
noncomputable def envR4 : List (Nat × (List A → Option (Bool × A))) := (101, s101T) :: envR3
theorem envR4_ok : EnvOK Try.prog (look envR4) := env_cons s101T_at envR3_ok
noncomputable def cfgR4 : Cfg := mkCfg tab [] xts (look envR4)
theorem cfgR4_ok : CfgOK Try.prog cfgR4 := cfg_ok tab_eq (no_fts _) xts_ok envR4_ok mixed
noncomputable def samVAt (x y z a b c : Nat → Nat) (k : Nat) : Bool := samV (x k) (y k) (z k) (a k) (b k) (c k)
end Go.Fw.E1

/-
  The same wires: the loop over the points, the contract by success.
-/
namespace Go.Fw.E1
open Go.Proofs
noncomputable def I100 (n : Nat) (x y z a b c : Nat → Nat) (k : Nat) : List A := [.ro 3 n (.vecs .f32 x y z), .int .i64 (Int.ofNat n), .ro 3 n (.vecs .f32 a b c), .fn 101 [], .int .i64 (Int.ofNat k), .bool false]
theorem round100 (n k : Nat) (x y z a b c : Nat → Nat) (L : XK → List A → List (Option O) → Prop) :
    ((exec cfgR4 (fun _ => true) (fun _ => none) 0 1000 (loopOf Try.f100 0) (litSt Try.f100.ntmps 144 [15, 16, 1, 2, 17, 6] [] (I100 n x y z a b c k) [])).rt [15, 16, 1, 2, 17, 6] []).Ok L =
    bif decide (Int.ofNat k < Int.ofNat n) then
      bif decide (Int.ofNat k < Int.ofNat n) then
        bif decide (Int.ofNat k < Int.ofNat n) then
          bif samVAt x y z a b c k then
            L (XK.normal) ([A.ro 3 n (Row.vecs FloatKind.f32 x y z), A.int IntKind.i64 (Int.ofNat n), A.ro 3 n (Row.vecs FloatKind.f32 a b c), A.fn 101 [], A.int IntKind.i64 (IntKind.i64.wrap (Int.ofNat k + Int.ofNat 1)), A.bool false]) ([])
          else
            False
        else
          False
      else
        False
    else
      L (XK.exit 0) ([A.ro 3 n (Row.vecs FloatKind.f32 x y z), A.int IntKind.i64 (Int.ofNat n), A.ro 3 n (Row.vecs FloatKind.f32 a b c), A.fn 101 [], A.int IntKind.i64 (Int.ofNat k), A.bool false]) ([]) := by kernel_rfl
noncomputable def F100 : List A → List (Option O) → Option R3
  | [.ro 3 n (.vecs .f32 x y z), .int .i64 l, .ro 3 m (.vecs .f32 a b c), .fn 101 [], .int .i64 0, .bool false], [] => some (.ite (Nat.beq n m && decide (l = Int.ofNat n) && Nat.ble n 1000 && allUpTo (samVAt x y z a b c) n) (.leaf .normal (I100 n x y z a b c n) []) .fail)
  | _, _ => none
theorem loop100 : CodeOK Try.prog (fun _ σ => sumAt Try.f100.ntmps 144 [15, 16, 1, 2, 17, 6] [] F100 σ) (.block 0 (.loop (loopOf Try.f100 0))) := by
  refine block_ok (own := fun _ => true) (lp := (fun _ => none)) (un := 0) (fuel := 1000) cfgR4_ok (lp_none _) fun az os R hF hok => ?_
  unfold F100 at hF
  split at hF
  · rename_i n x y z l m a b c
    injection hF with hF
    subst hF
    have hg := hok.guard
    have hg' := hg
    simp only [Bool.and_eq_true, Nat.ble_eq, Nat.beq_eq, decide_eq_true_eq] at hg'
    obtain ⟨⟨⟨rfl, rfl⟩, hn⟩, hall⟩ := hg'
    have hall := allUpTo_iff.1 hall
    refine for_fact0 (fun _ => true) n (I100 n x y z a b c) _ (.ret) (I100 n x y z a b c) (I100 n x y z a b c) (I100 n x y z a b c n) rfl (fun _ => rfl) (fun _ => ALe.self _) (fun _ => rfl) (ALe.self _) rfl (fun h => by cases h) (fun k hk L h1 h2 h3 => ?_) fun L hL => ?_
    · rw [round100]
      by_cases hkm : k < n
      · refine condT (lt_dec hkm) (condT (lt_dec hkm) (condT (lt_dec hkm) (condT (hall k hkm) ?_)))
        rw [wrap_succ (by omega)]
        exact h1 hkm rfl
      · refine condE (ge_dec (by omega)) ?_
        obtain rfl : k = n := by omega
        exact h3 rfl
    · exact ⟨fun _ => hL.1 hg, fun N _ h => by cases h⟩
  · cases hF
noncomputable def lp100 : List (Nat × (St → T)) := [(0, sumAt Try.f100.ntmps 144 [15, 16, 1, 2, 17, 6] [] F100)]
theorem lp100_ok : LpOK Try.prog (look lp100) (bodyOf Try.f100) := lp_loops (by kernel_rfl) (by kernel_rfl) fun p hp => by
  simp only [lp100, List.mem_cons, List.not_mem_nil, or_false] at hp
  rcases hp with rfl
  · exact loop100
end Go.Fw.E1

/-
  The same wires: contracts by success.
-/
namespace Go.Fw.E1
open Go.Proofs
theorem walk100 (n m : Nat) (x y z a b c : Nat → Nat) : autoW cfgR4 (fun _ => true) 0 (look lp100) [false] Try.f100 [.ro 3 n (.vecs .f32 x y z), .ro 3 m (.vecs .f32 a b c), .fn 101 []] = some (!Int.ofNat n != Int.ofNat m && (n.beq m && decide (Int.ofNat n = Int.ofNat n) && n.ble 1000 && allUpTo (samVAt x y z a b c) n && true), .bool true) := by kernel_rfl
noncomputable def s100T : List A → Option (Bool × A)
  | [.ro 3 n (.vecs .f32 x y z), .ro 3 m (.vecs .f32 a b c), .fn 101 []] => some (Nat.beq n m && Nat.ble n 1000 && allUpTo (samVAt x y z a b c) n, .bool true)
  | _ => none
theorem s100T_at : EnvAt Try.prog 100 s100T := by
  refine ⟨⟨Try.f100, Try.func100, by kernel_rfl, by kernel_rfl⟩, fun ds cc rr h hc => ?_⟩
  unfold s100T at h
  split at h
  · rename_i n x y z m a b c
    simp only [Option.some.injEq, Prod.mk.injEq] at h
    obtain ⟨rfl, rfl⟩ := h
    simp only [Bool.and_eq_true] at hc
    obtain rfl := Nat.eq_of_beq_eq_true hc.1.1
    have e : (!Int.ofNat n != Int.ofNat n) = true := by simp
    exact autoW_ok cfgR4_ok Try.func100 (by kernel_rfl) lp100_ok (walk100 n n x y z a b c) (by rw [hc.1.1, hc.1.2, hc.2, e, decide_eq_true rfl]; rfl)
  · cases h
noncomputable def envR5 : List (Nat × (List A → Option (Bool × A))) := (100, s100T) :: envR4
theorem envR5_ok : EnvOK Try.prog (look envR5) := env_cons s100T_at envR4_ok
noncomputable def cfgR5 : Cfg := mkCfg tab [] xts (look envR5)
theorem cfgR5_ok : CfgOK Try.prog cfgR5 := cfg_ok tab_eq (no_fts _) xts_ok envR5_ok mixed
end Go.Fw.E1

/-
  The same wires; middles of wires: contracts by success.
-/
namespace Go.Fw.E1
open Go.Proofs
theorem walk50 (n m cur cur2 : Nat) (x y z a b c : Nat → Nat) (cl cl2 : Bool) : autoW cfgR5 (fun _ => true) 0 (fun _ => none) [] Try.f50 [.agg [.ro 3 n (.vecs .f32 x y z), .bool cl, .flt .f32 cur], .agg [.ro 3 m (.vecs .f32 a b c), .bool cl2, .flt .f32 cur2]] = some (n.beq m && n.ble 1000 && allUpTo (samVAt x y z a b c) n && ((samO cur cur2 || !(cl == cl2) == true) && true), .bool (bif cl == cl2 then true else false)) := by kernel_rfl
noncomputable def s50T : List A → Option (Bool × A)
  | [.agg [.ro 3 n (.vecs .f32 x y z), .bool cl, .flt .f32 cur], .agg [.ro 3 m (.vecs .f32 a b c), .bool cl2, .flt .f32 cur2]] => some (Nat.beq n m && Nat.ble n 1000 && allUpTo (samVAt x y z a b c) n && samO cur cur2 && (cl == cl2), .bool true)
  | _ => none
theorem s50T_at : EnvAt Try.prog 50 s50T := by
  refine ⟨⟨Try.f50, Try.func50, by kernel_rfl, by kernel_rfl⟩, fun ds cc rr h hc => ?_⟩
  unfold s50T at h
  split at h
  · rename_i n x y z cl cur m a b c cl2 cur2
    simp only [Option.some.injEq, Prod.mk.injEq] at h
    obtain ⟨rfl, rfl⟩ := h
    simp only [Bool.and_eq_true] at hc
    have key := walk50 n m cur cur2 x y z a b c cl cl2
    rw [hc.2] at key
    exact autoW_ok cfgR5_ok Try.func50 (by kernel_rfl) (lp_none _) key (by rw [hc.1.1.1.1, hc.1.1.1.2, hc.1.1.2, hc.1.2]; rfl)
  · cases h
/-- Numbers added up from the first. -/
noncomputable def midS (x : Nat → Nat) : Nat → Nat
  | 0 => 0
  | k + 1 => fop .add .f32 (midS x k) (x k)
noncomputable def I52 (n cur : Nat) (x y z : Nat → Nat) (cl : Bool) (k : Nat) : List A := [.ro 3 n (.vecs .f32 x y z), .int .i64 (Int.ofNat n), .int .i64 (Int.ofNat k), .ptr 112 0, .ptr 0 0, .ptr 16 0, .bool false]
end Go.Fw.E1

/-
  Middles of wires: the loop.
-/
namespace Go.Fw.E1
open Go.Proofs
theorem round52x (n cur k p q r n2 : Nat) (x y z x2 y2 z2 : Nat → Nat) (cl : Bool) (L : XK → List A → List (Option O) → Prop) :
    ((exec cfgR5 (fun _ => true) (fun _ => none) 0 1000 (loopOf Try.f52 0) (litSt Try.f52.ntmps 208 [13, 14, 15, 4, 1, 2, 3] [112, 16, 0] (I52 n cur x y z cl k) [.var [.flt .f32 p, .flt .f32 q, .flt .f32 r], .var [.flt .f32 0, .flt .f32 0, .flt .f32 0], .var [.ro 3 n2 (.vecs .f32 x2 y2 z2), .bool cl, .flt .f32 cur]])).rt [13, 14, 15, 4, 1, 2, 3] [112, 16, 0]).Ok L =
    bif decide (Int.ofNat k < Int.ofNat n) then
      bif decide (Int.ofNat k < Int.ofNat n) then
        L (XK.normal) ([A.ro 3 n (Row.vecs FloatKind.f32 x y z), A.int IntKind.i64 (Int.ofNat n), A.int IntKind.i64 (IntKind.i64.wrap (Int.ofNat k + Int.ofNat 1)), A.ptr 112 0, A.ptr 0 0, A.ptr 16 0, A.bool false]) ([some (O.var [A.flt FloatKind.f32 (fop BinOp.add FloatKind.f32 p (x k)), A.flt FloatKind.f32 (fop BinOp.add FloatKind.f32 q (y k)), A.flt FloatKind.f32 (fop BinOp.add FloatKind.f32 r (z k))]), some (O.var [A.flt FloatKind.f32 0, A.flt FloatKind.f32 0, A.flt FloatKind.f32 0]), some (O.var [A.ro 3 n2 (Row.vecs FloatKind.f32 x2 y2 z2), A.bool cl, A.flt FloatKind.f32 cur])])
      else
        False
    else
      L (XK.exit 0) ([A.ro 3 n (Row.vecs FloatKind.f32 x y z), A.int IntKind.i64 (Int.ofNat n), A.int IntKind.i64 (Int.ofNat k), A.ptr 112 0, A.ptr 0 0, A.ptr 16 0, A.bool false]) ([some (O.var [A.flt FloatKind.f32 p, A.flt FloatKind.f32 q, A.flt FloatKind.f32 r]), some (O.var [A.flt FloatKind.f32 0, A.flt FloatKind.f32 0, A.flt FloatKind.f32 0]), some (O.var [A.ro 3 n2 (Row.vecs FloatKind.f32 x2 y2 z2), A.bool cl, A.flt FloatKind.f32 cur])]) := by kernel_rfl
noncomputable def F52 : List A → List (Option O) → Option R3
  | [.ro 3 n (.vecs .f32 x y z), .int .i64 l, .int .i64 0, .ptr 112 0, .ptr 0 0, .ptr 16 0, .bool false], [some (.var [.flt .f32 0, .flt .f32 0, .flt .f32 0]), some (.var [.flt .f32 0, .flt .f32 0, .flt .f32 0]), some (.var [.ro 3 n2 (.vecs .f32 x2 y2 z2), .bool cl, .flt .f32 cur])] => some (.ite (decide (l = Int.ofNat n) && Nat.ble n 1000) (.leaf .normal [.ro 3 n (.vecs .f32 x y z), .int .i64 (Int.ofNat n), .int .i64 (Int.ofNat n), .ptr 112 0, .ptr 0 0, .ptr 16 0, .bool false] [.var [.flt .f32 (midS x n), .flt .f32 (midS y n), .flt .f32 (midS z n)], .var [.flt .f32 0, .flt .f32 0, .flt .f32 0], .var [.ro 3 n2 (.vecs .f32 x2 y2 z2), .bool cl, .flt .f32 cur]]) .fail)
  | _, _ => none
theorem loop52 : CodeOK Try.prog (fun _ σ => sumAt Try.f52.ntmps 208 [13, 14, 15, 4, 1, 2, 3] [112, 16, 0] F52 σ) (.block 0 (.loop (loopOf Try.f52 0))) := by
  refine block_ok (own := fun _ => true) (lp := (fun _ => none)) (un := 0) (fuel := 1000) cfgR5_ok (lp_none _) fun az os R hF hok => ?_
  unfold F52 at hF
  split at hF
  · rename_i n x y z l n2 x2 y2 z2 cl cur
    injection hF with hF
    subst hF
    have hg := hok.guard
    have hg' := hg
    simp only [Bool.and_eq_true, Nat.ble_eq, decide_eq_true_eq] at hg'
    obtain ⟨rfl, hn⟩ := hg'
    refine for_fact (ids := [112, 16, 0]) (fun _ => true) n (I52 n cur x y z cl) (fun k => [.var [.flt .f32 (midS x k), .flt .f32 (midS y k), .flt .f32 (midS z k)], .var [.flt .f32 0, .flt .f32 0, .flt .f32 0], .var [.ro 3 n2 (.vecs .f32 x2 y2 z2), .bool cl, .flt .f32 cur]]) _ (.ret) (I52 n cur x y z cl) (I52 n cur x y z cl) (I52 n cur x y z cl n) [.var [.flt .f32 (midS x n), .flt .f32 (midS y n), .flt .f32 (midS z n)], .var [.flt .f32 0, .flt .f32 0, .flt .f32 0], .var [.ro 3 n2 (.vecs .f32 x2 y2 z2), .bool cl, .flt .f32 cur]] rfl (by exact ⟨rfl, rfl, rfl, trivial⟩) (fun _ => rfl) (fun _ => rfl) (fun _ => ALe.self _) (fun _ => rfl) (ALe.self _) (OSims.self _) rfl (fun h => by cases h) (fun k hk L h1 h2 h3 => ?_) fun L hL => ?_
    · rw [round52x]
      by_cases hkm : k < n
      · refine condT (lt_dec hkm) (condT (lt_dec hkm) ?_)
        rw [wrap_succ (by omega)]
        exact h1 hkm rfl _ ⟨rfl, rfl, rfl, trivial⟩
      · refine condE (ge_dec (by omega)) ?_
        obtain rfl : k = n := by omega
        exact h3 rfl
    · exact ⟨fun _ => hL.1 hg, fun N _ h => by cases h⟩
  · cases hF
noncomputable def lp52 : List (Nat × (St → T)) := [(0, sumAt Try.f52.ntmps 208 [13, 14, 15, 4, 1, 2, 3] [112, 16, 0] F52)]
theorem lp52_ok : LpOK Try.prog (look lp52) (bodyOf Try.f52) := lp_loops (by kernel_rfl) (by kernel_rfl) fun p hp => by
  simp only [lp52, List.mem_cons, List.not_mem_nil, or_false] at hp
  rcases hp with rfl
  · exact loop52
end Go.Fw.E1

/-
  Middles of wires: the contract by success. All contracts for the law of wires.
-/
namespace Go.Fw.E1
open Go.Proofs
noncomputable def midW (x : Nat → Nat) (n : Nat) : Nat := fop .mul .f32 (midS x n) (fop .quo .f32 (can .f32 1065353216) (fofInt .f32 (Int.ofNat n)))
theorem walk52 (n cur : Nat) (x y z : Nat → Nat) (cl : Bool) : autoW cfgR5 (fun _ => true) 0 (look lp52) [false] Try.f52 [.agg [.ro 3 n (.vecs .f32 x y z), .bool cl, .flt .f32 cur]] = some (n.ble 4611686018427387000 && (!!okW n cur x y z && (decide (Int.ofNat n = Int.ofNat n) && n.ble 1000 && (vfin (midW x n) (midW y n) (midW z n) && true))), .tup [.agg [.flt .f32 (midW x n), .flt .f32 (midW y n), .flt .f32 (midW z n)], .bool true]) := by kernel_rfl
noncomputable def s52T : List A → Option (Bool × A)
  | [.agg [.ro 3 n (.vecs .f32 x y z), .bool cl, .flt .f32 cur]] => some (okW n cur x y z && vfin (midW x n) (midW y n) (midW z n), .tup [.agg [.flt .f32 (midW x n), .flt .f32 (midW y n), .flt .f32 (midW z n)], .bool true])
  | _ => none
theorem s52T_at : EnvAt Try.prog 52 s52T := by
  refine ⟨⟨Try.f52, Try.func52, by kernel_rfl, by kernel_rfl⟩, fun ds cc rr h hc => ?_⟩
  unfold s52T at h
  split at h
  · rename_i n x y z cl cur
    simp only [Option.some.injEq, Prod.mk.injEq] at h
    obtain ⟨rfl, rfl⟩ := h
    simp only [Bool.and_eq_true] at hc
    have h2 := okW_n hc.1
    exact autoW_ok cfgR5_ok Try.func52 (by kernel_rfl) lp52_ok (walk52 n cur x y z cl) (by rw [hc.1, hc.2, ble_of (show n ≤ 4611686018427387000 by omega), ble_of (show n ≤ 1000 by omega), decide_eq_true rfl]; rfl)
  · cases h
noncomputable def envR6 : List (Nat × (List A → Option (Bool × A))) := (50, s50T) :: (52, s52T) :: envR5
theorem envR6_ok : EnvOK Try.prog (look envR6) := env_cons s50T_at (env_cons s52T_at envR5_ok)
end Go.Fw.E1

/-
  Lengths of wires: the contract by success.
-/
namespace Go.Fw.E1
open Go.Proofs
noncomputable def s47T : List A → Option (Bool × A)
  | [.agg [.ro 3 n (.vecs .f32 x y z), .bool cl, .flt .f32 cur]] => some (lenOk n cur x y z cl, .tup [.flt .f32 (lenW n x y z cl), .bool true])
  | _ => none
theorem s47T_at : EnvAt Try.prog 47 s47T := by
  refine ⟨s35_at.1, fun ds cc rr h hc => ?_⟩
  unfold s47T at h
  split at h
  · rename_i n x y z cl cur
    simp only [Option.some.injEq, Prod.mk.injEq] at h
    obtain ⟨rfl, rfl⟩ := h
    have h1 : okW n cur x y z = true := by unfold lenOk at hc; rw [Bool.and_eq_true] at hc; exact hc.1
    have h2 := okW_n h1
    have key := s35_at.2 [.agg [.ro 3 n (.vecs .f32 x y z), .bool cl, .flt .f32 cur]] _ _ rfl (ble_of (show n ≤ 1073741824 by omega))
    rw [hc] at key
    exact key
  · cases h
noncomputable def envR7 : List (Nat × (List A → Option (Bool × A))) := (47, s47T) :: envR6
theorem envR7_ok : EnvOK Try.prog (look envR7) := env_cons s47T_at envR6_ok
noncomputable def cfgR7 : Cfg := mkCfg tab [] xts (look envR7)
theorem cfgR7_ok : CfgOK Try.prog cfgR7 := cfg_ok tab_eq (no_fts _) xts_ok envR7_ok mixed
end Go.Fw.E1

/-
  Wires fed with another current: contracts.
-/
namespace Go.Fw.E1
open Go.Proofs
end Go.Fw.E1

/-
  Rows of bytes; a current that a byte chooses.
-/
namespace Go.Fw.E1
noncomputable def gL (b : Nat → Nat) (i : Nat) : A := .int .u8 (Int.ofNat (b i))
end Go.Fw.E1

/-
  The law of fields: its walk.
-/
namespace Go.Fw.E1
open Go.Proofs
noncomputable def tQ (v : Int) : Nat := fop .quo .f32 (fofInt .f32 (IntKind.i64.wrap (v - Int.ofNat 16))) (can .f32 1098907648)
end Go.Fw.E1

/-
  The law of wires: its walk.
-/
namespace Go.Fw.E1
open Go.Proofs
noncomputable def c8C (N CU P0 P1 P2 T : Nat) (X Y Z : Nat → Nat) (CL : Bool) : Bool := (okW N CU X Y Z && (lenOk N CU X Y Z CL && (movOk N CU P0 P1 P2 X Y Z && (lenOk N CU (adX P0 X) (adX P1 Y) (adX P2 Z) CL && (spinOk N CU X Y Z T && (lenOk N CU (spX (cT T) (sT T) X Y) (spY (cT T) (sT T) X Y) Z CL && (okW N CU X Y Z && (lenOk N CU (revR N X) (revR N Y) (revR N Z) CL && (sclOk N CU (can FloatKind.f32 1073741824) X Y Z && (lenOk N CU (scX (can FloatKind.f32 1073741824) X) (scX (can FloatKind.f32 1073741824) Y) (scX (can FloatKind.f32 1073741824) Z) CL && (okW N CU (revR N X) (revR N Y) (revR N Z) && ((N.ble 4611686018427387000 || !false == false) && (!!okW N CU X Y Z && ((N.beq N && N.ble 1000 && allUpTo (samVAt (revR N (revR N X)) (revR N (revR N Y)) (revR N (revR N Z)) X Y Z) N && samO CU CU && CL == CL || !(bif bif bif forder FloatKind.f64 (gap8 (fcvt FloatKind.f32 FloatKind.f64 (lenW N (adX P0 X) (adX P1 Y) (adX P2 Z) CL)) (fcvt FloatKind.f32 FloatKind.f64 (lenW N X Y Z CL))) (can FloatKind.f64 4562254508917369340) == some Ordering.gt then true else forder FloatKind.f64 (gap8 (fcvt FloatKind.f32 FloatKind.f64 (lenW N (spX (cT T) (sT T) X Y) (spY (cT T) (sT T) X Y) Z CL)) (fcvt FloatKind.f32 FloatKind.f64 (lenW N X Y Z CL))) (can FloatKind.f64 4562254508917369340) == some Ordering.gt then true else forder FloatKind.f64 (gap8 (fcvt FloatKind.f32 FloatKind.f64 (lenW N (revR N X) (revR N Y) (revR N Z) CL)) (fcvt FloatKind.f32 FloatKind.f64 (lenW N X Y Z CL))) (can FloatKind.f64 4562254508917369340) == some Ordering.gt then true else forder FloatKind.f32 (lenW N (scX (can FloatKind.f32 1073741824) X) (scX (can FloatKind.f32 1073741824) Y) (scX (can FloatKind.f32 1073741824) Z) CL) (fop BinOp.mul FloatKind.f32 (can FloatKind.f32 1073741824) (lenW N X Y Z CL)) != some Ordering.eq) == false) && ((!bif bif bif bif forder FloatKind.f64 (gap8 (fcvt FloatKind.f32 FloatKind.f64 (lenW N (adX P0 X) (adX P1 Y) (adX P2 Z) CL)) (fcvt FloatKind.f32 FloatKind.f64 (lenW N X Y Z CL))) (can FloatKind.f64 4562254508917369340) == some Ordering.gt then true else forder FloatKind.f64 (gap8 (fcvt FloatKind.f32 FloatKind.f64 (lenW N (spX (cT T) (sT T) X Y) (spY (cT T) (sT T) X Y) Z CL)) (fcvt FloatKind.f32 FloatKind.f64 (lenW N X Y Z CL))) (can FloatKind.f64 4562254508917369340) == some Ordering.gt then true else forder FloatKind.f64 (gap8 (fcvt FloatKind.f32 FloatKind.f64 (lenW N (revR N X) (revR N Y) (revR N Z) CL)) (fcvt FloatKind.f32 FloatKind.f64 (lenW N X Y Z CL))) (can FloatKind.f64 4562254508917369340) == some Ordering.gt then true else forder FloatKind.f32 (lenW N (scX (can FloatKind.f32 1073741824) X) (scX (can FloatKind.f32 1073741824) Y) (scX (can FloatKind.f32 1073741824) Z) CL) (fop BinOp.mul FloatKind.f32 (can FloatKind.f32 1073741824) (lenW N X Y Z CL)) != some Ordering.eq then true else false) && (okW N CU X Y Z && vfin (hfX N X Y Z CL) (hfY N X Y Z CL) (hfZ N X Y Z CL) && (okW N CU (adX P0 X) (adX P1 Y) (adX P2 Z) && vfin (hfX N (adX P0 X) (adX P1 Y) (adX P2 Z) CL) (hfY N (adX P0 X) (adX P1 Y) (adX P2 Z) CL) (hfZ N (adX P0 X) (adX P1 Y) (adX P2 Z) CL) && (okW N CU X Y Z && vfin (fop BinOp.mul FloatKind.f32 (hfX N X Y Z CL) CU) (fop BinOp.mul FloatKind.f32 (hfY N X Y Z CL) CU) (fop BinOp.mul FloatKind.f32 (hfZ N X Y Z CL) CU) && (okW N CU X Y Z && vfin (midW X N) (midW Y N) (midW Z N) && (okW N CU (adX P0 X) (adX P1 Y) (adX P2 Z) && vfin (midW (adX P0 X) N) (midW (adX P1 Y) N) (midW (adX P2 Z) N) && (!!CL && true)))))))))))))))))))))
noncomputable def v8C (N CU P0 P1 P2 : Nat) (X Y Z : Nat → Nat) (CL : Bool) : Bool := bif bif bif Int.ofNat (cnt N CL) == Int.ofNat N then bif !CL then true else forder FloatKind.f64 (fcvt FloatKind.f32 FloatKind.f64 (long (fop BinOp.sub FloatKind.f32 (hfX N X Y Z CL) (hfX N (adX P0 X) (adX P1 Y) (adX P2 Z) CL)) (fop BinOp.sub FloatKind.f32 (hfY N X Y Z CL) (hfY N (adX P0 X) (adX P1 Y) (adX P2 Z) CL)) (fop BinOp.sub FloatKind.f32 (hfZ N X Y Z CL) (hfZ N (adX P0 X) (adX P1 Y) (adX P2 Z) CL)))) (can FloatKind.f64 4562254508917369340) == some Ordering.lt else false then forder FloatKind.f64 (fcvt FloatKind.f32 FloatKind.f64 (long (fop BinOp.sub FloatKind.f32 (fop BinOp.mul FloatKind.f32 (hfX N X Y Z CL) CU) (fop BinOp.mul FloatKind.f32 (hfX N X Y Z CL) CU)) (fop BinOp.sub FloatKind.f32 (fop BinOp.mul FloatKind.f32 (hfY N X Y Z CL) CU) (fop BinOp.mul FloatKind.f32 (hfY N X Y Z CL) CU)) (fop BinOp.sub FloatKind.f32 (fop BinOp.mul FloatKind.f32 (hfZ N X Y Z CL) CU) (fop BinOp.mul FloatKind.f32 (hfZ N X Y Z CL) CU)))) (can FloatKind.f64 4562254508917369340) == some Ordering.lt else false then forder FloatKind.f64 (fcvt FloatKind.f32 FloatKind.f64 (long (fop BinOp.sub FloatKind.f32 (fop BinOp.add FloatKind.f32 (midW X N) P0) (midW (adX P0 X) N)) (fop BinOp.sub FloatKind.f32 (fop BinOp.add FloatKind.f32 (midW Y N) P1) (midW (adX P1 Y) N)) (fop BinOp.sub FloatKind.f32 (fop BinOp.add FloatKind.f32 (midW Z N) P2) (midW (adX P2 Z) N)))) (can FloatKind.f64 4562254508917369340) == some Ordering.lt else false
theorem walk8C (la lc : Nat) (b c : Nat → Nat) : autoW cfgR7 (fun _ => true) 0 (fun _ => none) [false, false, false, false] Try.f8 [.ro 1 la (.gen fun i => .int .u8 (Int.ofNat (b i))), .ro 1 lc (.gen fun i => .int .u8 (Int.ofNat (c i)))] =
    some ((!bif decide (Int.ofNat la > 48) then true else decide (Int.ofNat lc > 48)) && (allUpTo (isU8 fun i => A.int IntKind.u8 (Int.ofNat (b i))) la && (allUpTo (isU8 fun i => A.int IntKind.u8 (Int.ofNat (c i))) lc && (allUpTo (isU8 fun i => A.int IntKind.u8 (Int.ofNat (c i))) lc && true && true && c8C (wn la b) (wcu la b) (r8c lc c 0 0) (r8c lc c 0 1) (r8c lc c 0 2) (tQ (r8a lc c (Int.ofNat 3) (Int.ofNat 32))) (wpx la b) (wpy la b) (wpz la b) (wcl la b)))), .bool (v8C (wn la b) (wcu la b) (r8c lc c 0 0) (r8c lc c 0 1) (r8c lc c 0 2) (wpx la b) (wpy la b) (wpz la b) (wcl la b))) := by kernel_rfl
noncomputable def c8O (N CU P0 P1 P2 T : Nat) (X Y Z : Nat → Nat) (CL : Bool) : Bool := (okW N CU X Y Z && (lenOk N CU X Y Z CL && (movOk N CU P0 P1 P2 X Y Z && (lenOk N CU (adX P0 X) (adX P1 Y) (adX P2 Z) CL && (spinOk N CU X Y Z T && (lenOk N CU (spX (cT T) (sT T) X Y) (spY (cT T) (sT T) X Y) Z CL && (okW N CU X Y Z && (lenOk N CU (revR N X) (revR N Y) (revR N Z) CL && (sclOk N CU (can FloatKind.f32 1073741824) X Y Z && (lenOk N CU (scX (can FloatKind.f32 1073741824) X) (scX (can FloatKind.f32 1073741824) Y) (scX (can FloatKind.f32 1073741824) Z) CL && (okW N CU (revR N X) (revR N Y) (revR N Z) && ((N.ble 4611686018427387000 || !false == false) && (!!okW N CU X Y Z && ((N.beq N && N.ble 1000 && allUpTo (samVAt (revR N (revR N X)) (revR N (revR N Y)) (revR N (revR N Z)) X Y Z) N && samO CU CU && CL == CL || !(bif bif bif forder FloatKind.f64 (gap8 (fcvt FloatKind.f32 FloatKind.f64 (lenW N (adX P0 X) (adX P1 Y) (adX P2 Z) CL)) (fcvt FloatKind.f32 FloatKind.f64 (lenW N X Y Z CL))) (can FloatKind.f64 4562254508917369340) == some Ordering.gt then true else forder FloatKind.f64 (gap8 (fcvt FloatKind.f32 FloatKind.f64 (lenW N (spX (cT T) (sT T) X Y) (spY (cT T) (sT T) X Y) Z CL)) (fcvt FloatKind.f32 FloatKind.f64 (lenW N X Y Z CL))) (can FloatKind.f64 4562254508917369340) == some Ordering.gt then true else forder FloatKind.f64 (gap8 (fcvt FloatKind.f32 FloatKind.f64 (lenW N (revR N X) (revR N Y) (revR N Z) CL)) (fcvt FloatKind.f32 FloatKind.f64 (lenW N X Y Z CL))) (can FloatKind.f64 4562254508917369340) == some Ordering.gt then true else forder FloatKind.f32 (lenW N (scX (can FloatKind.f32 1073741824) X) (scX (can FloatKind.f32 1073741824) Y) (scX (can FloatKind.f32 1073741824) Z) CL) (fop BinOp.mul FloatKind.f32 (can FloatKind.f32 1073741824) (lenW N X Y Z CL)) != some Ordering.eq) == false) && ((!bif bif bif bif forder FloatKind.f64 (gap8 (fcvt FloatKind.f32 FloatKind.f64 (lenW N (adX P0 X) (adX P1 Y) (adX P2 Z) CL)) (fcvt FloatKind.f32 FloatKind.f64 (lenW N X Y Z CL))) (can FloatKind.f64 4562254508917369340) == some Ordering.gt then true else forder FloatKind.f64 (gap8 (fcvt FloatKind.f32 FloatKind.f64 (lenW N (spX (cT T) (sT T) X Y) (spY (cT T) (sT T) X Y) Z CL)) (fcvt FloatKind.f32 FloatKind.f64 (lenW N X Y Z CL))) (can FloatKind.f64 4562254508917369340) == some Ordering.gt then true else forder FloatKind.f64 (gap8 (fcvt FloatKind.f32 FloatKind.f64 (lenW N (revR N X) (revR N Y) (revR N Z) CL)) (fcvt FloatKind.f32 FloatKind.f64 (lenW N X Y Z CL))) (can FloatKind.f64 4562254508917369340) == some Ordering.gt then true else forder FloatKind.f32 (lenW N (scX (can FloatKind.f32 1073741824) X) (scX (can FloatKind.f32 1073741824) Y) (scX (can FloatKind.f32 1073741824) Z) CL) (fop BinOp.mul FloatKind.f32 (can FloatKind.f32 1073741824) (lenW N X Y Z CL)) != some Ordering.eq then true else false) && (okW N CU X Y Z && vfin (hfX N X Y Z CL) (hfY N X Y Z CL) (hfZ N X Y Z CL) && (okW N CU (adX P0 X) (adX P1 Y) (adX P2 Z) && vfin (hfX N (adX P0 X) (adX P1 Y) (adX P2 Z) CL) (hfY N (adX P0 X) (adX P1 Y) (adX P2 Z) CL) (hfZ N (adX P0 X) (adX P1 Y) (adX P2 Z) CL) && (okW N CU X Y Z && vfin (fop BinOp.mul FloatKind.f32 (hfX N X Y Z CL) CU) (fop BinOp.mul FloatKind.f32 (hfY N X Y Z CL) CU) (fop BinOp.mul FloatKind.f32 (hfZ N X Y Z CL) CU) && (okW N CU X Y Z && vfin (midW X N) (midW Y N) (midW Z N) && (okW N CU (adX P0 X) (adX P1 Y) (adX P2 Z) && vfin (midW (adX P0 X) N) (midW (adX P1 Y) N) (midW (adX P2 Z) N) && (!CL && true)))))))))))))))))))))
noncomputable def v8O (N CU P0 P1 P2 : Nat) (X Y Z : Nat → Nat) (CL : Bool) : Bool := bif bif bif Int.ofNat (cnt N CL) == IntKind.i64.wrap (Int.ofNat N - Int.ofNat 1) then bif !CL then true else forder FloatKind.f64 (fcvt FloatKind.f32 FloatKind.f64 (long (fop BinOp.sub FloatKind.f32 (hfX N X Y Z CL) (hfX N (adX P0 X) (adX P1 Y) (adX P2 Z) CL)) (fop BinOp.sub FloatKind.f32 (hfY N X Y Z CL) (hfY N (adX P0 X) (adX P1 Y) (adX P2 Z) CL)) (fop BinOp.sub FloatKind.f32 (hfZ N X Y Z CL) (hfZ N (adX P0 X) (adX P1 Y) (adX P2 Z) CL)))) (can FloatKind.f64 4562254508917369340) == some Ordering.lt else false then forder FloatKind.f64 (fcvt FloatKind.f32 FloatKind.f64 (long (fop BinOp.sub FloatKind.f32 (fop BinOp.mul FloatKind.f32 (hfX N X Y Z CL) CU) (fop BinOp.mul FloatKind.f32 (hfX N X Y Z CL) CU)) (fop BinOp.sub FloatKind.f32 (fop BinOp.mul FloatKind.f32 (hfY N X Y Z CL) CU) (fop BinOp.mul FloatKind.f32 (hfY N X Y Z CL) CU)) (fop BinOp.sub FloatKind.f32 (fop BinOp.mul FloatKind.f32 (hfZ N X Y Z CL) CU) (fop BinOp.mul FloatKind.f32 (hfZ N X Y Z CL) CU)))) (can FloatKind.f64 4562254508917369340) == some Ordering.lt else false then forder FloatKind.f64 (fcvt FloatKind.f32 FloatKind.f64 (long (fop BinOp.sub FloatKind.f32 (fop BinOp.add FloatKind.f32 (midW X N) P0) (midW (adX P0 X) N)) (fop BinOp.sub FloatKind.f32 (fop BinOp.add FloatKind.f32 (midW Y N) P1) (midW (adX P1 Y) N)) (fop BinOp.sub FloatKind.f32 (fop BinOp.add FloatKind.f32 (midW Z N) P2) (midW (adX P2 Z) N)))) (can FloatKind.f64 4562254508917369340) == some Ordering.lt else false
theorem walk8O (la lc : Nat) (b c : Nat → Nat) : autoW cfgR7 (fun _ => true) 0 (fun _ => none) [false, false, false, true] Try.f8 [.ro 1 la (.gen fun i => .int .u8 (Int.ofNat (b i))), .ro 1 lc (.gen fun i => .int .u8 (Int.ofNat (c i)))] =
    some ((!bif decide (Int.ofNat la > 48) then true else decide (Int.ofNat lc > 48)) && (allUpTo (isU8 fun i => A.int IntKind.u8 (Int.ofNat (b i))) la && (allUpTo (isU8 fun i => A.int IntKind.u8 (Int.ofNat (c i))) lc && (allUpTo (isU8 fun i => A.int IntKind.u8 (Int.ofNat (c i))) lc && true && true && c8O (wn la b) (wcu la b) (r8c lc c 0 0) (r8c lc c 0 1) (r8c lc c 0 2) (tQ (r8a lc c (Int.ofNat 3) (Int.ofNat 32))) (wpx la b) (wpy la b) (wpz la b) (wcl la b)))), .bool (v8O (wn la b) (wcu la b) (r8c lc c 0 0) (r8c lc c 0 1) (r8c lc c 0 2) (wpx la b) (wpy la b) (wpz la b) (wcl la b))) := by kernel_rfl
theorem long8 (la lc : Nat) (b c : Nat → Nat) : autoW cfgR7 (fun _ => true) 0 (fun _ => none) [true] Try.f8 [.ro 1 la (.gen fun i => .int .u8 (Int.ofNat (b i))), .ro 1 lc (.gen fun i => .int .u8 (Int.ofNat (c i)))] = some ((bif decide (Int.ofNat la > 48) then true else decide (Int.ofNat lc > 48)) && true, .bool true) := by kernel_rfl
end Go.Fw.E1

/-
  Fields of rings as the kernel evaluates them.
-/
namespace Go.Fw.E1
open Go.Proofs
noncomputable def band (a b : Bool) : Bool := Bool.rec false b a
theorem band_eq (a b : Bool) : band a b = (a && b) := by cases a <;> rfl
section
variable {a b c x y z : Nat} {A B C X Y Z : V} (ha : Rep .f32 a A) (hb : Rep .f32 b B) (hc : Rep .f32 c C) (hx : Rep .f32 x X) (hy : Rep .f32 y Y) (hz : Rep .f32 z Z)
include ha hb hc hx hy hz
end
/-! ### Sums over segments: points by tables -/
/-! ### The ring of eight points and radius 1 -/
end Go.Fw.E1

/-
  Bytes' choices, and values of what the kernel evaluates.
-/
namespace Go.Fw.E1
open Go.Proofs
theorem bandT {a b : Bool} (h : band a b = true) : a = true ∧ b = true := by rw [band_eq, Bool.and_eq_true] at h; exact h
theorem r8a_ex {la : Nat} {b : Nat → Nat} (hb : ∀ i, b i < 256) (k : Nat) {n : Nat} (hn : 0 < n) : ∃ v, v < n ∧ r8a la b (Int.ofNat k) (Int.ofNat n) = Int.ofNat v := by
  unfold r8a
  by_cases h : la ≤ k
  · exact ⟨0, hn, by rw [decide_eq_true (show Int.ofNat k ≥ Int.ofNat la by simp; omega)]; rfl⟩
  · refine ⟨b k % n, Nat.mod_lt _ hn, ?_⟩
    rw [decide_eq_false (show ¬ Int.ofNat k ≥ Int.ofNat la by simp; omega)]
    show (IntKind.i64.wrap (Int.ofNat (b k))).tmod (Int.ofNat n) = _
    rw [wrap_nat (by have := hb k; omega)]; rfl
theorem mag_val {w : Nat} {v : V} (hr : Rep .f32 w v) (hg : vgood v = true) : ∃ a, Val .f32 w a ∧ (a * unit .f32 = ((vmag v : Nat) : Rat) ∧ vlow v = false ∨ a * unit .f32 = -((vmag v : Nat) : Rat) ∧ vlow v = true) := by
  have hv := rep_val hr hg
  refine ⟨_, hv.val, ?_⟩
  have hu := unit_pos .f32
  rw [Rat.div_mul_cancel (by grind)]
  unfold Go.Fw.sg
  cases vlow v
  · exact .inl ⟨Rat.intCast_natCast _, rfl⟩
  · exact .inr ⟨by rw [if_pos rfl, Rat.intCast_neg, Rat.intCast_natCast], rfl⟩
theorem u8_all {la : Nat} {b : Nat → Nat} (hb : ∀ i, b i < 256) : allUpTo (isU8 (gL b)) la = true := allUpTo_iff.2 fun i _ => by
  show (decide (0 ≤ Int.ofNat (b i)) && decide (Int.ofNat (b i) < 256)) = true
  have := hb i
  rw [decide_eq_true (show 0 ≤ Int.ofNat (b i) from Int.natCast_nonneg _), decide_eq_true (show Int.ofNat (b i) < 256 by simp; omega)]; rfl
end Go.Fw.E1

/-
  The law of fields: rings and turns, evaluated.
-/
namespace Go.Fw.E1
open Go.Proofs
noncomputable def nd6 (a b : Nat) : Nat := Nat.add (Nat.sub a b) (Nat.sub b a)
noncomputable def sq6 (a : V) : Nat := Nat.mul (vmag a) (vmag a)
noncomputable def cV (v : Nat) : V := vsine (fcvt .f32 .f64 (fop .add .f32 (tQ (Int.ofNat v)) (can .f32 1048576000)))
noncomputable def sV (v : Nat) : V := vsine (fcvt .f32 .f64 (tQ (Int.ofNat v)))
def uu2 : Nat := 2 ^ 298
noncomputable def tnOk (v : Nat) : Bool := band (vgood (cV v)) (band (vgood (sV v)) (band (fin (tQ (Int.ofNat v))) (Nat.ble (Nat.mul 8388608 (nd6 (Nat.add (sq6 (cV v)) (sq6 (sV v))) uu2)) uu2)))
set_option maxRecDepth 100000 in
theorem tn_tab : allUpTo tnOk 32 = true := by decide +kernel
theorem sq_mag6 {w : Nat} {v : V} (hr : Rep .f32 w v) (hg : vgood v = true) : ∃ a, Val .f32 w a ∧ a * a * (unit .f32 * unit .f32) = ((sq6 v : Nat) : Rat) := by
  obtain ⟨a, h1, h2⟩ := mag_val hr hg
  refine ⟨a, h1, ?_⟩
  have e : ((sq6 v : Nat) : Rat) = ((vmag v : Nat) : Rat) * ((vmag v : Nat) : Rat) := Rat.natCast_mul _ _
  rw [e]
  rcases h2 with ⟨h2, _⟩ | ⟨h2, _⟩
  · rw [← h2]; grind
  · have : ((vmag v : Nat) : Rat) = -(a * unit .f32) := by grind
    rw [this]; grind
theorem turn_val {v : Nat} (hv : v < 32) : ∃ C S, Val .f32 (cT (tQ (Int.ofNat v))) C ∧ Val .f32 (sT (tQ (Int.ofNat v))) S ∧ Near (C * C + S * S - 1) (2 * ur .f32) ∧ fin (tQ (Int.ofNat v)) = true := by
  have ch := allUpTo_iff.1 tn_tab v hv
  unfold tnOk at ch
  obtain ⟨g1, ch⟩ := bandT ch
  obtain ⟨g2, ch⟩ := bandT ch
  obtain ⟨g3, g4⟩ := bandT ch
  obtain ⟨C, c1, c2⟩ := sq_mag6 (rep_sine (fcvt .f32 .f64 (fop .add .f32 (tQ (Int.ofNat v)) (can .f32 1048576000)))) g1
  obtain ⟨S, s1, s2⟩ := sq_mag6 (rep_sine (fcvt .f32 .f64 (tQ (Int.ofNat v)))) g2
  refine ⟨C, S, c1, s1, ?_, g3⟩
  have g4 := Nat.le_of_ble_eq_true g4
  have c2 : C * C * (unit .f32 * unit .f32) = ((sq6 (cV v) : Nat) : Rat) := c2
  have s2 : S * S * (unit .f32 * unit .f32) = ((sq6 (sV v) : Nat) : Rat) := s2
  generalize sq6 (cV v) = a at *
  generalize sq6 (sV v) = b at *
  have h5 : 8388608 * (a + b) ≤ 8388609 * uu2 ∧ 8388607 * uu2 ≤ 8388608 * (a + b) := by
    have e : Nat.mul 8388608 (nd6 (Nat.add a b) uu2) = 8388608 * ((a + b - uu2) + (uu2 - (a + b))) := rfl
    rw [e] at g4
    omega
  have cm := fun (x y : Nat) => Rat.natCast_mul x y
  have h6 := Rat.natCast_le_natCast.2 h5.1
  have h7 := Rat.natCast_le_natCast.2 h5.2
  rw [cm, cm, Rat.natCast_add, ← c2, ← s2] at h6 h7
  have u2 : ((uu2 : Nat) : Rat) = unit .f32 * unit .f32 := by decide +kernel
  have e1 : ((8388608 : Nat) : Rat) = 8388608 := rfl
  have e2 : ((8388609 : Nat) : Rat) = 8388609 := rfl
  have e3 : ((8388607 : Nat) : Rat) = 8388607 := rfl
  rw [u2, e1, e2] at h6
  rw [u2, e1, e3] at h7
  have u0 := unit_pos .f32
  have uu := Rat.mul_pos u0 u0
  have k : 2 * ur .f32 * 8388608 = 1 := by decide +kernel
  have f1 : 8388608 * (C * C + S * S) ≤ 8388609 := Rat.le_of_mul_le_mul_right (c := unit .f32 * unit .f32) (by grind) uu
  have f2 : 8388607 ≤ 8388608 * (C * C + S * S) := Rat.le_of_mul_le_mul_right (c := unit .f32 * unit .f32) (by grind) uu
  constructor
  · refine Rat.le_of_mul_le_mul_left (c := 8388608) ?_ (by decide)
    grind
  · refine Rat.le_of_mul_le_mul_left (c := 8388608) ?_ (by decide)
    grind
/-! ### Rings -/
end Go.Fw.E1

/-
  The law of fields: a ring's field, twice the current, gone back.
-/
namespace Go.Fw.E1
open Go.Proofs
/-- A place of the law, in quarters. -/
structure Place (P Q Z : Nat) (i j k : Nat) : Prop where
  hi : i < 17
  hj : j < 17
  hk : k < 17
  p : Qt P (Int.ofNat i - 8)
  q : Qt Q (Int.ofNat j - 8)
  z : Qt Z (Int.ofNat k + 4)
section
variable {P Q Z i j k v : Nat} (H : Place P Q Z i j k) (hv : v < 10)
include H hv
end
end Go.Fw.E1

/-
  The law of fields: a square and a place turned together.
-/
namespace Go.Fw.E1
open Go.Proofs
section
variable {P Q Z i j k v : Nat} (H : Place P Q Z i j k) (hv : v < 32)
include H hv
end
end Go.Fw.E1

/-
  The law of fields: rings.
-/
namespace Go.Fw.E1
open Go.Proofs
section
variable {P Q Z i j k v : Nat} (H : Place P Q Z i j k) (hv : v < 10)
include H hv
end
end Go.Fw.E1

/-
  The law of fields: all of it, but for the walk.
-/
namespace Go.Fw.E1
open Go.Proofs
section
variable {P Q Z i j k v u : Nat} (H : Place P Q Z i j k) (hv : v < 10) (hu : u < 32)
include H hv hu
end
end Go.Fw.E1

/-
  Wires fed with another current.
-/
namespace Go.Fw.E1
open Go.Proofs
end Go.Fw.E1

/-
  The law of fields.
-/
namespace Go.Fw.E1
open Go.Proofs
end Go.Fw.E1

/-
  Quarters: sums, differences, doubles as words.
-/
namespace Go.Fw.E1
open Go.Proofs
/-- The word of so many quarters less 16. -/
def hw (j : Nat) : Nat := [3229614080, 3228565504, 3227516928, 3226468352, 3225419776, 3224371200, 3223322624, 3222274048, 3221225472, 3219128320, 3217031168, 3214934016, 3212836864, 3208642560, 3204448256, 3196059648, 0, 1048576000, 1056964608, 1061158912, 1065353216, 1067450368, 1069547520, 1071644672, 1073741824, 1074790400, 1075838976, 1076887552, 1077936128, 1078984704, 1080033280, 1081081856, 1082130432].getD j 0
/-- The word of so many quarters less 32. -/
def dw (j : Nat) : Nat := [3238002688, 3237478400, 3236954112, 3236429824, 3235905536, 3235381248, 3234856960, 3234332672, 3233808384, 3233284096, 3232759808, 3232235520, 3231711232, 3231186944, 3230662656, 3230138368, 3229614080, 3228565504, 3227516928, 3226468352, 3225419776, 3224371200, 3223322624, 3222274048, 3221225472, 3219128320, 3217031168, 3214934016, 3212836864, 3208642560, 3204448256, 3196059648, 0, 1048576000, 1056964608, 1061158912, 1065353216, 1067450368, 1069547520, 1071644672, 1073741824, 1074790400, 1075838976, 1076887552, 1077936128, 1078984704, 1080033280, 1081081856, 1082130432, 1082654720, 1083179008, 1083703296, 1084227584, 1084751872, 1085276160, 1085800448, 1086324736, 1086849024, 1087373312, 1087897600, 1088421888, 1088946176, 1089470464, 1089994752, 1090519040].getD j 0
set_option maxRecDepth 100000 in
theorem qh_tab : allUpTo (fun i => Nat.beq (qw i) (hw (i + 8))) 17 = true := by decide +kernel
theorem qw_hw {i : Nat} (h : i < 17) : qw i = hw (i + 8) := Nat.eq_of_beq_eq_true (allUpTo_iff.1 qh_tab i h)
set_option maxRecDepth 100000 in
theorem add_tab : allUpTo (fun i => allUpTo (fun p => Nat.beq (fop .add .f32 (qw i) (qw p)) (hw (i + p))) 17) 17 = true := by decide +kernel
theorem add_qw {i p : Nat} (hi : i < 17) (hp : p < 17) : fop .add .f32 (qw i) (qw p) = hw (i + p) := Nat.eq_of_beq_eq_true (allUpTo_iff.1 (allUpTo_iff.1 add_tab i hi) p hp)
set_option maxRecDepth 100000 in
theorem sub_tab : allUpTo (fun s => allUpTo (fun t => Nat.beq (fop .sub .f32 (hw s) (hw t)) (dw (s + 32 - t))) 33) 33 = true := by decide +kernel
theorem sub_hw {s t : Nat} (hs : s < 33) (ht : t < 33) : fop .sub .f32 (hw s) (hw t) = dw (s + 32 - t) := Nat.eq_of_beq_eq_true (allUpTo_iff.1 (allUpTo_iff.1 sub_tab s hs) t ht)
set_option maxRecDepth 100000 in
theorem dbl_tab : allUpTo (fun i => Nat.beq (fop .mul .f32 (qw i) (can .f32 1073741824)) (hw (2 * i))) 17 = true := by decide +kernel
theorem dbl_qw {i : Nat} (h : i < 17) : fop .mul .f32 (qw i) (can .f32 1073741824) = hw (2 * i) := Nat.eq_of_beq_eq_true (allUpTo_iff.1 dbl_tab i h)
set_option maxRecDepth 100000 in
theorem samO_tab : allUpTo (fun i => samO (qw i) (qw i)) 17 = true := by decide +kernel
theorem samO_qw {i : Nat} (h : i < 17) : samO (qw i) (qw i) = true := allUpTo_iff.1 samO_tab i h
end Go.Fw.E1

/-
  Wires of quarters: lengths of moved ones, segments of wires gone back.
-/
namespace Go.Fw.E1
open Go.Proofs
/-- Quarters all. -/
def Qs (x : Nat → Nat) : Prop := ∀ k, ∃ i, i < 17 ∧ x k = qw i
theorem sub_qw {i j : Nat} (hi : i < 17) (hj : j < 17) : fop .sub .f32 (qw i) (qw j) = dw (i + 32 - j) := by
  rw [qw_hw hi, qw_hw hj, sub_hw (by omega) (by omega)]
  congr 1
  omega
theorem mov_sub {x : Nat → Nat} (hx : Qs x) {p : Nat} (hp : p < 17) (k j : Nat) : fop .sub .f32 (adX (qw p) x k) (adX (qw p) x j) = fop .sub .f32 (x k) (x j) := by
  obtain ⟨i, hi, ei⟩ := hx k
  obtain ⟨m, hm, em⟩ := hx j
  unfold adX
  rw [ei, em, add_qw hi hp, add_qw hm hp, sub_hw (by omega) (by omega), sub_qw hi hm]
  congr 1
  omega
theorem dbl_sub {x : Nat → Nat} (hx : Qs x) (k j : Nat) : ∃ i m, i < 17 ∧ m < 17 ∧ fop .sub .f32 (x k) (x j) = dw (i + 32 - m) ∧ fop .sub .f32 (scX (can .f32 1073741824) x k) (scX (can .f32 1073741824) x j) = dw (2 * i + 32 - 2 * m) := by
  obtain ⟨i, hi, ei⟩ := hx k
  obtain ⟨m, hm, em⟩ := hx j
  refine ⟨i, m, hi, hm, ?_, ?_⟩
  · rw [ei, em, sub_qw hi hm]
  · unfold scX
    rw [ei, em, dbl_qw hi, dbl_qw hm, sub_hw (by omega) (by omega)]
theorem segLen_mov {n : Nat} {x y z : Nat → Nat} (hx : Qs x) (hy : Qs y) (hz : Qs z) {p q r : Nat} (hp : p < 17) (hq : q < 17) (hr : r < 17) (k : Nat) :
    segLen (sg n (adX (qw p) x) (adX (qw q) y) (adX (qw r) z)) k = segLen (sg n x y z) k := by
  unfold segLen
  show long (fop .sub .f32 (adX (qw p) x (nx n k)) (adX (qw p) x k)) (fop .sub .f32 (adX (qw q) y (nx n k)) (adX (qw q) y k)) (fop .sub .f32 (adX (qw r) z (nx n k)) (adX (qw r) z k)) = _
  rw [mov_sub hx hp, mov_sub hy hq, mov_sub hz hr]
  rfl
theorem lenS_congr {g h : Nat → Nat → Nat} (s : Nat) : ∀ m, (∀ k, k < m → segLen g k = segLen h k) → lenS g s m = lenS h s m
  | 0, _ => rfl
  | m + 1, H => by
    unfold lenS
    rw [lenS_congr s m fun k hk => H k (by omega), H m (by omega)]
theorem lenW_mov {n : Nat} {x y z : Nat → Nat} (hx : Qs x) (hy : Qs y) (hz : Qs z) {p q r : Nat} (hp : p < 17) (hq : q < 17) (hr : r < 17) (cl : Bool) :
    lenW n (adX (qw p) x) (adX (qw q) y) (adX (qw r) z) cl = lenW n x y z cl := lenS_congr _ _ fun k _ => segLen_mov hx hy hz hp hq hr k
set_option maxRecDepth 100000 in
theorem sqr_tab : allUpTo (fun a => Nat.beq (fop .mul .f32 (dw a) (dw a)) (fop .mul .f32 (dw (64 - a)) (dw (64 - a)))) 65 = true := by decide +kernel
theorem sqr_dw {a : Nat} (h : a < 65) : fop .mul .f32 (dw a) (dw a) = fop .mul .f32 (dw (64 - a)) (dw (64 - a)) := Nat.eq_of_beq_eq_true (allUpTo_iff.1 sqr_tab a h)
theorem sqr_sub {x : Nat → Nat} (hx : Qs x) (k j : Nat) : fop .mul .f32 (fop .sub .f32 (x k) (x j)) (fop .sub .f32 (x k) (x j)) = fop .mul .f32 (fop .sub .f32 (x j) (x k)) (fop .sub .f32 (x j) (x k)) := by
  obtain ⟨i, hi, ei⟩ := hx k
  obtain ⟨m, hm, em⟩ := hx j
  rw [ei, em, sub_qw hi hm, sub_qw hm hi, sqr_dw (by omega)]
  rw [show 64 - (i + 32 - m) = m + 32 - i from by omega]
/-- From one point to another is as far as back. -/
theorem long_back {x y z : Nat → Nat} (hx : Qs x) (hy : Qs y) (hz : Qs z) (k j : Nat) :
    long (fop .sub .f32 (x k) (x j)) (fop .sub .f32 (y k) (y j)) (fop .sub .f32 (z k) (z j)) = long (fop .sub .f32 (x j) (x k)) (fop .sub .f32 (y j) (y k)) (fop .sub .f32 (z j) (z k)) := by
  unfold long inn
  rw [sqr_sub hx, sqr_sub hy, sqr_sub hz]
theorem revR_lt {n k : Nat} (x : Nat → Nat) (h : k < n) : revR n (revR n x) k = x k := by
  unfold revR
  congr 1
  omega
theorem same_again {n : Nat} {x y z : Nat → Nat} (hx : Qs x) (hy : Qs y) (hz : Qs z) : allUpTo (samVAt (revR n (revR n x)) (revR n (revR n y)) (revR n (revR n z)) x y z) n = true := by
  refine allUpTo_iff.2 fun k hk => ?_
  unfold samVAt samV
  obtain ⟨i, hi, ei⟩ := hx k
  obtain ⟨j, hj, ej⟩ := hy k
  obtain ⟨m, hm, em⟩ := hz k
  rw [revR_lt x hk, revR_lt y hk, revR_lt z hk, ei, ej, em, samO_qw hi, samO_qw hj, samO_qw hm]
  rfl
/-- A segment of a wire gone back, of an open wire. -/
theorem seg_rev {n k : Nat} {x y z : Nat → Nat} (hx : Qs x) (hy : Qs y) (hz : Qs z) (h : k + 1 < n) :
    segLen (sg n (revR n x) (revR n y) (revR n z)) k = segLen (sg n x y z) (n - 2 - k) := by
  have e1 : nx n k = k + 1 := by unfold nx; exact Nat.mod_eq_of_lt h
  have e2 : nx n (n - 2 - k) = n - 2 - k + 1 := by unfold nx; exact Nat.mod_eq_of_lt (by omega)
  unfold segLen
  show long (fop .sub .f32 (revR n x (nx n k)) (revR n x k)) (fop .sub .f32 (revR n y (nx n k)) (revR n y k)) (fop .sub .f32 (revR n z (nx n k)) (revR n z k)) = long (fop .sub .f32 (x (nx n (n - 2 - k))) (x (n - 2 - k))) (fop .sub .f32 (y (nx n (n - 2 - k))) (y (n - 2 - k))) (fop .sub .f32 (z (nx n (n - 2 - k))) (z (n - 2 - k)))
  rw [e1, e2]
  unfold revR
  rw [show n - 1 - (k + 1) = n - 2 - k from by omega, show n - 1 - k = n - 2 - k + 1 from by omega]
  exact long_back hx hy hz _ _
/-- The segment that closes a wire gone back. -/
theorem seg_rev_end {n : Nat} {x y z : Nat → Nat} (hx : Qs x) (hy : Qs y) (hz : Qs z) (h : 0 < n) :
    segLen (sg n (revR n x) (revR n y) (revR n z)) (n - 1) = segLen (sg n x y z) (n - 1) := by
  have e1 : nx n (n - 1) = 0 := by unfold nx; rw [Nat.sub_add_cancel h, Nat.mod_self]
  unfold segLen
  show long (fop .sub .f32 (revR n x (nx n (n - 1))) (revR n x (n - 1))) (fop .sub .f32 (revR n y (nx n (n - 1))) (revR n y (n - 1))) (fop .sub .f32 (revR n z (nx n (n - 1))) (revR n z (n - 1))) = long (fop .sub .f32 (x (nx n (n - 1))) (x (n - 1))) (fop .sub .f32 (y (nx n (n - 1))) (y (n - 1))) (fop .sub .f32 (z (nx n (n - 1))) (z (n - 1)))
  rw [e1]
  unfold revR
  rw [Nat.sub_zero, Nat.sub_self]
  exact long_back hx hy hz _ _
end Go.Fw.E1

/-
  Wires of quarters: how long segments and wires are.
-/
namespace Go.Fw.E1
open Go.Proofs
/-- So many sixteenths. -/
def St (w : Nat) (z : Int) : Prop := Val .f32 w ((z : Rat) * (1 / 16))
theorem st16 : (1 / 16 : Rat) * ((2 ^ 4 : Nat) : Rat) = 1 := by decide +kernel
theorem st_near {z : Int} (h : z.natAbs < 2 ^ 24) : Near ((z : Rat) * (1 / 16)) most := by
  have h1 := near_most h
  unfold Near at h1 ⊢
  have h2 : (0 : Rat) ≤ most := by decide +kernel
  obtain ⟨h3, h4⟩ := h1
  constructor <;> grind
theorem St.add {x y : Nat} {a b : Int} (hx : St x a) (hy : St y b) (h : (a + b).natAbs < 2 ^ 24) : St (fop .add .f32 x y) (a + b) := by
  have e : (a : Rat) * (1 / 16) + (b : Rat) * (1 / 16) = ((a + b : Int) : Rat) * (1 / 16) := by rw [Rat.intCast_add, Rat.add_mul]
  have := Val.add_exact (e := 4) (m := a + b) hx hy (by rw [e, Rat.mul_assoc, st16, Rat.mul_one]) h (by decide) (by rw [e]; exact st_near h)
  unfold St
  rw [← e]
  exact this
set_option maxRecDepth 100000 in
theorem sqv_tab : allUpTo (fun a => isV .f32 (vof .f32 (fop .mul .f32 (dw a) (dw a))) ((((Int.ofNat a - 32) * (Int.ofNat a - 32) : Int) : Rat) * (1 / 16))) 65 = true := by decide +kernel
theorem sq_st {a : Nat} (h : a < 65) : St (fop .mul .f32 (dw a) (dw a)) ((Int.ofNat a - 32) * (Int.ofNat a - 32)) := Val.of_vof (allUpTo_iff.1 sqv_tab a h)
theorem sq_le {a : Int} {m : Int} (h1 : -m ≤ a) (h2 : a ≤ m) : 0 ≤ a * a ∧ a * a ≤ m * m := by
  constructor
  · rcases Int.le_total 0 a with h | h
    · exact Int.mul_nonneg h h
    · have := Int.mul_nonneg (a := -a) (b := -a) (by omega) (by omega)
      rwa [Int.neg_mul_neg] at this
  · have h3 : 0 ≤ (m - a) * (m + a) := Int.mul_nonneg (by omega) (by omega)
    have h4 : (m - a) * (m + a) = m * m - a * a := by grind
    omega
/-- How long three steps of quarters are together. -/
theorem long_dw {a b c : Nat} (ha : a < 65) (hb : b < 65) (hc : c < 65) : ∃ s m : Rat, Val .f32 (long (dw a) (dw b) (dw c)) s ∧ 0 ≤ s ∧ s ≤ 14 ∧ Near (s * s - m) (m * e22) ∧ 0 ≤ m ∧ m ≤ 192 ∧
    m = (((Int.ofNat a - 32) * (Int.ofNat a - 32) + (Int.ofNat b - 32) * (Int.ofNat b - 32) + (Int.ofNat c - 32) * (Int.ofNat c - 32) : Int) : Rat) * (1 / 16) := by
  have qa := sq_le (a := Int.ofNat a - 32) (m := 32) (by have : (Int.ofNat a) = (a : Int) := rfl; omega) (by have : (Int.ofNat a) = (a : Int) := rfl; omega)
  have qb := sq_le (a := Int.ofNat b - 32) (m := 32) (by have : (Int.ofNat b) = (b : Int) := rfl; omega) (by have : (Int.ofNat b) = (b : Int) := rfl; omega)
  have qc := sq_le (a := Int.ofNat c - 32) (m := 32) (by have : (Int.ofNat c) = (c : Int) := rfl; omega) (by have : (Int.ofNat c) = (c : Int) := rfl; omega)
  have sa := sq_st ha
  have sb := sq_st hb
  have sc := sq_st hc
  generalize (Int.ofNat a - 32) * (Int.ofNat a - 32) = A at *
  generalize (Int.ofNat b - 32) * (Int.ofNat b - 32) = B at *
  generalize (Int.ofNat c - 32) * (Int.ofNat c - 32) = C at *
  have S := (sa.add sb (by omega)).add sc (by omega)
  have z0 : (0 : Rat) ≤ ((A + B + C : Int) : Rat) := Rat.intCast_nonneg.2 (by omega)
  have z1 : ((A + B + C : Int) : Rat) ≤ ((3072 : Int) : Rat) := Rat.intCast_le_intCast.2 (by omega)
  have z1 : ((A + B + C : Int) : Rat) ≤ 3072 := z1
  generalize hm : ((A + B + C : Int) : Rat) * (1 / 16) = m
  have m0 : 0 ≤ m := by grind
  have m1 : m ≤ 192 := by grind
  have S : Val .f32 (inn (dw a) (dw b) (dw c) (dw a) (dw b) (dw c)) m := by unfold St at S; rw [hm] at S; exact S
  obtain ⟨s, h1, h2, h3, _⟩ := S.root m0 (Rat.le_trans m1 (by decide +kernel))
  refine ⟨s, m, h1, h2, ?_, h3, m0, m1, rfl⟩
  refine le_of_sq (by decide) ?_
  have h4 : m * e22 ≤ 192 * (1 / 4194304) := by
    have : m * e22 ≤ 192 * e22 := Rat.mul_le_mul_of_nonneg_right m1 (by decide +kernel)
    exact this
  unfold Near at h3
  grind
end Go.Fw.E1

/-
  Wires of quarters: how long they are, gone back too.
-/
namespace Go.Fw.E1
open Go.Proofs
theorem seg_len {n : Nat} {x y z : Nat → Nat} (hx : Qs x) (hy : Qs y) (hz : Qs z) (k : Nat) : ∃ s : Rat, Val .f32 (segLen (sg n x y z) k) s ∧ 0 ≤ s ∧ s ≤ 14 := by
  obtain ⟨i1, hi1, e1⟩ := hx (nx n k)
  obtain ⟨i2, hi2, e2⟩ := hx k
  obtain ⟨j1, hj1, f1⟩ := hy (nx n k)
  obtain ⟨j2, hj2, f2⟩ := hy k
  obtain ⟨m1, hm1, g1⟩ := hz (nx n k)
  obtain ⟨m2, hm2, g2⟩ := hz k
  obtain ⟨s, _, h1, h2, h3, _⟩ := long_dw (a := i1 + 32 - i2) (b := j1 + 32 - j2) (c := m1 + 32 - m2) (by omega) (by omega) (by omega)
  refine ⟨s, ?_, h2, h3⟩
  show Val .f32 (long (fop .sub .f32 (x (nx n k)) (x k)) (fop .sub .f32 (y (nx n k)) (y k)) (fop .sub .f32 (z (nx n k)) (z k))) s
  rw [e1, e2, f1, f2, g1, g2, sub_qw hi1 hi2, sub_qw hj1 hj2, sub_qw hm1 hm2]
  exact h1
theorem near14 {s : Rat} (h0 : 0 ≤ s) (h1 : s ≤ 14) : Near s 14 := by unfold Near; constructor <;> grind
/-- Sums of lengths, in numbers. -/
theorem lenS_val {g : Nat → Nat → Nat} {f : Nat → Rat} {m : Nat} (hm : m ≤ 6) (hf : ∀ k, k < m → Val .f32 (segLen g k) (f k) ∧ 0 ≤ f k ∧ f k ≤ 14) : ∃ v, Val .f32 (lenS g (can .f32 0) m) v ∧ Near (v - rsum f m) (1 / 10000) := by
  have hz : Val .f32 (can .f32 0) 0 := Val.of_vof (by decide +kernel)
  obtain ⟨v, h1, h2⟩ := sum_val (s := fun k => lenS g (can .f32 0) k) (t := segLen g) (f := f) (B := 14) (n := m) hz (fun _ => rfl) (fun k hk => (hf k hk).1) (fun k hk => near14 (hf k hk).2.1 (hf k hk).2.2) (by omega) (by decide) (by decide) m (Nat.le_refl _)
  refine ⟨v, h1, h2.mono ?_⟩
  have hm6 : ((m : Nat) : Rat) ≤ 6 := by
    have : ((m : Nat) : Rat) ≤ ((6 : Nat) : Rat) := Rat.natCast_le_natCast.2 hm
    exact this
  have h3 : ((m : Nat) : Rat) * eta 14 ≤ 6 * eta 14 := Rat.mul_le_mul_of_nonneg_right hm6 (by decide +kernel)
  exact Rat.le_trans h3 (by decide +kernel)
/-- The words of the lengths in a wire's own order and gone back, in numbers. -/
theorem back_val {n : Nat} {x y z : Nat → Nat} (hx : Qs x) (hy : Qs y) (hz : Qs z) (h0 : 2 ≤ n) (h6 : n ≤ 6) (cl : Bool) : ∃ v u, Val .f32 (lenW n x y z cl) v ∧ Val .f32 (lenW n (revR n x) (revR n y) (revR n z) cl) u ∧ Near (u - v) (1 / 5000) := by
  have H : ∀ k, ∃ s : Rat, Val .f32 (segLen (sg n x y z) k) s ∧ 0 ≤ s ∧ s ≤ 14 := seg_len hx hy hz
  let f : Nat → Rat := fun k => (H k).choose
  have hf : ∀ k, Val .f32 (segLen (sg n x y z) k) (f k) ∧ 0 ≤ f k ∧ f k ≤ 14 := fun k => (H k).choose_spec
  have hc : cnt n cl ≤ 6 := Nat.le_trans (cnt_le n cl) h6
  obtain ⟨v, v1, v2⟩ := lenS_val hc (fun k _ => hf k)
  let g : Nat → Rat := fun k => if k + 1 < n then f (n - 2 - k) else f k
  have hg : ∀ k, k < cnt n cl → Val .f32 (segLen (sg n (revR n x) (revR n y) (revR n z)) k) (g k) ∧ 0 ≤ g k ∧ g k ≤ 14 := fun k hk => by
    have hk := cnt_lt hk
    show Val .f32 _ (if k + 1 < n then f (n - 2 - k) else f k) ∧ 0 ≤ (if k + 1 < n then f (n - 2 - k) else f k) ∧ (if k + 1 < n then f (n - 2 - k) else f k) ≤ 14
    by_cases h : k + 1 < n
    · rw [if_pos h, seg_rev hx hy hz h]
      exact hf _
    · rw [if_neg h]
      obtain rfl : k = n - 1 := by omega
      rw [seg_rev_end hx hy hz (by omega)]
      exact hf _
  obtain ⟨u, u1, u2⟩ := lenS_val hc hg
  have hopen : rsum g (n - 1) = rsum f (n - 1) := by
    rw [← rsum_rev f (n - 1)]
    refine rsum_congr _ fun j hj => ?_
    show (if j + 1 < n then f (n - 2 - j) else f j) = f (n - 1 - 1 - j)
    rw [if_pos (by omega)]
  have hs : rsum g (cnt n cl) = rsum f (cnt n cl) := by
    cases cl
    · exact hopen
    · show rsum g n = rsum f n
      obtain ⟨m, rfl⟩ : ∃ m, n = m + 1 := ⟨n - 1, by omega⟩
      show rsum g m + g m = rsum f m + f m
      rw [show rsum g m = rsum f m from hopen]
      show rsum f m + (if m + 1 < m + 1 then f (m + 1 - 2 - m) else f m) = _
      rw [if_neg (by omega)]
  refine ⟨v, u, v1, u1, ?_⟩
  rw [hs] at u2
  generalize rsum f (cnt n cl) = S at u2 v2
  unfold Near at u2 v2 ⊢
  obtain ⟨p1, p2⟩ := u2
  obtain ⟨p3, p4⟩ := v2
  constructor <;> grind
theorem kMil : Val .f64 (can .f64 4562254508917369340) (1152921504606847 / 2 ^ 60) := Val.of_vof (by decide +kernel)
/-- Gaps that the law lets pass. -/
theorem gap_len {l r : Nat} {v u : Rat} (hv : Val .f32 l v) (hu : Val .f32 r u) (h : Near (u - v) (1 / 5000)) : (forder .f64 (gap8 (fcvt .f32 .f64 r) (fcvt .f32 .f64 l)) (can .f64 4562254508917369340) == some .gt) = false :=
  gap_ngt hu.widen hv.widen h kMil (by decide +kernel) (by decide +kernel)
theorem gap_back {n : Nat} {x y z : Nat → Nat} (hx : Qs x) (hy : Qs y) (hz : Qs z) (h0 : 2 ≤ n) (h6 : n ≤ 6) (cl : Bool) : (forder .f64 (gap8 (fcvt .f32 .f64 (lenW n (revR n x) (revR n y) (revR n z) cl)) (fcvt .f32 .f64 (lenW n x y z cl))) (can .f64 4562254508917369340) == some .gt) = false := by
  obtain ⟨v, u, h1, h2, h3⟩ := back_val hx hy hz h0 h6 cl
  exact gap_len h1 h2 h3
theorem gap_mov {n : Nat} {x y z : Nat → Nat} (hx : Qs x) (hy : Qs y) (hz : Qs z) (h0 : 2 ≤ n) (h6 : n ≤ 6) (cl : Bool) {p q r : Nat} (hp : p < 17) (hq : q < 17) (hr : r < 17) : (forder .f64 (gap8 (fcvt .f32 .f64 (lenW n (adX (qw p) x) (adX (qw q) y) (adX (qw r) z) cl)) (fcvt .f32 .f64 (lenW n x y z cl))) (can .f64 4562254508917369340) == some .gt) = false := by
  obtain ⟨v, _, h1, _⟩ := back_val hx hy hz h0 h6 cl
  rw [lenW_mov hx hy hz hp hq hr]
  exact gap_len h1 h1 (by unfold Near; constructor <;> grind)
end Go.Fw.E1

/-
  Twice a wire: sums and roots of doubles.
-/
namespace Go.Fw.E1
open Go.Proofs
theorem twice_of {k : FloatKind} {n m : Int} {a : Rat} (h : (n : Rat) = a * unit k) (h' : (m : Rat) = 2 * a * unit k) : m = 2 * n := by
  have e : ((m : Int) : Rat) = ((2 * n : Int) : Rat) := by
    rw [Rat.intCast_mul, h, h']
    show 2 * a * unit k = ((2 : Int) : Rat) * (a * unit k)
    rw [show ((2 : Int) : Rat) = 2 from rfl, Rat.mul_assoc]
  exact Rat.intCast_inj.1 e
theorem val_add_dbl {k : FloatKind} {x y x' y' : Nat} {a b X : Rat} (hx : Val k x a) (hy : Val k y b) (hx' : Val k x' (2 * a)) (hy' : Val k y' (2 * b)) (hX : Near (a + b) X) (h0 : 0 ≤ X) (hm : 2 * X ≤ most) : ∃ c, Val k (fop .add k x y) c ∧ Val k (fop .add k x' y') (2 * c) := by
  obtain ⟨n, n1, n2⟩ := hx
  obtain ⟨m, m1, m2⟩ := hy
  obtain ⟨n', n1', n2'⟩ := hx'
  obtain ⟨m', m1', m2'⟩ := hy'
  obtain rfl := twice_of n2 n2'
  obtain rfl := twice_of m2 m2'
  have u0 := unit_pos k
  have e : ((n + m : Int) : Rat) = (a + b) * unit k := by rw [Rat.intCast_add, n2, m2]; grind
  have e' : ((2 * (n + m) : Int) : Rat) = 2 * (a + b) * unit k := by rw [Rat.intCast_mul, e, show ((2 : Int) : Rat) = 2 from rfl, Rat.mul_assoc]
  have hN : Near (((n + m : Int) : Rat)) (X * unit k) := by
    rw [e]
    unfold Near at *
    have h1 := Rat.mul_le_mul_of_nonneg_right hX.1 (Rat.le_of_lt u0)
    have h2 := Rat.mul_le_mul_of_nonneg_right hX.2 (Rat.le_of_lt u0)
    constructor <;> grind
  have hN' : Near (((2 * (n + m) : Int) : Rat)) (2 * X * unit k) := by
    rw [e', Rat.mul_assoc, Rat.mul_assoc, ← e]
    generalize ((n + m : Int) : Rat) = z at hN
    generalize X * unit k = w at hN
    unfold Near at hN ⊢
    obtain ⟨p1, p2⟩ := hN
    constructor <;> grind
  have l := rI_lim (z := n + m) (D := 1) (by decide) (by rw [show (((1 : Nat)) : Rat) = 1 from rfl, Rat.mul_one]) hN (by grind)
  have l' := rI_lim (z := 2 * (n + m)) (D := 1) (by decide) (by rw [show (((1 : Nat)) : Rat) = 1 from rfl, Rat.mul_one]) hN' hm
  have h1 := (Fin.add n1 m1 l).val
  have h2 := Fin.add n1' m1'
  rw [show 2 * n + 2 * m = 2 * (n + m) by omega] at h2
  have h2 := (h2 l').val
  rw [rI_double] at h2
  refine ⟨_, h1, ?_⟩
  have : ((2 * rI k (n + m) 1 : Int) : Rat) / unit k = 2 * (((rI k (n + m) 1 : Int) : Rat) / unit k) := by
    rw [Rat.intCast_mul, Rat.div_def, Rat.div_def, show ((2 : Int) : Rat) = 2 from rfl, Rat.mul_assoc]
  rw [this] at h2
  exact h2
/-- The word of so many sixteenths. -/
noncomputable def w16 (M : Nat) : Nat := fop .mul .f32 (fofInt .f32 (Int.ofNat M)) (can .f32 1031798784)
noncomputable def intV (v : V) : Int := Fw.sg (vlow v) (vmag v)
noncomputable def rt16 (M : Nat) : Bool := isV .f32 (vof .f32 (w16 M)) (((Int.ofNat M : Int) : Rat) * (1 / 16)) && isV .f32 (vof .f32 (w16 (4 * M))) (((Int.ofNat (4 * M) : Int) : Rat) * (1 / 16)) &&
  vgood (vsqrt (vof .f32 (w16 M))) && vgood (vsqrt (vof .f32 (w16 (4 * M)))) && decide (intV (vsqrt (vof .f32 (w16 (4 * M)))) = 2 * intV (vsqrt (vof .f32 (w16 M))))
set_option maxRecDepth 1000000 in
theorem rt16_tab : allUpTo rt16 769 = true := by decide +kernel
theorem root_dbl {M w w' : Nat} (h : M < 769) (hw : St w (Int.ofNat M)) (hw' : St w' (Int.ofNat (4 * M))) : ∃ n : Int, Fin .f32 (root32 w) n ∧ Fin .f32 (root32 w') (2 * n) := by
  have t := allUpTo_iff.1 rt16_tab M h
  unfold rt16 at t
  simp only [Bool.and_eq_true] at t
  obtain ⟨⟨⟨⟨t1, t2⟩, t3⟩, t4⟩, t5⟩ := t
  have t5 := of_decide_eq_true t5
  refine ⟨intV (vsqrt (vof .f32 (w16 M))), rep_val (rep_vsqrt (Val.rep hw t1)) t3, ?_⟩
  rw [← t5]
  exact rep_val (rep_vsqrt (Val.rep hw' t2)) t4
end Go.Fw.E1

/-
  Twice a wire is twice as long.
-/
namespace Go.Fw.E1
open Go.Proofs
theorem rI_scal (z : Int) : rI .f32 (z * ((2 ^ 149 : Nat) : Int)) (2 ^ scK .f32) = rI .f32 z 1 := by
  have sc : scK .f32 = 149 := rfl
  rw [sc]
  unfold rI
  have np : (0 : Int) < ((2 ^ 149 : Nat) : Int) := by decide
  have d : decide (z * ((2 ^ 149 : Nat) : Int) < 0) = decide (z < 0) := by
    by_cases hz : z < 0
    · rw [decide_eq_true hz, decide_eq_true (Int.mul_neg_of_neg_of_pos hz np)]
    · rw [decide_eq_false hz, decide_eq_false (Int.not_lt.2 (Int.mul_nonneg (Int.not_lt.1 hz) (Int.le_of_lt np)))]
  rw [d, Int.natAbs_mul, Int.natAbs_natCast]
  congr 1
  have := rq_scale (fb := fbK .f32) (A := z.natAbs) (B := 1) (k := 2 ^ 149) (Nat.two_pow_pos _)
  rw [Nat.one_mul] at this
  exact this
theorem mul2_fin {s s' x2 : Nat} {n : Int} (h : Fin .f32 s n) (h' : Fin .f32 s' (2 * n)) (h2 : Fin .f32 x2 (2 * (2 ^ 149 : Nat))) : Fin .f32 (fop .mul .f32 x2 s) (2 * n) := by
  have e : rI .f32 ((2 * (2 ^ 149 : Nat) : Int) * n) (2 ^ scK .f32) = 2 * n := by
    rw [show (2 * (2 ^ 149 : Nat) : Int) * n = (2 * n) * ((2 ^ 149 : Nat) : Int) by generalize ((2 ^ 149 : Nat) : Int) = y; grind, rI_scal]
    exact h'.exact
  have key := Fin.mul h2 h
  rw [e] at key
  exact key h'.lt_lim
theorem fin_twice {w : Nat} {n : Int} {a : Rat} (h : Fin .f32 w (2 * n)) (ha : (n : Rat) = a * unit .f32) : Val .f32 w (2 * a) := ⟨2 * n, h, by
  rw [Rat.intCast_mul, ha, show ((2 : Int) : Rat) = 2 from rfl, Rat.mul_assoc]⟩
theorem inn_st {a b c : Nat} {d e f : Int} (ha : a < 65) (hb : b < 65) (hc : c < 65) (h1 : Int.ofNat a - 32 = d) (h2 : Int.ofNat b - 32 = e) (h3 : Int.ofNat c - 32 = f) : St (inn (dw a) (dw b) (dw c) (dw a) (dw b) (dw c)) (d * d + e * e + f * f) := by
  have sa := sq_st ha
  have sb := sq_st hb
  have sc := sq_st hc
  rw [h1] at sa
  rw [h2] at sb
  rw [h3] at sc
  have o : ∀ x : Nat, (Int.ofNat x) = (x : Int) := fun _ => rfl
  have q1 := sq_le (a := d) (m := 32) (by have := o a; omega) (by have := o a; omega)
  have q2 := sq_le (a := e) (m := 32) (by have := o b; omega) (by have := o b; omega)
  have q3 := sq_le (a := f) (m := 32) (by have := o c; omega) (by have := o c; omega)
  exact (sa.add sb (by omega)).add sc (by omega)
theorem seg_dbl {n : Nat} {x y z : Nat → Nat} (hx : Qs x) (hy : Qs y) (hz : Qs z) (k : Nat) : ∃ m : Int, Fin .f32 (segLen (sg n x y z) k) m ∧ Fin .f32 (segLen (sg n (scX (can .f32 1073741824) x) (scX (can .f32 1073741824) y) (scX (can .f32 1073741824) z)) k) (2 * m) := by
  obtain ⟨i1, m1, a1, b1, e1, f1⟩ := dbl_sub hx (nx n k) k
  obtain ⟨i2, m2, a2, b2, e2, f2⟩ := dbl_sub hy (nx n k) k
  obtain ⟨i3, m3, a3, b3, e3, f3⟩ := dbl_sub hz (nx n k) k
  have o : ∀ x : Nat, (Int.ofNat x) = (x : Int) := fun _ => rfl
  have S := inn_st (a := i1 + 32 - m1) (b := i2 + 32 - m2) (c := i3 + 32 - m3) (d := (i1 : Int) - m1) (e := (i2 : Int) - m2) (f := (i3 : Int) - m3) (by omega) (by omega) (by omega) (by rw [o]; omega) (by rw [o]; omega) (by rw [o]; omega)
  have T := inn_st (a := 2 * i1 + 32 - 2 * m1) (b := 2 * i2 + 32 - 2 * m2) (c := 2 * i3 + 32 - 2 * m3) (d := 2 * ((i1 : Int) - m1)) (e := 2 * ((i2 : Int) - m2)) (f := 2 * ((i3 : Int) - m3)) (by omega) (by omega) (by omega) (by rw [o]; omega) (by rw [o]; omega) (by rw [o]; omega)
  have q1 := sq_le (a := (i1 : Int) - m1) (m := 16) (by omega) (by omega)
  have q2 := sq_le (a := (i2 : Int) - m2) (m := 16) (by omega) (by omega)
  have q3 := sq_le (a := (i3 : Int) - m3) (m := 16) (by omega) (by omega)
  have four : ∀ d : Int, 2 * d * (2 * d) = 4 * (d * d) := fun d => by grind
  rw [four, four, four] at T
  generalize ((i1 : Int) - m1) * ((i1 : Int) - m1) = A at *
  generalize ((i2 : Int) - m2) * ((i2 : Int) - m2) = B at *
  generalize ((i3 : Int) - m3) * ((i3 : Int) - m3) = C at *
  obtain ⟨M, hM⟩ := Int.eq_ofNat_of_zero_le (show 0 ≤ A + B + C by omega)
  rw [hM] at S
  rw [show 4 * A + 4 * B + 4 * C = ((4 * M : Nat) : Int) by omega] at T
  have R := root_dbl (M := M) (by omega) S T
  show ∃ m : Int, Fin .f32 (long (fop .sub .f32 (x (nx n k)) (x k)) (fop .sub .f32 (y (nx n k)) (y k)) (fop .sub .f32 (z (nx n k)) (z k))) m ∧ Fin .f32 (long (fop .sub .f32 (scX (can .f32 1073741824) x (nx n k)) (scX (can .f32 1073741824) x k)) (fop .sub .f32 (scX (can .f32 1073741824) y (nx n k)) (scX (can .f32 1073741824) y k)) (fop .sub .f32 (scX (can .f32 1073741824) z (nx n k)) (scX (can .f32 1073741824) z k))) (2 * m)
  rw [e1, e2, e3, f1, f2, f3]
  exact R
end Go.Fw.E1

/-
  Twice a wire is twice as long: the sums.
-/
namespace Go.Fw.E1
open Go.Proofs
theorem len_bound {g : Nat → Nat → Nat} {f : Nat → Rat} {m : Nat} (hm : m ≤ 6) (hf : ∀ k, k < m → Val .f32 (segLen g k) (f k) ∧ 0 ≤ f k ∧ f k ≤ 14) {v : Rat} (hv : Val .f32 (lenS g (can .f32 0) m) v) : Near v 85 := by
  obtain ⟨u, h1, h2⟩ := lenS_val hm hf
  obtain rfl := hv.unique h1
  have h3 := rsum_near (f := f) (B := 14) m fun j hj => near14 (hf j hj).2.1 (hf j hj).2.2
  have hm6 : ((m : Nat) : Rat) ≤ 6 := by
    have : ((m : Nat) : Rat) ≤ ((6 : Nat) : Rat) := Rat.natCast_le_natCast.2 hm
    exact this
  have h4 : ((m : Nat) : Rat) * 14 ≤ 6 * 14 := Rat.mul_le_mul_of_nonneg_right hm6 (by decide)
  generalize rsum f m = S at h2 h3
  generalize ((m : Nat) : Rat) * 14 = K at h3 h4
  unfold Near at h2 h3 ⊢
  obtain ⟨p1, p2⟩ := h2
  obtain ⟨p3, p4⟩ := h3
  constructor <;> grind
theorem lenS_dbl {n : Nat} {x y z : Nat → Nat} (hx : Qs x) (hy : Qs y) (hz : Qs z) : ∀ m, m ≤ 6 → ∃ v, Val .f32 (lenS (sg n x y z) (can .f32 0) m) v ∧ Val .f32 (lenS (sg n (scX (can .f32 1073741824) x) (scX (can .f32 1073741824) y) (scX (can .f32 1073741824) z)) (can .f32 0) m) (2 * v)
  | 0, _ => by
    have h0 : Val .f32 (can .f32 0) 0 := Val.of_vof (by decide +kernel)
    exact ⟨0, h0, by rw [show (2 : Rat) * 0 = 0 by decide +kernel]; exact h0⟩
  | m + 1, hm => by
    obtain ⟨v, v1, v2⟩ := lenS_dbl (n := n) hx hy hz m (by omega)
    have H : ∀ k, ∃ s : Rat, Val .f32 (segLen (sg n x y z) k) s ∧ 0 ≤ s ∧ s ≤ 14 := seg_len hx hy hz
    let f : Nat → Rat := fun k => (H k).choose
    have hf : ∀ k, Val .f32 (segLen (sg n x y z) k) (f k) ∧ 0 ≤ f k ∧ f k ≤ 14 := fun k => (H k).choose_spec
    have hb := len_bound (m := m) (by omega) (fun k _ => hf k) v1
    obtain ⟨s, s1, s2, s3⟩ := seg_len (n := n) hx hy hz m
    obtain ⟨i, i1, i2⟩ := seg_dbl (n := n) hx hy hz m
    obtain ⟨i', j1, j2⟩ := s1
    obtain rfl := i1.unique j1
    have t2 := fin_twice i2 j2
    have s1 : Val .f32 (segLen (sg n x y z) m) s := ⟨i, j1, j2⟩
    have hX : Near (v + s) 100 := by
      unfold Near at hb ⊢
      obtain ⟨p1, p2⟩ := hb
      constructor <;> grind
    exact val_add_dbl v1 s1 v2 t2 hX (by decide) (by decide +kernel)
theorem lenW_dbl {n : Nat} {x y z : Nat → Nat} (hx : Qs x) (hy : Qs y) (hz : Qs z) (h6 : n ≤ 6) (cl : Bool) :
    (forder .f32 (lenW n (scX (can .f32 1073741824) x) (scX (can .f32 1073741824) y) (scX (can .f32 1073741824) z) cl) (fop .mul .f32 (can .f32 1073741824) (lenW n x y z cl)) != some .eq) = false ∧
    ∃ v, Val .f32 (lenW n x y z cl) v ∧ Val .f32 (lenW n (scX (can .f32 1073741824) x) (scX (can .f32 1073741824) y) (scX (can .f32 1073741824) z) cl) (2 * v) := by
  obtain ⟨v, v1, v2⟩ := lenS_dbl (n := n) hx hy hz (cnt n cl) (Nat.le_trans (cnt_le n cl) h6)
  refine ⟨?_, v, v1, v2⟩
  obtain ⟨p, p1, p2⟩ := v1
  obtain ⟨q, q1, q2⟩ := v2
  obtain rfl := twice_of p2 q2
  have h2 : Val .f32 (can .f32 1073741824) 2 := Val.of_vof (by decide +kernel)
  obtain ⟨t, t1, t2⟩ := h2
  have ht : t = 2 * (2 ^ 149 : Nat) := by
    have : ((t : Int) : Rat) = ((2 * (2 ^ 149 : Nat) : Int) : Rat) := by rw [t2]; decide +kernel
    exact Rat.intCast_inj.1 this
  subst ht
  have m2 := mul2_fin p1 q1 t1
  have e : forder .f32 (lenW n (scX (can .f32 1073741824) x) (scX (can .f32 1073741824) y) (scX (can .f32 1073741824) z) cl) (fop .mul .f32 (can .f32 1073741824) (lenW n x y z cl)) = some .eq :=
    forder_eq (a := 2 * v) ⟨_, q1, q2⟩ ⟨_, m2, q2⟩
  rw [e]
  rfl
end Go.Fw.E1

/-
  Wires of quarters: all is finite.
-/
namespace Go.Fw.E1
open Go.Proofs
def Vs (x : Nat → Nat) : Prop := ∀ k, ∃ q : Rat, Val .f32 (x k) q
theorem okW_vs {n c : Nat} {x y z : Nat → Nat} (h0 : 2 ≤ n) (h6 : n ≤ 6) (hc : fin c = true) (hx : Vs x) (hy : Vs y) (hz : Vs z) : okW n c x y z = true := by
  unfold okW
  have h : allUpTo (vfinAt x y z) n = true := allUpTo_iff.2 fun k _ => by
    obtain ⟨a, ha⟩ := hx k
    obtain ⟨b, hb⟩ := hy k
    obtain ⟨d, hd⟩ := hz k
    unfold vfinAt vfin
    rw [fin_val ha, fin_val hb, fin_val hd]
    rfl
  rw [h, hc, decide_eq_true (show 2 ≤ n ∧ n ≤ 48 by omega)]
  rfl
theorem Qs.vs {x : Nat → Nat} (h : Qs x) : Vs x := fun k => by
  obtain ⟨i, hi, e⟩ := h k
  exact ⟨_, by rw [e]; exact qw_qt hi⟩
theorem Qs.mov {x : Nat → Nat} (h : Qs x) {p : Nat} (hp : p < 17) : Vs (adX (qw p) x) := fun k => by
  obtain ⟨i, hi, e⟩ := h k
  have o : ∀ x : Nat, (Int.ofNat x) = (x : Int) := fun _ => rfl
  exact ⟨_, by unfold adX; rw [e]; exact (qw_qt hi).add (qw_qt hp) (by rw [o, o]; omega)⟩
theorem Qs.rev {x : Nat → Nat} (h : Qs x) (n : Nat) : Qs (revR n x) := fun k => h _
theorem dblv_tab : allUpTo (fun i => isV .f32 (vof .f32 (fop .mul .f32 (qw i) (can .f32 1073741824))) (((2 * (Int.ofNat i - 8) : Int) : Rat) * (1 / 4))) 17 = true := by decide +kernel
theorem Qs.dbl {x : Nat → Nat} (h : Qs x) : Vs (scX (can .f32 1073741824) x) := fun k => by
  obtain ⟨i, hi, e⟩ := h k
  exact ⟨_, by unfold scX; rw [e]; exact Val.of_vof (allUpTo_iff.1 dblv_tab i hi)⟩
theorem fin_qw {i : Nat} (h : i < 17) : fin (qw i) = true := fin_val (qw_qt h)
section
variable {n c : Nat} {x y z : Nat → Nat} (hx : Qs x) (hy : Qs y) (hz : Qs z) (h0 : 2 ≤ n) (h6 : n ≤ 6) (hc : fin c = true)
include hx hy hz h0 h6 hc
theorem ok_own : okW n c x y z = true := okW_vs h0 h6 hc hx.vs hy.vs hz.vs
theorem ok_mov {p q r : Nat} (hp : p < 17) (hq : q < 17) (hr : r < 17) : okW n c (adX (qw p) x) (adX (qw q) y) (adX (qw r) z) = true := okW_vs h0 h6 hc (hx.mov hp) (hy.mov hq) (hz.mov hr)
theorem ok_rev : okW n c (revR n x) (revR n y) (revR n z) = true := okW_vs h0 h6 hc (hx.rev n).vs (hy.rev n).vs (hz.rev n).vs
theorem ok_dbl : okW n c (scX (can .f32 1073741824) x) (scX (can .f32 1073741824) y) (scX (can .f32 1073741824) z) = true := okW_vs h0 h6 hc hx.dbl hy.dbl hz.dbl
theorem mov_okq {p q r : Nat} (hp : p < 17) (hq : q < 17) (hr : r < 17) : movOk n c (qw p) (qw q) (qw r) x y z = true := by
  unfold movOk
  rw [ok_own hx hy hz h0 h6 hc, ok_mov hx hy hz h0 h6 hc hp hq hr]
  rfl
theorem scl_okq : sclOk n c (can .f32 1073741824) x y z = true := by
  unfold sclOk
  rw [ok_own hx hy hz h0 h6 hc, ok_dbl hx hy hz h0 h6 hc]
  rfl
theorem len_own (cl : Bool) : lenOk n c x y z cl = true := by
  unfold lenOk
  obtain ⟨v, _, h1, _⟩ := back_val hx hy hz h0 h6 cl
  rw [ok_own hx hy hz h0 h6 hc, fin_val h1]
  rfl
theorem len_mov (cl : Bool) {p q r : Nat} (hp : p < 17) (hq : q < 17) (hr : r < 17) : lenOk n c (adX (qw p) x) (adX (qw q) y) (adX (qw r) z) cl = true := by
  unfold lenOk
  obtain ⟨v, _, h1, _⟩ := back_val hx hy hz h0 h6 cl
  rw [ok_mov hx hy hz h0 h6 hc hp hq hr, lenW_mov hx hy hz hp hq hr, fin_val h1]
  rfl
theorem len_rev (cl : Bool) : lenOk n c (revR n x) (revR n y) (revR n z) cl = true := by
  unfold lenOk
  obtain ⟨_, u, _, h1, _⟩ := back_val hx hy hz h0 h6 cl
  rw [ok_rev hx hy hz h0 h6 hc, fin_val h1]
  rfl
theorem len_dbl (cl : Bool) : lenOk n c (scX (can .f32 1073741824) x) (scX (can .f32 1073741824) y) (scX (can .f32 1073741824) z) cl = true := by
  unfold lenOk
  obtain ⟨_, v, _, h1⟩ := lenW_dbl hx hy hz h6 cl
  rw [ok_dbl hx hy hz h0 h6 hc, fin_val h1]
  rfl
end
end Go.Fw.E1

/-
  Wires of quarters: distances that are next to nothing; products and areas.
-/
namespace Go.Fw.E1
open Go.Proofs
/-- Three numbers next to nothing: their length passes. -/
theorem apart_lt {a b c : Nat} {x y z : Rat} (ha : Val .f32 a x) (hb : Val .f32 b y) (hc : Val .f32 c z) (hx : Near x (1 / 5000)) (hy : Near y (1 / 5000)) (hz : Near z (1 / 5000)) : (forder .f64 (fcvt .f32 .f64 (long a b c)) (can .f64 4562254508917369340) == some .lt) = true := by
  obtain ⟨l, h1, h2, h3⟩ := long_near ha hb hc hx hy hz (by decide +kernel)
  have h4 : (2 : Rat) * (1 / 5000) + 1 / 2 ^ 50 < 1152921504606847 / 2 ^ 60 := by decide +kernel
  have e := forder_lt h1.widen kMil (by grind)
  rw [e]
  rfl
/-- A number less itself. -/
theorem sub_same {w : Nat} {q : Rat} (h : Val .f32 w q) : ∃ d, Val .f32 (fop .sub .f32 w w) d ∧ Near d (1 / 5000) := by
  obtain ⟨d, h1, h2⟩ := Val.sub h h (X := 0) (by unfold Near; constructor <;> grind) (by decide +kernel)
  refine ⟨d, h1, ?_⟩
  have h3 : Near (d - (q - q)) (1 / 5000) := h2.mono (by decide +kernel)
  rw [show d - (q - q) = d by grind] at h3
  exact h3
theorem same_lt {a b c : Nat} {x y z : Rat} (ha : Val .f32 a x) (hb : Val .f32 b y) (hc : Val .f32 c z) : (forder .f64 (fcvt .f32 .f64 (long (fop .sub .f32 a a) (fop .sub .f32 b b) (fop .sub .f32 c c))) (can .f64 4562254508917369340) == some .lt) = true := by
  obtain ⟨p, p1, p2⟩ := sub_same ha
  obtain ⟨q, q1, q2⟩ := sub_same hb
  obtain ⟨r, r1, r2⟩ := sub_same hc
  exact apart_lt p1 q1 r1 p2 q2 r2
set_option maxRecDepth 1000000 in
theorem mul_tab : allUpTo (fun s => allUpTo (fun t => isV .f32 (vof .f32 (fop .mul .f32 (hw s) (hw t))) ((((Int.ofNat s - 16) * (Int.ofNat t - 16) : Int) : Rat) * (1 / 16))) 33) 33 = true := by decide +kernel
theorem mul_hw {s t : Nat} (hs : s < 33) (ht : t < 33) : St (fop .mul .f32 (hw s) (hw t)) ((Int.ofNat s - 16) * (Int.ofNat t - 16)) := Val.of_vof (allUpTo_iff.1 (allUpTo_iff.1 mul_tab s hs) t ht)
theorem St.sub {x y : Nat} {a b : Int} (hx : St x a) (hy : St y b) (h : (a - b).natAbs < 2 ^ 24) : St (fop .sub .f32 x y) (a - b) := by
  have e : (a : Rat) * (1 / 16) - (b : Rat) * (1 / 16) = ((a - b : Int) : Rat) * (1 / 16) := by rw [Rat.intCast_sub]; grind
  have := Val.sub_exact (e := 4) (m := a - b) hx hy (by rw [e, Rat.mul_assoc, st16, Rat.mul_one]) h (by decide) (by rw [e]; exact st_near h)
  unfold St
  rw [← e]
  exact this
/-- Halves of quarters: all indices of a wire's numbers, moved or not. -/
def Hs (x : Nat → Nat) (i : Nat → Int) : Prop := ∀ k, ∃ s, s < 33 ∧ x k = hw s ∧ i k = Int.ofNat s - 16
theorem mul_bound {a b : Int} (h1 : -16 ≤ a) (h2 : a ≤ 16) (h3 : -16 ≤ b) (h4 : b ≤ 16) : -256 ≤ a * b ∧ a * b ≤ 256 := by
  have e1 : 0 ≤ (16 - a) * (16 + b) := Int.mul_nonneg (by omega) (by omega)
  have e2 : 0 ≤ (16 + a) * (16 - b) := Int.mul_nonneg (by omega) (by omega)
  have e3 : 0 ≤ (16 - a) * (16 - b) := Int.mul_nonneg (by omega) (by omega)
  have e4 : 0 ≤ (16 + a) * (16 + b) := Int.mul_nonneg (by omega) (by omega)
  have f1 : (16 - a) * (16 + b) = 256 - 16 * a + 16 * b - a * b := by grind
  have f2 : (16 + a) * (16 - b) = 256 + 16 * a - 16 * b - a * b := by grind
  have f3 : (16 - a) * (16 - b) = 256 - 16 * a - 16 * b + a * b := by grind
  have f4 : (16 + a) * (16 + b) = 256 + 16 * a + 16 * b + a * b := by grind
  omega
/-- A cross's part of numbers in quarters. -/
theorem cross_st {b c y z : Nat → Nat} {ib ic iy iz : Nat → Int} (hb : Hs b ib) (hc : Hs c ic) (hy : Hs y iy) (hz : Hs z iz) (k j : Nat) : St (fop .sub .f32 (fop .mul .f32 (b k) (z j)) (fop .mul .f32 (c k) (y j))) (ib k * iz j - ic k * iy j) ∧ -512 ≤ ib k * iz j - ic k * iy j ∧ ib k * iz j - ic k * iy j ≤ 512 := by
  obtain ⟨s1, h1, e1, f1⟩ := hb k
  obtain ⟨s2, h2, e2, f2⟩ := hc k
  obtain ⟨s3, h3, e3, f3⟩ := hy j
  obtain ⟨s4, h4, e4, f4⟩ := hz j
  have o : ∀ x : Nat, (Int.ofNat x) = (x : Int) := fun _ => rfl
  have m1 := mul_bound (a := ib k) (b := iz j) (by rw [f1, o]; omega) (by rw [f1, o]; omega) (by rw [f4, o]; omega) (by rw [f4, o]; omega)
  have m2 := mul_bound (a := ic k) (b := iy j) (by rw [f2, o]; omega) (by rw [f2, o]; omega) (by rw [f3, o]; omega) (by rw [f3, o]; omega)
  have a1 := mul_hw h1 h4
  have a2 := mul_hw h2 h3
  rw [← f1, ← f4] at a1
  rw [← f2, ← f3] at a2
  rw [e1, e2, e3, e4]
  exact ⟨a1.sub a2 (by omega), by omega, by omega⟩
end Go.Fw.E1

/-
  Wires of quarters: areas are sums of integers, and the same for closed wires that are moved.
-/
namespace Go.Fw.E1
open Go.Proofs
def isum (f : Nat → Int) : Nat → Int
  | 0 => 0
  | k + 1 => isum f k + f k
theorem ar_st {s t : Nat → Nat} {f : Nat → Int} (h0 : St (s 0) 0) (hs : ∀ k, s (k + 1) = fop .add .f32 (s k) (t k)) (ht : ∀ k, St (t k) (f k) ∧ -512 ≤ f k ∧ f k ≤ 512) : ∀ k, k ≤ 6 → St (s k) (isum f k) ∧ -(512 * (k : Int)) ≤ isum f k ∧ isum f k ≤ 512 * (k : Int)
  | 0, _ => ⟨h0, by simp [isum], by simp [isum]⟩
  | k + 1, hk => by
    obtain ⟨h1, h2, h3⟩ := ar_st h0 hs ht k (by omega)
    obtain ⟨g1, g2, g3⟩ := ht k
    rw [hs]
    show St _ (isum f k + f k) ∧ _ ≤ isum f k + f k ∧ isum f k + f k ≤ _
    exact ⟨h1.add g1 (by omega), by omega, by omega⟩
/-- What moving adds to a cross. -/
theorem move_term (Y Z Y' Z' q r : Int) : (Y + q) * (Z' + r) - (Z + r) * (Y' + q) = (Y * Z' - Z * Y') + (q * (Z' - Z) - r * (Y' - Y)) := by grind
theorem move_part {n : Nat} (Y Z : Nat → Int) (q r : Int) : ∀ m, m + 1 ≤ n → isum (fun k => (Y k + q) * (Z (nx n k) + r) - (Z k + r) * (Y (nx n k) + q)) m = isum (fun k => Y k * Z (nx n k) - Z k * Y (nx n k)) m + (q * (Z m - Z 0) - r * (Y m - Y 0))
  | 0, _ => by simp [isum]
  | m + 1, h => by
    have e : nx n m = m + 1 := by unfold nx; exact Nat.mod_eq_of_lt (by omega)
    show isum (fun k => (Y k + q) * (Z (nx n k) + r) - (Z k + r) * (Y (nx n k) + q)) m + ((Y m + q) * (Z (nx n m) + r) - (Z m + r) * (Y (nx n m) + q)) = isum (fun k => Y k * Z (nx n k) - Z k * Y (nx n k)) m + (Y m * Z (nx n m) - Z m * Y (nx n m)) + _
    rw [move_part Y Z q r m (by omega), move_term, e]
    grind
theorem move_sum {n : Nat} (h : 1 ≤ n) (Y Z : Nat → Int) (q r : Int) : isum (fun k => (Y k + q) * (Z (nx n k) + r) - (Z k + r) * (Y (nx n k) + q)) n = isum (fun k => Y k * Z (nx n k) - Z k * Y (nx n k)) n := by
  obtain ⟨m, rfl⟩ : ∃ m, n = m + 1 := ⟨n - 1, by omega⟩
  have e : nx (m + 1) m = 0 := by unfold nx; exact Nat.mod_self _
  show isum (fun k => (Y k + q) * (Z (nx (m + 1) k) + r) - (Z k + r) * (Y (nx (m + 1) k) + q)) m + ((Y m + q) * (Z (nx (m + 1) m) + r) - (Z m + r) * (Y (nx (m + 1) m) + q)) = isum (fun k => Y k * Z (nx (m + 1) k) - Z k * Y (nx (m + 1) k)) m + (Y m * Z (nx (m + 1) m) - Z m * Y (nx (m + 1) m))
  rw [move_part Y Z q r m (Nat.le_refl _), move_term, e]
  grind
/-- Half of so many sixteenths. -/
theorem half_st {w : Nat} {z : Int} (h : St w z) (hz : z.natAbs ≤ 3072) : ∃ v : Rat, Val .f32 (fop .mul .f32 w (can .f32 1056964608)) v ∧ Near (v - (z : Rat) * (1 / 32)) (1 / 50000) := by
  have hk : Val .f32 (can .f32 1056964608) (1 / 2) := Val.of_vof (by decide +kernel)
  have z1 : (z : Rat) ≤ 3072 := by
    have : (z : Rat) ≤ ((3072 : Int) : Rat) := Rat.intCast_le_intCast.2 (by omega)
    exact this
  have z2 : (-3072 : Rat) ≤ (z : Rat) := by
    have : ((-3072 : Int) : Rat) ≤ (z : Rat) := Rat.intCast_le_intCast.2 (by omega)
    exact this
  obtain ⟨v, h1, h2⟩ := Val.mul h hk (X := 96) (by unfold Near; constructor <;> grind) (by decide +kernel)
  refine ⟨v, h1, ?_⟩
  have h3 := h2.mono (show (96 : Rat) * ur .f32 + tiny .f32 ≤ 1 / 50000 by decide +kernel)
  rw [show (z : Rat) * (1 / 16) * (1 / 2) = (z : Rat) * (1 / 32) by grind] at h3
  exact h3
end Go.Fw.E1

/-
  Wires of quarters: areas of closed wires stay where they are moved.
-/
namespace Go.Fw.E1
open Go.Proofs
theorem qs_hs {x : Nat → Nat} (hx : Qs x) : ∃ i : Nat → Int, Hs x i ∧ ∀ p, p < 17 → Hs (adX (qw p) x) (fun k => i k + (Int.ofNat p - 8)) := by
  have o : ∀ x : Nat, (Int.ofNat x) = (x : Int) := fun _ => rfl
  obtain ⟨j, hj⟩ : ∃ j : Nat → Nat, ∀ k, j k < 17 ∧ x k = qw (j k) := ⟨fun k => (hx k).choose, fun k => (hx k).choose_spec⟩
  refine ⟨fun k => Int.ofNat (j k) - 8, fun k => ?_, fun p hp k => ?_⟩
  · obtain ⟨h1, h2⟩ := hj k
    refine ⟨j k + 8, by omega, by rw [← qw_hw h1]; exact h2, ?_⟩
    show Int.ofNat (j k) - 8 = Int.ofNat (j k + 8) - 16
    rw [o, o]
    omega
  · obtain ⟨h1, h2⟩ := hj k
    refine ⟨j k + p, by omega, ?_, ?_⟩
    · rw [← add_qw h1 hp, ← h2]
      rfl
    · show Int.ofNat (j k) - 8 + (Int.ofNat p - 8) = Int.ofNat (j k + p) - 16
      rw [o, o, o]
      omega
theorem half_area {n : Nat} {b c : Nat → Nat} {ib ic : Nat → Int} (hb : Hs b ib) (hc : Hs c ic) {s : Nat → Nat} (h0 : s 0 = 0) (hs : ∀ k, s (k + 1) = fop .add .f32 (s k) (fop .sub .f32 (fop .mul .f32 (b k) (c (nx n k))) (fop .mul .f32 (c k) (b (nx n k))))) {m : Nat} (hm : m ≤ 6) :
    ∃ v : Rat, Val .f32 (fop .mul .f32 (s m) (can .f32 1056964608)) v ∧ Near (v - ((isum (fun k => ib k * ic (nx n k) - ic k * ib (nx n k)) m : Int) : Rat) * (1 / 32)) (1 / 50000) := by
  have z0 : St (s 0) 0 := by
    rw [h0]
    have : Val .f32 0 (((0 : Int) : Rat) * (1 / 16)) := Val.of_vof (by decide +kernel)
    exact this
  obtain ⟨h1, h2, h3⟩ := ar_st z0 hs (fun k => cross_st hb hc hb hc k (nx n k)) m hm
  exact half_st h1 (by omega)
/-- Of a closed wire, one part of the area is nearly the same where the wire is moved. -/
theorem part_near {n : Nat} {b c : Nat → Nat} (hb : Qs b) (hc : Qs c) {p q : Nat} (hp : p < 17) (hq : q < 17) (h1 : 1 ≤ n) (h6 : n ≤ 6) {s s' : Nat → Nat} (h0 : s 0 = 0) (hs : ∀ k, s (k + 1) = fop .add .f32 (s k) (fop .sub .f32 (fop .mul .f32 (b k) (c (nx n k))) (fop .mul .f32 (c k) (b (nx n k)))))
    (h0' : s' 0 = 0) (hs' : ∀ k, s' (k + 1) = fop .add .f32 (s' k) (fop .sub .f32 (fop .mul .f32 (adX (qw p) b k) (adX (qw q) c (nx n k))) (fop .mul .f32 (adX (qw q) c k) (adX (qw p) b (nx n k))))) :
    ∃ d : Rat, Val .f32 (fop .sub .f32 (fop .mul .f32 (s n) (can .f32 1056964608)) (fop .mul .f32 (s' n) (can .f32 1056964608))) d ∧ Near d (1 / 5000) := by
  obtain ⟨ib, b1, b2⟩ := qs_hs hb
  obtain ⟨ic, c1, c2⟩ := qs_hs hc
  obtain ⟨v, v1, v2⟩ := half_area b1 c1 h0 hs h6
  obtain ⟨u, u1, u2⟩ := half_area (b2 p hp) (c2 q hq) h0' hs' h6
  have e := move_sum h1 ib ic (Int.ofNat p - 8) (Int.ofNat q - 8)
  rw [e] at u2
  generalize ((isum (fun k => ib k * ic (nx n k) - ic k * ib (nx n k)) n : Int) : Rat) * (1 / 32) = S at u2 v2
  have hd : Near (v - u) (1 / 25000) := by
    unfold Near at u2 v2 ⊢
    obtain ⟨p1, p2⟩ := u2
    obtain ⟨p3, p4⟩ := v2
    constructor <;> grind
  obtain ⟨d, d1, d2⟩ := Val.sub v1 u1 hd (by decide +kernel)
  refine ⟨d, d1, ?_⟩
  have d2 := d2.mono (show (1 / 25000 : Rat) * ur .f32 + tiny .f32 ≤ 1 / 50000 by decide +kernel)
  unfold Near at hd d2 ⊢
  obtain ⟨p1, p2⟩ := hd
  obtain ⟨p3, p4⟩ := d2
  constructor <;> grind
theorem area_lt {n : Nat} {x y z : Nat → Nat} (hx : Qs x) (hy : Qs y) (hz : Qs z) {p q r : Nat} (hp : p < 17) (hq : q < 17) (hr : r < 17) (h1 : 1 ≤ n) (h6 : n ≤ 6) :
    (forder .f64 (fcvt .f32 .f64 (long (fop .sub .f32 (hfX n x y z true) (hfX n (adX (qw p) x) (adX (qw q) y) (adX (qw r) z) true)) (fop .sub .f32 (hfY n x y z true) (hfY n (adX (qw p) x) (adX (qw q) y) (adX (qw r) z) true)) (fop .sub .f32 (hfZ n x y z true) (hfZ n (adX (qw p) x) (adX (qw q) y) (adX (qw r) z) true)))) (can .f64 4562254508917369340) == some .lt) = true := by
  obtain ⟨a, a1, a2⟩ := part_near hy hz hq hr h1 h6 (s := arX (sg n x y z) 0) (s' := arX (sg n (adX (qw p) x) (adX (qw q) y) (adX (qw r) z)) 0) rfl (fun _ => rfl) rfl (fun _ => rfl)
  obtain ⟨b, b1, b2⟩ := part_near hz hx hr hp h1 h6 (s := arY (sg n x y z) 0) (s' := arY (sg n (adX (qw p) x) (adX (qw q) y) (adX (qw r) z)) 0) rfl (fun _ => rfl) rfl (fun _ => rfl)
  obtain ⟨c, c1, c2⟩ := part_near hx hy hp hq h1 h6 (s := arZ (sg n x y z) 0) (s' := arZ (sg n (adX (qw p) x) (adX (qw q) y) (adX (qw r) z)) 0) rfl (fun _ => rfl) rfl (fun _ => rfl)
  exact apart_lt a1 b1 c1 a2 b2 c2
end Go.Fw.E1

/-
  Wires of quarters: areas and moments are finite; moments are areas times currents.
-/
namespace Go.Fw.E1
open Go.Proofs
theorem half_fin {n : Nat} {b c : Nat → Nat} {ib ic : Nat → Int} (hb : Hs b ib) (hc : Hs c ic) {s : Nat → Nat} (h0 : s 0 = 0) (hs : ∀ k, s (k + 1) = fop .add .f32 (s k) (fop .sub .f32 (fop .mul .f32 (b k) (c (nx n k))) (fop .mul .f32 (c k) (b (nx n k))))) {m : Nat} (hm : m ≤ 6) :
    ∃ v : Rat, Val .f32 (fop .mul .f32 (s m) (can .f32 1056964608)) v ∧ Near v 100 := by
  have z0 : St (s 0) 0 := by
    rw [h0]
    have : Val .f32 0 (((0 : Int) : Rat) * (1 / 16)) := Val.of_vof (by decide +kernel)
    exact this
  obtain ⟨h1, h2, h3⟩ := ar_st z0 hs (fun k => cross_st hb hc hb hc k (nx n k)) m hm
  generalize isum (fun k => ib k * ic (nx n k) - ic k * ib (nx n k)) m = S at h1 h2 h3
  obtain ⟨v, v1, v2⟩ := half_st h1 (by omega)
  refine ⟨v, v1, ?_⟩
  have z1 : (S : Rat) ≤ 3072 := by
    have : (S : Rat) ≤ ((3072 : Int) : Rat) := Rat.intCast_le_intCast.2 (by omega)
    exact this
  have z2 : (-3072 : Rat) ≤ (S : Rat) := by
    have : ((-3072 : Int) : Rat) ≤ (S : Rat) := Rat.intCast_le_intCast.2 (by omega)
    exact this
  generalize (S : Rat) = R at v2 z1 z2
  unfold Near at v2 ⊢
  obtain ⟨p1, p2⟩ := v2
  constructor <;> grind
theorem hf_vals {n : Nat} {x y z : Nat → Nat} {ix iy iz : Nat → Int} (hx : Hs x ix) (hy : Hs y iy) (hz : Hs z iz) (h6 : n ≤ 6) (cl : Bool) :
    ∃ a b c : Rat, (Val .f32 (hfX n x y z cl) a ∧ Near a 100) ∧ (Val .f32 (hfY n x y z cl) b ∧ Near b 100) ∧ (Val .f32 (hfZ n x y z cl) c ∧ Near c 100) := by
  have hm : cnt n cl ≤ 6 := Nat.le_trans (cnt_le n cl) h6
  obtain ⟨a, ha⟩ := half_fin (n := n) hy hz (s := arX (sg n x y z) 0) rfl (fun _ => rfl) hm
  obtain ⟨b, hb⟩ := half_fin (n := n) hz hx (s := arY (sg n x y z) 0) rfl (fun _ => rfl) hm
  obtain ⟨c, hc⟩ := half_fin (n := n) hx hy (s := arZ (sg n x y z) 0) rfl (fun _ => rfl) hm
  exact ⟨a, b, c, ha, hb, hc⟩
theorem vfin_vals {a b c : Nat} {x y z : Rat} (ha : Val .f32 a x) (hb : Val .f32 b y) (hc : Val .f32 c z) : vfin a b c = true := by
  unfold vfin
  rw [fin_val ha, fin_val hb, fin_val hc]
  rfl
theorem mul_cu {w i : Nat} {a : Rat} (h : Val .f32 w a) (ha : Near a 100) (hi : i < 17) : ∃ v : Rat, Val .f32 (fop .mul .f32 w (qw i)) v := by
  have o : ∀ x : Nat, (Int.ofNat x) = (x : Int) := fun _ => rfl
  have q := qw_qt hi
  have z1 : ((Int.ofNat i - 8 : Int) : Rat) ≤ 8 := by
    have : ((Int.ofNat i - 8 : Int) : Rat) ≤ ((8 : Int) : Rat) := Rat.intCast_le_intCast.2 (by rw [o]; omega)
    exact this
  have z2 : (-8 : Rat) ≤ ((Int.ofNat i - 8 : Int) : Rat) := by
    have : ((-8 : Int) : Rat) ≤ ((Int.ofNat i - 8 : Int) : Rat) := Rat.intCast_le_intCast.2 (by rw [o]; omega)
    exact this
  have hn : Near (((Int.ofNat i - 8 : Int) : Rat) * (1 / 4)) 2 := by
    generalize ((Int.ofNat i - 8 : Int) : Rat) = R at z1 z2
    unfold Near
    constructor <;> grind
  obtain ⟨v, h1, _⟩ := Val.mul h q (ha.mul hn) (by decide +kernel)
  exact ⟨v, h1⟩
end Go.Fw.E1

/-
  Wires of quarters: sums of places, one through a count.
-/
namespace Go.Fw.E1
open Go.Proofs
set_option maxRecDepth 1000000 in
theorem hwq_tab : allUpTo (fun s => isV .f32 (vof .f32 (hw s)) (((Int.ofNat s - 16 : Int) : Rat) * (1 / 4))) 33 = true := by decide +kernel
theorem hw_qt {s : Nat} (h : s < 33) : Qt (hw s) (Int.ofNat s - 16) := Val.of_vof (allUpTo_iff.1 hwq_tab s h)
theorem mid_qt {x : Nat → Nat} {i : Nat → Int} (hx : Hs x i) : ∀ k, k ≤ 6 → Qt (midS x k) (isum i k) ∧ -(16 * (k : Int)) ≤ isum i k ∧ isum i k ≤ 16 * (k : Int)
  | 0, _ => by
    have h0 : Val .f32 0 (((0 : Int) : Rat) * (1 / 4)) := Val.of_vof (by decide +kernel)
    exact ⟨h0, by simp [isum], by simp [isum]⟩
  | k + 1, hk => by
    obtain ⟨h1, h2, h3⟩ := mid_qt hx k (by omega)
    obtain ⟨s, hs, e1, e2⟩ := hx k
    have o : ∀ x : Nat, (Int.ofNat x) = (x : Int) := fun _ => rfl
    have q := hw_qt hs
    rw [← e2, ← e1] at q
    have b1 : -16 ≤ i k := by rw [e2, o]; omega
    have b2 : i k ≤ 16 := by rw [e2, o]; omega
    show Qt (fop .add .f32 (midS x k) (x k)) (isum i k + i k) ∧ _ ≤ isum i k + i k ∧ isum i k + i k ≤ _
    exact ⟨h1.add q (by omega), by omega, by omega⟩
/-- One through the count of points. -/
theorem one_through {n : Nat} (h0 : 2 ≤ n) (h6 : n ≤ 6) : ∃ r : Rat, Val .f32 (fop .quo .f32 (can .f32 1065353216) (fofInt .f32 (Int.ofNat n))) r ∧ Near r 1 ∧ Near ((n : Rat) * r - 1) (1 / 1000000) := by
  match n, h0, h6 with
  | 2, _, _ => exact ⟨1 / 2, Val.of_vof (by decide +kernel), ⟨by decide +kernel, by decide +kernel⟩, ⟨by decide +kernel, by decide +kernel⟩⟩
  | 3, _, _ => exact ⟨11184811 / 2 ^ 25, Val.of_vof (by decide +kernel), ⟨by decide +kernel, by decide +kernel⟩, ⟨by decide +kernel, by decide +kernel⟩⟩
  | 4, _, _ => exact ⟨1 / 4, Val.of_vof (by decide +kernel), ⟨by decide +kernel, by decide +kernel⟩, ⟨by decide +kernel, by decide +kernel⟩⟩
  | 5, _, _ => exact ⟨13421773 / 2 ^ 26, Val.of_vof (by decide +kernel), ⟨by decide +kernel, by decide +kernel⟩, ⟨by decide +kernel, by decide +kernel⟩⟩
  | 6, _, _ => exact ⟨11184811 / 2 ^ 26, Val.of_vof (by decide +kernel), ⟨by decide +kernel, by decide +kernel⟩, ⟨by decide +kernel, by decide +kernel⟩⟩
theorem isum_add (i : Nat → Int) (p : Int) : ∀ n : Nat, isum (fun k => i k + p) n = isum i n + n * p
  | 0 => by simp [isum]
  | n + 1 => by
    show isum (fun k => i k + p) n + (i n + p) = isum i n + i n + _
    rw [isum_add i p n]
    push_cast
    grind
end Go.Fw.E1

/-
  Wires of quarters: middles move with their wires.
-/
namespace Go.Fw.E1
open Go.Proofs
theorem mid_near {x : Nat → Nat} {i : Nat → Int} (hx : Hs x i) {n : Nat} (h0 : 2 ≤ n) (h6 : n ≤ 6) : ∃ r v : Rat, Val .f32 (fop .quo .f32 (can .f32 1065353216) (fofInt .f32 (Int.ofNat n))) r ∧ Near ((n : Rat) * r - 1) (1 / 1000000) ∧ Val .f32 (midW x n) v ∧ Near (v - (isum i n : Rat) * (1 / 4) * r) (1 / 100000) ∧ Near v 25 := by
  obtain ⟨r, r1, r2, r3⟩ := one_through h0 h6
  obtain ⟨h1, h2, h3⟩ := mid_qt hx n h6
  generalize isum i n = S at h1 h2 h3 ⊢
  have z1 : (S : Rat) ≤ 96 := by
    have : (S : Rat) ≤ ((96 : Int) : Rat) := Rat.intCast_le_intCast.2 (by omega)
    exact this
  have z2 : (-96 : Rat) ≤ (S : Rat) := by
    have : ((-96 : Int) : Rat) ≤ (S : Rat) := Rat.intCast_le_intCast.2 (by omega)
    exact this
  have hS : Near ((S : Rat) * (1 / 4)) 24 := by
    generalize (S : Rat) = R at z1 z2
    unfold Near
    constructor <;> grind
  have hm := hS.mul r2
  obtain ⟨v, v1, v2⟩ := Val.mul h1 r1 hm (by decide +kernel)
  have v2 := v2.mono (show (24 * 1 : Rat) * ur .f32 + tiny .f32 ≤ 1 / 100000 by decide +kernel)
  refine ⟨r, v, r1, r3, v1, v2, ?_⟩
  generalize (S : Rat) * (1 / 4) * r = Q at v2 hm
  unfold Near at v2 hm ⊢
  obtain ⟨p1, p2⟩ := v2
  obtain ⟨p3, p4⟩ := hm
  constructor <;> grind
theorem mid_move {x : Nat → Nat} (hx : Qs x) {p n : Nat} (hp : p < 17) (h0 : 2 ≤ n) (h6 : n ≤ 6) : ∃ d : Rat, Val .f32 (fop .sub .f32 (fop .add .f32 (midW x n) (qw p)) (midW (adX (qw p) x) n)) d ∧ Near d (1 / 5000) := by
  obtain ⟨i, i1, i2⟩ := qs_hs hx
  obtain ⟨r, v, r1, r3, v1, v2, v3⟩ := mid_near i1 h0 h6
  obtain ⟨r', u, r1', _, u1, u2, u3⟩ := mid_near (i2 p hp) h0 h6
  obtain rfl := r1.unique r1'
  rw [isum_add, Rat.intCast_add, Rat.intCast_mul] at u2
  have o : ∀ x : Nat, (Int.ofNat x) = (x : Int) := fun _ => rfl
  have q := qw_qt hp
  have z1 : ((Int.ofNat p - 8 : Int) : Rat) ≤ 8 := by
    have : ((Int.ofNat p - 8 : Int) : Rat) ≤ ((8 : Int) : Rat) := Rat.intCast_le_intCast.2 (by rw [o]; omega)
    exact this
  have z2 : (-8 : Rat) ≤ ((Int.ofNat p - 8 : Int) : Rat) := by
    have : ((-8 : Int) : Rat) ≤ ((Int.ofNat p - 8 : Int) : Rat) := Rat.intCast_le_intCast.2 (by rw [o]; omega)
    exact this
  unfold Qt at q
  have e : (((n : Nat) : Int) : Rat) = (n : Rat) := rfl
  rw [e] at u2
  generalize ((Int.ofNat p - 8 : Int) : Rat) = P at q z1 z2 u2
  generalize (isum i n : Rat) = S at u2 v2
  generalize (n : Rat) = N at u2 r3
  have hP : Near (P * (1 / 4)) 2 := by unfold Near; constructor <;> grind
  have k1 := hP.mul r3
  obtain ⟨w, w1, w2⟩ := Val.add v1 q (v3.add hP) (by decide +kernel)
  have w2 := w2.mono (show (25 + 2 : Rat) * ur .f32 + tiny .f32 ≤ 1 / 100000 by decide +kernel)
  have hd : Near (w - u) (1 / 20000) := by
    have e1 : w - u = (w - (v + P * (1 / 4))) + (v - S * (1 / 4) * r) - (u - (S + N * P) * (1 / 4) * r) - P * (1 / 4) * (N * r - 1) := by grind
    rw [e1]
    have := ((w2.add v2).sub u2).sub k1
    exact this.mono (by decide +kernel)
  obtain ⟨d, d1, d2⟩ := Val.sub w1 u1 hd (by decide +kernel)
  have d2 := d2.mono (show (1 / 20000 : Rat) * ur .f32 + tiny .f32 ≤ 1 / 100000 by decide +kernel)
  refine ⟨d, d1, ?_⟩
  unfold Near at hd d2 ⊢
  obtain ⟨p1, p2⟩ := hd
  obtain ⟨p3, p4⟩ := d2
  constructor <;> grind
end Go.Fw.E1

/-
  Wires of quarters: segments of turned ones are as long, nearly (fractions alone).
-/
namespace Go.Fw.E1
open Go.Proofs
theorem near_root {l l' E : Rat} (h0 : 0 ≤ l) (h0' : 0 ≤ l') (hE : 0 ≤ E) (h : 2 * E ≤ l) (hd : Near (l' * l' - l * l) (2 * E * l)) : Near (l' - l) (2 * E) := by
  have e1 : 2 * E * (2 * E) ≤ 2 * E * l := Rat.mul_le_mul_of_nonneg_left h (by grind)
  have e2 : 0 ≤ E * l := Rat.mul_nonneg hE h0
  have e3 : 0 ≤ E * E := Rat.mul_nonneg hE hE
  unfold Near at hd ⊢
  obtain ⟨p1, p2⟩ := hd
  have a : l' ≤ l + 2 * E := le_of_sq (by grind) (by grind)
  have b : l - 2 * E ≤ l' := le_of_sq h0' (by grind)
  constructor <;> grind
section
variable {C S x y p q : Rat} (hC : Near (C * C + S * S - 1) (2 * ur .f32)) (hp : p = C * x - S * y) (hq : q = S * x + C * y)
include hC hp hq
theorem turn_sq : Near (p * p + q * q - (x * x + y * y)) (2 * ur .f32 * (x * x + y * y)) := by
  have e : p * p + q * q - (x * x + y * y) = (C * C + S * S - 1) * (x * x + y * y) := by subst hp hq; grind
  rw [e]
  have h0 : 0 ≤ x * x + y * y := by
    have := sqn x
    have := sqn y
    grind
  refine hC.mul ?_
  unfold Near
  constructor <;> grind
theorem turn_abs {l : Rat} (h0 : 0 ≤ l) (h : x * x + y * y ≤ 1001 / 1000 * (l * l)) : nabs p + nabs q ≤ 143 / 100 * l := by
  have t := turn_sq hC hp hq
  have s := sqn (nabs p - nabs q)
  have a := nabs_sq p
  have b := nabs_sq q
  have r0 := sqn x
  have r1 := sqn y
  have l2 := sqn l
  refine le_of_sq (Rat.mul_nonneg (by decide +kernel) h0) ?_
  have k1 : (2 * (1 + 2 * ur .f32)) * (1001 / 1000) ≤ 143 / 100 * (143 / 100) := by decide +kernel
  have k1 := Rat.mul_le_mul_of_nonneg_right k1 l2
  have k2 : 0 ≤ 2 * (1 + 2 * ur .f32) := by decide +kernel
  have k2 := Rat.mul_le_mul_of_nonneg_left h k2
  generalize ur .f32 = u at *
  unfold Near at t
  obtain ⟨t1, t2⟩ := t
  have f : (nabs p + nabs q) * (nabs p + nabs q) ≤ 2 * (p * p + q * q) := by grind
  have f2 : 143 / 100 * l * (143 / 100 * l) = 143 / 100 * (143 / 100) * (l * l) := by grind
  rw [f2]
  grind
theorem turn_diff {w w' e l : Rat} (h0 : 0 ≤ l) (h : x * x + y * y ≤ 1001 / 1000 * (l * l)) (hw : Near (w - p) e) (hw' : Near (w' - q) e) : Near (w * w + w' * w' - (x * x + y * y)) (2 * ur .f32 * (x * x + y * y) + 286 / 100 * (e * l) + 2 * (e * e)) := by
  have t := turn_sq hC hp hq
  have a := turn_abs hC hp hq h0 h
  have e0 := hw.nonneg
  have a := Rat.mul_le_mul_of_nonneg_left a e0
  have m1 := hw.mul (nabs_near p)
  have m2 := hw'.mul (nabs_near q)
  have m3 := hw.mul hw
  have m4 := hw'.mul hw'
  have id : w * w + w' * w' - (x * x + y * y) = (p * p + q * q - (x * x + y * y)) + 2 * ((w - p) * p + (w' - q) * q) + ((w - p) * (w - p) + (w' - q) * (w' - q)) := by grind
  rw [id]
  generalize 2 * ur .f32 * (x * x + y * y) = T at *
  generalize p * p + q * q - (x * x + y * y) = T' at *
  generalize (w - p) * (w - p) = A1 at *
  generalize (w' - q) * (w' - q) = A2 at *
  generalize (w - p) * p = A3 at *
  generalize (w' - q) * q = A4 at *
  unfold Near at *
  have ea : e * (nabs p + nabs q) = e * nabs p + e * nabs q := by grind
  have eb : e * (143 / 100 * l) = 143 / 100 * (e * l) := by grind
  have ec : (286 / 100 : Rat) = 143 / 100 + 143 / 100 := by decide +kernel
  rw [ea, eb] at a
  rw [ec]
  constructor <;> grind
end
/-- A segment turned is nearly as long. -/
theorem seg_turn {C S x y z w w' l l' : Rat} (hC : Near (C * C + S * S - 1) (2 * ur .f32)) (hw : Near (w - (C * x - S * y)) (uu 18)) (hw' : Near (w' - (S * x + C * y)) (uu 18)) (l0 : 0 ≤ l) (l0' : 0 ≤ l')
    (hl : Near (l * l - (x * x + y * y + z * z)) ((x * x + y * y + z * z) * e22)) (hl' : Near (l' * l' - (w * w + w' * w' + z * z)) ((w * w + w' * w' + z * z) * (4 * e22) + 32 * tiny .f32)) (hA : x * x + y * y + z * z = 0 ∨ 1 / 16 ≤ x * x + y * y + z * z) (hA' : x * x + y * y + z * z ≤ 48) :
    Near (l' - l) (uu 250) := by
  have sx := sqn x
  have sy := sqn y
  have sz := sqn z
  rcases hA with h | h
  · have ex : x * x + y * y = 0 := by grind
    have ez : z * z = 0 := by grind
    rw [h] at hl
    have el : l * l = 0 := by unfold Near at hl; grind
    have el : l = 0 := by rcases Rat.mul_eq_zero.1 el with h | h <;> exact h
    have d := turn_diff hC rfl rfl (l := 0) (e := uu 18) (by decide) (by grind) hw hw'
    subst el
    rw [ex] at d
    rw [ez] at hl'
    have hs := sqn w
    have hs' := sqn w'
    have d2 : w * w + w' * w' ≤ 2 * (uu 18 * uu 18) := by unfold Near at d; grind
    have k : 2 * (uu 18 * uu 18) + (2 * (uu 18 * uu 18) * (4 * e22) + 32 * tiny .f32) ≤ uu 250 * uu 250 := by decide +kernel
    have k2 : 0 ≤ 4 * e22 := by decide +kernel
    have k3 := Rat.mul_le_mul_of_nonneg_right d2 k2
    have : l' ≤ uu 250 := le_of_sq (by decide +kernel) (by
      unfold Near at hl'
      generalize w * w + w' * w' = B at *
      generalize uu 18 * uu 18 = D at *
      generalize uu 250 * uu 250 = D' at *
      generalize 4 * e22 = D2 at *
      grind)
    unfold Near
    have : 0 ≤ uu 250 := by decide +kernel
    constructor <;> grind
  · generalize hAe : x * x + y * y + z * z = A at *
    have A0 : 0 ≤ A := by have : (0 : Rat) ≤ 1 / 16 := by decide +kernel
                          grind
    have r1 : e22 ≤ 1 / 10000 := by decide +kernel
    have r1 := Rat.mul_le_mul_of_nonneg_left r1 A0
    have ll := sqn l
    have hl2 := hl
    unfold Near at hl
    have b1 : A ≤ 1001 / 1000 * (l * l) := by grind
    have b2 : l * l ≤ 49 := by grind
    have b3 : l ≤ 7 := le_of_sq (by decide) (by grind)
    have b4 : 1 / 5 ≤ l := le_of_sq l0 (by grind)
    have b5 : A ≤ 701 / 100 * l := by
      have := Rat.mul_le_mul_of_nonneg_right b3 l0
      grind
    have d := turn_diff hC rfl rfl (l := l) (e := uu 18) l0 (by grind) hw hw'
    have u0 : 0 ≤ ur .f32 := by decide +kernel
    have xy : x * x + y * y ≤ A := by grind
    have x0 : 0 ≤ x * x + y * y := by grind
    have id : w * w + w' * w' + z * z - A = w * w + w' * w' - (x * x + y * y) := by grind
    have e18 : uu 18 = 18 * ur .f32 := rfl
    have c1 := Rat.mul_le_mul_of_nonneg_left xy u0
    have c2 := Rat.mul_le_mul_of_nonneg_left b5 u0
    have k1 : 2 * (uu 18 * uu 18) ≤ ur .f32 * (1 / 5) := by decide +kernel
    have k2 := Rat.mul_le_mul_of_nonneg_left b4 u0
    -- how the squares differ
    have d1 : Near (w * w + w' * w' + z * z - A) (ur .f32 * (68 * l)) := by
      rw [id]
      refine d.mono ?_
      rw [e18] at k1 ⊢
      grind
    have m1 : ur .f32 * (68 * l) ≤ 1 / 1000 * l := by
      have : ur .f32 * 68 ≤ 1 / 1000 := by decide +kernel
      have := Rat.mul_le_mul_of_nonneg_right this l0
      grind
    have m2 : w * w + w' * w' + z * z ≤ 702 / 100 * l := by
      unfold Near at d1
      generalize w * w + w' * w' + z * z = B at *
      have : (702 / 100 : Rat) * l = 701 / 100 * l + 1 / 100 * l := by
        have : (702 / 100 : Rat) = 701 / 100 + 1 / 100 := by decide +kernel
        rw [this]; grind
      have : (1 / 1000 : Rat) * l ≤ 1 / 100 * l := Rat.mul_le_mul_of_nonneg_right (by decide +kernel) l0
      grind
    have e4 : 4 * e22 = 16 * ur .f32 := by decide +kernel
    have e1 : e22 = 4 * ur .f32 := by decide +kernel
    have kt : 32 * tiny .f32 ≤ ur .f32 * (1 / 5) := by decide +kernel
    have m3 := Rat.mul_le_mul_of_nonneg_left m2 u0
    have d2 : Near (l' * l' - (w * w + w' * w' + z * z)) (ur .f32 * (115 * l)) := hl'.mono (by
      rw [e4]
      generalize w * w + w' * w' + z * z = B at *
      grind)
    have d3 : Near (l * l - A) (ur .f32 * (29 * l)) := hl2.mono (by rw [e1]; grind)
    have fin : Near (l' * l' - l * l) (2 * uu 120 * l) := by
      have : Near (l' * l' - l * l) (ur .f32 * (115 * l) + ur .f32 * (68 * l) + ur .f32 * (29 * l)) := by
        have := (d2.add d1).sub d3
        have e : l' * l' - (w * w + w' * w' + z * z) + (w * w + w' * w' + z * z - A) - (l * l - A) = l' * l' - l * l := by grind
        rw [e] at this
        exact this
      refine this.mono ?_
      have : 0 ≤ ur .f32 * l := Rat.mul_nonneg u0 l0
      have e120 : uu 120 = 120 * ur .f32 := rfl
      rw [e120]
      grind
    have k5 : 2 * uu 120 ≤ 1 / 5 := by decide +kernel
    have := near_root l0 l0' (by decide +kernel) (by grind) fin
    exact this.mono (by decide +kernel)
end Go.Fw.E1

/-
  Wires of quarters: turned ones are finite, and as long, nearly.
-/
namespace Go.Fw.E1
open Go.Proofs
theorem qw_val {i : Nat} (h : i < 17) : ∃ q : Rat, Val .f32 (qw i) q ∧ Near q 2 := by
  have o : ∀ x : Nat, (Int.ofNat x) = (x : Int) := fun _ => rfl
  have q := qw_qt h
  have z1 : ((Int.ofNat i - 8 : Int) : Rat) ≤ 8 := by
    have : ((Int.ofNat i - 8 : Int) : Rat) ≤ ((8 : Int) : Rat) := Rat.intCast_le_intCast.2 (by rw [o]; omega)
    exact this
  have z2 : (-8 : Rat) ≤ ((Int.ofNat i - 8 : Int) : Rat) := by
    have : ((-8 : Int) : Rat) ≤ ((Int.ofNat i - 8 : Int) : Rat) := Rat.intCast_le_intCast.2 (by rw [o]; omega)
    exact this
  refine ⟨_, q, ?_⟩
  generalize ((Int.ofNat i - 8 : Int) : Rat) = R at z1 z2
  unfold Near
  constructor <;> grind
section
variable {t : Nat} {C S : Rat} (hc : Val .f32 (cT t) C) (hs : Val .f32 (sT t) S) (hC : Near (C * C + S * S - 1) (2 * ur .f32))
include hc hs hC
theorem spin_pt {x y : Nat → Nat} (hx : Qs x) (hy : Qs y) (k : Nat) : ∃ u v p q : Rat, Val .f32 (x k) u ∧ Val .f32 (y k) v ∧ Near u 2 ∧ Near v 2 ∧ Val .f32 (spX (cT t) (sT t) x y k) p ∧ Val .f32 (spY (cT t) (sT t) x y k) q ∧ Near (p - (C * u - S * v)) (284 / 100 * 2 * ur .f32) ∧ Near (q - (S * u + C * v)) (284 / 100 * 2 * ur .f32) := by
  obtain ⟨i, hi, ei⟩ := hx k
  obtain ⟨j, hj, ej⟩ := hy k
  obtain ⟨u, u1, u2⟩ := qw_val hi
  obtain ⟨v, v1, v2⟩ := qw_val hj
  obtain ⟨⟨p, p1, p2⟩, ⟨q, q1, q2⟩⟩ := rot_word hC hc hs u1 v1 u2 v2 (by decide) (by decide)
  refine ⟨u, v, p, q, by rw [ei]; exact u1, by rw [ej]; exact v1, u2, v2, ?_, ?_, p2, q2⟩
  · unfold spX; rw [ei, ej]; exact p1
  · unfold spY; rw [ei, ej]; exact q1
theorem spin_vs {x y : Nat → Nat} (hx : Qs x) (hy : Qs y) : Vs (spX (cT t) (sT t) x y) ∧ Vs (spY (cT t) (sT t) x y) :=
  ⟨fun k => by obtain ⟨_, _, p, _, _, _, _, _, h, _⟩ := spin_pt hc hs hC hx hy k; exact ⟨p, h⟩, fun k => by obtain ⟨_, _, _, q, _, _, _, _, _, h, _⟩ := spin_pt hc hs hC hx hy k; exact ⟨q, h⟩⟩
theorem spin_diff {x y : Nat → Nat} (hx : Qs x) (hy : Qs y) (k j : Nat) : ∃ u v a b w w' : Rat, Val .f32 (x k) u ∧ Val .f32 (y k) v ∧ Val .f32 (x j) a ∧ Val .f32 (y j) b ∧
    Val .f32 (fop .sub .f32 (spX (cT t) (sT t) x y k) (spX (cT t) (sT t) x y j)) w ∧ Val .f32 (fop .sub .f32 (spY (cT t) (sT t) x y k) (spY (cT t) (sT t) x y j)) w' ∧ Near (w - (C * (u - a) - S * (v - b))) (uu 18) ∧ Near (w' - (S * (u - a) + C * (v - b))) (uu 18) := by
  obtain ⟨u, v, p, q, u1, v1, u2, v2, p1, q1, p2, q2⟩ := spin_pt hc hs hC hx hy k
  obtain ⟨a, b, p', q', a1, b1, a2, b2, p1', q1', p2', q2'⟩ := spin_pt hc hs hC hx hy j
  obtain ⟨r1, r2⟩ := rot_near hC ((u2.sub a2).mono (show (2 + 2 : Rat) ≤ 4 by decide +kernel)) ((v2.sub b2).mono (show (2 + 2 : Rat) ≤ 4 by decide +kernel))
  have k1 : (1415 / 1000 : Rat) * 4 + (284 / 100 * 2 * ur .f32 + 284 / 100 * 2 * ur .f32) ≤ 6 := by decide +kernel
  have k2 : 284 / 100 * 2 * ur .f32 + 284 / 100 * 2 * ur .f32 + (6 * ur .f32 + tiny .f32) ≤ uu 18 := by decide +kernel
  have big : (6 : Rat) ≤ most := by decide +kernel
  obtain ⟨w, w1, w2⟩ := p1.sub p1' (X := 6) (by unfold Near at *; constructor <;> grind) big
  obtain ⟨w', w3, w4⟩ := q1.sub q1' (X := 6) (by unfold Near at *; constructor <;> grind) big
  refine ⟨u, v, a, b, w, w', u1, v1, a1, b1, w1, w3, ?_, ?_⟩
  · unfold Near at *; constructor <;> grind
  · unfold Near at *; constructor <;> grind
/-- A segment's length, turned. -/
theorem spin_seg {n : Nat} {x y z : Nat → Nat} (hx : Qs x) (hy : Qs y) (hz : Qs z) (k : Nat) : ∃ l l' : Rat, Val .f32 (segLen (sg n x y z) k) l ∧ (0 ≤ l ∧ l ≤ 13) ∧ Val .f32 (segLen (sg n (spX (cT t) (sT t) x y) (spY (cT t) (sT t) x y) z) k) l' ∧ 0 ≤ l' ∧ Near (l' - l) (uu 250) := by
  obtain ⟨i1, hi1, e1⟩ := hx (nx n k)
  obtain ⟨i2, hi2, e2⟩ := hx k
  obtain ⟨j1, hj1, f1⟩ := hy (nx n k)
  obtain ⟨j2, hj2, f2⟩ := hy k
  obtain ⟨m1, hm1, g1⟩ := hz (nx n k)
  obtain ⟨m2, hm2, g2⟩ := hz k
  have o : ∀ x : Nat, (Int.ofNat x) = (x : Int) := fun _ => rfl
  obtain ⟨l, A, l1, l2, l3, l4, A0, A9, eA⟩ := long_dw (a := i1 + 32 - i2) (b := j1 + 32 - j2) (c := m1 + 32 - m2) (by omega) (by omega) (by omega)
  have L1 : Val .f32 (segLen (sg n x y z) k) l := by
    show Val .f32 (long (fop .sub .f32 (x (nx n k)) (x k)) (fop .sub .f32 (y (nx n k)) (y k)) (fop .sub .f32 (z (nx n k)) (z k))) l
    rw [e1, e2, f1, f2, g1, g2, sub_qw hi1 hi2, sub_qw hj1 hj2, sub_qw hm1 hm2]
    exact l1
  rw [o, o, o, show (((i1 + 32 - i2 : Nat) : Int) - 32) = (i1 : Int) - i2 by omega, show (((j1 + 32 - j2 : Nat) : Int) - 32) = (j1 : Int) - j2 by omega, show (((m1 + 32 - m2 : Nat) : Int) - 32) = (m1 : Int) - m2 by omega] at eA
  obtain ⟨u, v, a, b, w, w', u1, v1, a1, b1, w1, w2, w3, w4⟩ := spin_diff hc hs hC hx hy (nx n k) k
  -- the numbers of both points
  have U := (qw_qt hi1)
  have U' := (qw_qt hi2)
  have V := (qw_qt hj1)
  have V' := (qw_qt hj2)
  rw [e1] at u1
  rw [e2] at a1
  rw [f1] at v1
  rw [f2] at b1
  have eu := u1.unique U
  have ea := a1.unique U'
  have ev := v1.unique V
  have eb := b1.unique V'
  have Z : Qt (fop .sub .f32 (qw m1) (qw m2)) ((Int.ofNat m1 - 8) - (Int.ofNat m2 - 8)) := (qw_qt hm1).sub (qw_qt hm2) (by rw [o, o]; omega)
  have dx : u - a = (((i1 : Int) - i2 : Int) : Rat) * (1 / 4) := by
    have e : (i1 : Int) - i2 = (Int.ofNat i1 - 8) - (Int.ofNat i2 - 8) := by rw [o, o]; omega
    rw [eu, ea, e, Rat.intCast_sub]; grind
  have dy : v - b = (((j1 : Int) - j2 : Int) : Rat) * (1 / 4) := by
    have e : (j1 : Int) - j2 = (Int.ofNat j1 - 8) - (Int.ofNat j2 - 8) := by rw [o, o]; omega
    rw [ev, eb, e, Rat.intCast_sub]; grind
  have Z : Val .f32 (fop .sub .f32 (qw m1) (qw m2)) ((((m1 : Int) - m2 : Int) : Rat) * (1 / 4)) := by
    have e : (Int.ofNat m1 - 8) - (Int.ofNat m2 - 8) = (m1 : Int) - m2 := by rw [o, o]; omega
    rw [e] at Z
    exact Z
  have q1 := sq_le (a := (i1 : Int) - i2) (m := 16) (by omega) (by omega)
  have q2 := sq_le (a := (j1 : Int) - j2) (m := 16) (by omega) (by omega)
  have q3 := sq_le (a := (m1 : Int) - m2) (m := 16) (by omega) (by omega)
  have k16 : (1 / 4 : Rat) * (1 / 4) = 1 / 16 := by decide +kernel
  have sq : ∀ d : Int, (d : Rat) * (1 / 4) * ((d : Rat) * (1 / 4)) = ((d * d : Int) : Rat) * (1 / 16) := fun d => by
    rw [Rat.intCast_mul, ← k16]; grind
  have EA : (u - a) * (u - a) + (v - b) * (v - b) + (((m1 : Int) - m2 : Int) : Rat) * (1 / 4) * ((((m1 : Int) - m2 : Int) : Rat) * (1 / 4)) = A := by
    rw [dx, dy, sq, sq, sq, eA, ← Rat.add_mul, ← Rat.add_mul, ← Rat.intCast_add, ← Rat.intCast_add]
  have AA : A = 0 ∨ 1 / 16 ≤ A := by
    rw [eA]
    generalize ((i1 : Int) - i2) * ((i1 : Int) - i2) = X at *
    generalize ((j1 : Int) - j2) * ((j1 : Int) - j2) = Y at *
    generalize ((m1 : Int) - m2) * ((m1 : Int) - m2) = W at *
    by_cases h : X + Y + W = 0
    · left; rw [h]; decide +kernel
    · right
      have : ((1 : Int) : Rat) ≤ ((X + Y + W : Int) : Rat) := Rat.intCast_le_intCast.2 (by omega)
      have := Rat.mul_le_mul_of_nonneg_right this (show (0 : Rat) ≤ 1 / 16 by decide +kernel)
      exact Rat.le_trans (by decide +kernel) this
  have A48 : A ≤ 48 := by
    rw [eA]
    generalize ((i1 : Int) - i2) * ((i1 : Int) - i2) = X at *
    generalize ((j1 : Int) - j2) * ((j1 : Int) - j2) = Y at *
    generalize ((m1 : Int) - m2) * ((m1 : Int) - m2) = W at *
    have : ((X + Y + W : Int) : Rat) ≤ ((768 : Int) : Rat) := Rat.intCast_le_intCast.2 (by omega)
    have := Rat.mul_le_mul_of_nonneg_right this (show (0 : Rat) ≤ 1 / 16 by decide +kernel)
    exact Rat.le_trans this (by decide +kernel)
  have wb : Near w 12 ∧ Near w' 12 := by
    have hx4 : Near (u - a) 4 := by
      rw [dx]
      have h1 : (((i1 : Int) - i2 : Int) : Rat) ≤ ((16 : Int) : Rat) := Rat.intCast_le_intCast.2 (by omega)
      have h2 : ((-16 : Int) : Rat) ≤ (((i1 : Int) - i2 : Int) : Rat) := Rat.intCast_le_intCast.2 (by omega)
      have h1 : (((i1 : Int) - i2 : Int) : Rat) ≤ 16 := h1
      have h2 : (-16 : Rat) ≤ (((i1 : Int) - i2 : Int) : Rat) := h2
      generalize (((i1 : Int) - i2 : Int) : Rat) = R at h1 h2
      unfold Near; constructor <;> grind
    have hy4 : Near (v - b) 4 := by
      rw [dy]
      have h1 : (((j1 : Int) - j2 : Int) : Rat) ≤ ((16 : Int) : Rat) := Rat.intCast_le_intCast.2 (by omega)
      have h2 : ((-16 : Int) : Rat) ≤ (((j1 : Int) - j2 : Int) : Rat) := Rat.intCast_le_intCast.2 (by omega)
      have h1 : (((j1 : Int) - j2 : Int) : Rat) ≤ 16 := h1
      have h2 : (-16 : Rat) ≤ (((j1 : Int) - j2 : Int) : Rat) := h2
      generalize (((j1 : Int) - j2 : Int) : Rat) = R at h1 h2
      unfold Near; constructor <;> grind
    obtain ⟨r1, r2⟩ := rot_near hC hx4 hy4
    have k : (1415 / 1000 : Rat) * 4 + uu 18 ≤ 12 := by decide +kernel
    have r1 := (r1.add w3).mono k
    have r2 := (r2.add w4).mono k
    rw [show C * (u - a) - S * (v - b) + (w - (C * (u - a) - S * (v - b))) = w by grind] at r1
    rw [show S * (u - a) + C * (v - b) + (w' - (S * (u - a) + C * (v - b))) = w' by grind] at r2
    exact ⟨r1, r2⟩
  obtain ⟨l', L2, L3, L4⟩ := long_val w1 w2 Z rfl (by
    obtain ⟨b1, b2⟩ := wb
    have n1 := b1.mul b1
    have n2 := b2.mul b2
    have n3 : (((m1 : Int) - m2 : Int) : Rat) * (1 / 4) * ((((m1 : Int) - m2 : Int) : Rat) * (1 / 4)) ≤ 16 := by
      rw [sq]
      generalize ((m1 : Int) - m2) * ((m1 : Int) - m2) = W at *
      have : ((W : Int) : Rat) ≤ ((256 : Int) : Rat) := Rat.intCast_le_intCast.2 (by omega)
      have := Rat.mul_le_mul_of_nonneg_right this (show (0 : Rat) ≤ 1 / 16 by decide +kernel)
      exact Rat.le_trans this (by decide +kernel)
    have k : ((12 * 12 + 12 * 12 + 16 : Rat)) * 4 ≤ most := by decide +kernel
    unfold Near at n1 n2
    generalize (((m1 : Int) - m2 : Int) : Rat) * (1 / 4) * ((((m1 : Int) - m2 : Int) : Rat) * (1 / 4)) = M at *
    generalize w * w = W1 at *
    generalize w' * w' = W2 at *
    grind)
  have L2 : Val .f32 (segLen (sg n (spX (cT t) (sT t) x y) (spY (cT t) (sT t) x y) z) k) l' := by
    show Val .f32 (long (fop .sub .f32 (spX (cT t) (sT t) x y (nx n k)) (spX (cT t) (sT t) x y k)) (fop .sub .f32 (spY (cT t) (sT t) x y (nx n k)) (spY (cT t) (sT t) x y k)) (fop .sub .f32 (z (nx n k)) (z k))) l'
    rw [g1, g2]
    exact L2
  refine ⟨l, l', L1, ⟨l2, ?_⟩, L2, L3, ?_⟩
  · refine le_of_sq (by decide) ?_
    have k : (48 : Rat) + 48 * e22 ≤ 13 * 13 := by decide +kernel
    have := Rat.mul_le_mul_of_nonneg_right A48 (show 0 ≤ e22 by decide +kernel)
    unfold Near at l4
    grind
  · refine seg_turn hC w3 w4 l2 L3 ?_ L4 (by rw [EA]; exact AA) (by rw [EA]; exact A48)
    rw [EA]; exact l4
end
end Go.Fw.E1

/-
  Wires of quarters: turned ones are as long, nearly.
-/
namespace Go.Fw.E1
open Go.Proofs
theorem rsum_diff {f g : Nat → Rat} {E : Rat} : ∀ m, (∀ k, k < m → Near (g k - f k) E) → Near (rsum g m - rsum f m) ((m : Rat) * E)
  | 0, _ => by
    show Near (0 - 0) (((0 : Nat) : Rat) * E)
    rw [show ((0 : Nat) : Rat) = 0 from rfl, Rat.zero_mul]
    unfold Near; constructor <;> grind
  | m + 1, H => by
    have h1 := rsum_diff m fun k hk => H k (by omega)
    have h2 := H m (by omega)
    show Near (rsum g m + g m - (rsum f m + f m)) (((m + 1 : Nat) : Rat) * E)
    rw [Rat.natCast_add, Rat.add_mul, show ((1 : Nat) : Rat) = 1 from rfl, Rat.one_mul]
    have := h1.add h2
    rw [show rsum g m - rsum f m + (g m - f m) = rsum g m + g m - (rsum f m + f m) by grind] at this
    exact this
theorem gap_len2 {l r : Nat} {v u : Rat} (hv : Val .f32 l v) (hu : Val .f32 r u) (h : Near (u - v) (1 / 2000)) : (forder .f64 (gap8 (fcvt .f32 .f64 r) (fcvt .f32 .f64 l)) (can .f64 4562254508917369340) == some .gt) = false :=
  gap_ngt hu.widen hv.widen h kMil (by decide +kernel) (by decide +kernel)
section
variable {t n : Nat} {x y z : Nat → Nat} {C S : Rat} (hc : Val .f32 (cT t) C) (hs : Val .f32 (sT t) S) (hC : Near (C * C + S * S - 1) (2 * ur .f32)) (hx : Qs x) (hy : Qs y) (hz : Qs z) (h0 : 2 ≤ n) (h6 : n ≤ 6)
include hc hs hC hx hy hz h0 h6
omit h0 in
theorem spin_val (cl : Bool) : ∃ v u, Val .f32 (lenW n x y z cl) v ∧ Val .f32 (lenW n (spX (cT t) (sT t) x y) (spY (cT t) (sT t) x y) z cl) u ∧ Near (u - v) (1 / 2000) := by
  have H : ∀ k, ∃ l l' : Rat, Val .f32 (segLen (sg n x y z) k) l ∧ (0 ≤ l ∧ l ≤ 13) ∧ Val .f32 (segLen (sg n (spX (cT t) (sT t) x y) (spY (cT t) (sT t) x y) z) k) l' ∧ 0 ≤ l' ∧ Near (l' - l) (uu 250) := spin_seg hc hs hC hx hy hz
  obtain ⟨f, hf⟩ : ∃ f : Nat → Rat, ∀ k, ∃ l' : Rat, Val .f32 (segLen (sg n x y z) k) (f k) ∧ (0 ≤ f k ∧ f k ≤ 13) ∧ Val .f32 (segLen (sg n (spX (cT t) (sT t) x y) (spY (cT t) (sT t) x y) z) k) l' ∧ 0 ≤ l' ∧ Near (l' - f k) (uu 250) := ⟨fun k => (H k).choose, fun k => (H k).choose_spec⟩
  obtain ⟨g, hg⟩ : ∃ g : Nat → Rat, ∀ k, Val .f32 (segLen (sg n x y z) k) (f k) ∧ (0 ≤ f k ∧ f k ≤ 13) ∧ Val .f32 (segLen (sg n (spX (cT t) (sT t) x y) (spY (cT t) (sT t) x y) z) k) (g k) ∧ 0 ≤ g k ∧ Near (g k - f k) (uu 250) := ⟨fun k => (hf k).choose, fun k => (hf k).choose_spec⟩
  have hm : cnt n cl ≤ 6 := Nat.le_trans (cnt_le n cl) h6
  have k1 : (13 : Rat) ≤ 14 := by decide
  have k2 : uu 250 ≤ 1 := by decide +kernel
  obtain ⟨v, v1, v2⟩ := lenS_val hm (f := f) fun k _ => by
    obtain ⟨a, b, _⟩ := hg k
    exact ⟨a, b.1, Rat.le_trans b.2 k1⟩
  obtain ⟨u, u1, u2⟩ := lenS_val hm (f := g) fun k _ => by
    obtain ⟨_, b, c, d, e⟩ := hg k
    refine ⟨c, d, ?_⟩
    unfold Near at e
    grind
  refine ⟨v, u, v1, u1, ?_⟩
  have d := rsum_diff (f := f) (g := g) (E := uu 250) (cnt n cl) fun k _ => (hg k).2.2.2.2
  have hm6 : ((cnt n cl : Nat) : Rat) ≤ 6 := by
    have : ((cnt n cl : Nat) : Rat) ≤ ((6 : Nat) : Rat) := Rat.natCast_le_natCast.2 hm
    exact this
  have k3 := Rat.mul_le_mul_of_nonneg_right hm6 (show 0 ≤ uu 250 by decide +kernel)
  have k4 : 6 * uu 250 + (1 / 10000 + 1 / 10000) ≤ 1 / 2000 := by decide +kernel
  generalize ((cnt n cl : Nat) : Rat) * uu 250 = M at *
  generalize 6 * uu 250 = M' at *
  unfold Near at *
  constructor <;> grind
omit h0 in
theorem gap_spin (cl : Bool) : (forder .f64 (gap8 (fcvt .f32 .f64 (lenW n (spX (cT t) (sT t) x y) (spY (cT t) (sT t) x y) z cl)) (fcvt .f32 .f64 (lenW n x y z cl))) (can .f64 4562254508917369340) == some .gt) = false := by
  obtain ⟨v, u, h1, h2, h3⟩ := spin_val hc hs hC hx hy hz h6 cl
  exact gap_len2 h1 h2 h3
theorem ok_spin {c : Nat} (hf : fin c = true) : okW n c (spX (cT t) (sT t) x y) (spY (cT t) (sT t) x y) z = true := by
  obtain ⟨a, b⟩ := spin_vs hc hs hC hx hy
  exact okW_vs h0 h6 hf a b hz.vs
theorem spin_okq {c : Nat} (hf : fin c = true) (ht : fin t = true) : spinOk n c x y z t = true := by
  unfold spinOk
  rw [ok_own hx hy hz h0 h6 hf, ht, ok_spin hc hs hC hx hy hz h0 h6 hf]
  rfl
theorem len_spin {c : Nat} (hf : fin c = true) (cl : Bool) : lenOk n c (spX (cT t) (sT t) x y) (spY (cT t) (sT t) x y) z cl = true := by
  unfold lenOk
  obtain ⟨_, u, _, h1, _⟩ := spin_val hc hs hC hx hy hz h6 cl
  rw [ok_spin hc hs hC hx hy hz h0 h6 hf, fin_val h1]
  rfl
end
end Go.Fw.E1

/-
  The law of wires.
-/
namespace Go.Fw.E1
open Go.Proofs
section
variable {n c p q r t : Nat} {x y z : Nat → Nat} {C S : Rat}
  (hc : Val .f32 (cT t) C) (hs : Val .f32 (sT t) S) (hC : Near (C * C + S * S - 1) (2 * ur .f32)) (ht : fin t = true)
  (hx : Qs x) (hy : Qs y) (hz : Qs z) (h0 : 2 ≤ n) (h6 : n ≤ 6) (hi : c < 17) (hp : p < 17) (hq : q < 17) (hr : r < 17)
include hx hy hz h0 h6 hp hq hr
omit h0 in
theorem area_okq (cl : Bool) : vfin (hfX n x y z cl) (hfY n x y z cl) (hfZ n x y z cl) = true ∧ vfin (hfX n (adX (qw p) x) (adX (qw q) y) (adX (qw r) z) cl) (hfY n (adX (qw p) x) (adX (qw q) y) (adX (qw r) z) cl) (hfZ n (adX (qw p) x) (adX (qw q) y) (adX (qw r) z) cl) = true := by
  obtain ⟨ix, x1, x2⟩ := qs_hs hx
  obtain ⟨iy, y1, y2⟩ := qs_hs hy
  obtain ⟨iz, z1, z2⟩ := qs_hs hz
  obtain ⟨_, _, _, a, b, d⟩ := hf_vals x1 y1 z1 h6 cl
  obtain ⟨_, _, _, a', b', d'⟩ := hf_vals (x2 p hp) (y2 q hq) (z2 r hr) h6 cl
  exact ⟨vfin_vals a.1 b.1 d.1, vfin_vals a'.1 b'.1 d'.1⟩
omit h0 hp hq hr in
include hi in
theorem moment_okq (cl : Bool) : ∃ a b d : Rat, Val .f32 (fop .mul .f32 (hfX n x y z cl) (qw c)) a ∧ Val .f32 (fop .mul .f32 (hfY n x y z cl) (qw c)) b ∧ Val .f32 (fop .mul .f32 (hfZ n x y z cl) (qw c)) d := by
  obtain ⟨ix, x1, x2⟩ := qs_hs hx
  obtain ⟨iy, y1, y2⟩ := qs_hs hy
  obtain ⟨iz, z1, z2⟩ := qs_hs hz
  obtain ⟨_, _, _, a, b, d⟩ := hf_vals x1 y1 z1 h6 cl
  obtain ⟨u, hu⟩ := mul_cu a.1 a.2 hi
  obtain ⟨v, hv⟩ := mul_cu b.1 b.2 hi
  obtain ⟨w, hw⟩ := mul_cu d.1 d.2 hi
  exact ⟨u, v, w, hu, hv, hw⟩
theorem mid_okq : vfin (midW x n) (midW y n) (midW z n) = true ∧ vfin (midW (adX (qw p) x) n) (midW (adX (qw q) y) n) (midW (adX (qw r) z) n) = true := by
  obtain ⟨ix, x1, x2⟩ := qs_hs hx
  obtain ⟨iy, y1, y2⟩ := qs_hs hy
  obtain ⟨iz, z1, z2⟩ := qs_hs hz
  obtain ⟨_, _, _, _, a, _⟩ := mid_near x1 h0 h6
  obtain ⟨_, _, _, _, b, _⟩ := mid_near y1 h0 h6
  obtain ⟨_, _, _, _, d, _⟩ := mid_near z1 h0 h6
  obtain ⟨_, _, _, _, a', _⟩ := mid_near (x2 p hp) h0 h6
  obtain ⟨_, _, _, _, b', _⟩ := mid_near (y2 q hq) h0 h6
  obtain ⟨_, _, _, _, d', _⟩ := mid_near (z2 r hr) h0 h6
  exact ⟨vfin_vals a b d, vfin_vals a' b' d'⟩
theorem mid_lt : (forder .f64 (fcvt .f32 .f64 (long (fop .sub .f32 (fop .add .f32 (midW x n) (qw p)) (midW (adX (qw p) x) n)) (fop .sub .f32 (fop .add .f32 (midW y n) (qw q)) (midW (adX (qw q) y) n)) (fop .sub .f32 (fop .add .f32 (midW z n) (qw r)) (midW (adX (qw r) z) n)))) (can .f64 4562254508917369340) == some .lt) = true := by
  obtain ⟨a, a1, a2⟩ := mid_move hx hp h0 h6
  obtain ⟨b, b1, b2⟩ := mid_move hy hq h0 h6
  obtain ⟨d, d1, d2⟩ := mid_move hz hr h0 h6
  exact apart_lt a1 b1 d1 a2 b2 d2
include hi in
theorem v8C_true : v8C n (qw c) (qw p) (qw q) (qw r) x y z true = true := by
  unfold v8C
  obtain ⟨a, b, d, ha, hb, hd⟩ := moment_okq hx hy hz h6 hi true
  have e : (Int.ofNat (cnt n true) == Int.ofNat n) = true := by
    show (Int.ofNat n == Int.ofNat n) = true
    exact beq_self_eq_true _
  rw [e, area_lt hx hy hz hp hq hr (by omega) h6, same_lt ha hb hd, mid_lt hx hy hz h0 h6 hp hq hr]
  rfl
include hi in
theorem v8O_true : v8O n (qw c) (qw p) (qw q) (qw r) x y z false = true := by
  unfold v8O
  obtain ⟨a, b, d, ha, hb, hd⟩ := moment_okq hx hy hz h6 hi false
  have e : (Int.ofNat (cnt n false) == IntKind.i64.wrap (Int.ofNat n - Int.ofNat 1)) = true := by
    have e1 : Int.ofNat n - Int.ofNat 1 = Int.ofNat (n - 1) := by
      show (n : Int) - 1 = ((n - 1 : Nat) : Int)
      omega
    rw [e1, wrap_nat (by omega)]
    show (Int.ofNat (n - 1) == Int.ofNat (n - 1)) = true
    exact beq_self_eq_true _
  rw [e, same_lt ha hb hd, mid_lt hx hy hz h0 h6 hp hq hr]
  rfl
include hc hs hC ht hi
theorem c8C_true : c8C n (qw c) (qw p) (qw q) (qw r) t x y z true = true := by
  have hf := fin_qw hi
  obtain ⟨a, b, d, ha, hb, hd⟩ := moment_okq hx hy hz h6 hi true
  have ar := area_okq hx hy hz h6 hp hq hr true
  have mi := mid_okq hx hy hz h0 h6 hp hq hr
  unfold c8C
  rw [ok_own hx hy hz h0 h6 hf, len_own hx hy hz h0 h6 hf, mov_okq hx hy hz h0 h6 hf hp hq hr, len_mov hx hy hz h0 h6 hf true hp hq hr, spin_okq hc hs hC hx hy hz h0 h6 hf ht, len_spin hc hs hC hx hy hz h0 h6 hf, len_rev hx hy hz h0 h6 hf, scl_okq hx hy hz h0 h6 hf, len_dbl hx hy hz h0 h6 hf, ok_rev hx hy hz h0 h6 hf,
    gap_mov hx hy hz h0 h6 true hp hq hr, gap_spin hc hs hC hx hy hz h6, gap_back hx hy hz h0 h6, (lenW_dbl hx hy hz h6 true).1, ar.1, ar.2, vfin_vals ha hb hd, mi.1, mi.2, ok_mov hx hy hz h0 h6 hf hp hq hr, same_again hx hy hz, samO_qw hi, Nat.beq_refl, Nat.ble_eq_true_of_le (show n ≤ 1000 by omega), Nat.ble_eq_true_of_le (show n ≤ 4611686018427387000 by omega)]
  rfl
theorem c8O_true : c8O n (qw c) (qw p) (qw q) (qw r) t x y z false = true := by
  have hf := fin_qw hi
  obtain ⟨a, b, d, ha, hb, hd⟩ := moment_okq hx hy hz h6 hi false
  have ar := area_okq hx hy hz h6 hp hq hr false
  have mi := mid_okq hx hy hz h0 h6 hp hq hr
  unfold c8O
  rw [ok_own hx hy hz h0 h6 hf, len_own hx hy hz h0 h6 hf, mov_okq hx hy hz h0 h6 hf hp hq hr, len_mov hx hy hz h0 h6 hf false hp hq hr, spin_okq hc hs hC hx hy hz h0 h6 hf ht, len_spin hc hs hC hx hy hz h0 h6 hf, len_rev hx hy hz h0 h6 hf, scl_okq hx hy hz h0 h6 hf, len_dbl hx hy hz h0 h6 hf, ok_rev hx hy hz h0 h6 hf,
    gap_mov hx hy hz h0 h6 false hp hq hr, gap_spin hc hs hC hx hy hz h6, gap_back hx hy hz h0 h6, (lenW_dbl hx hy hz h6 false).1, ar.1, ar.2, vfin_vals ha hb hd, mi.1, mi.2, ok_mov hx hy hz h0 h6 hf hp hq hr, same_again hx hy hz, samO_qw hi, Nat.beq_refl, Nat.ble_eq_true_of_le (show n ≤ 1000 by omega), Nat.ble_eq_true_of_le (show n ≤ 4611686018427387000 by omega)]
  rfl
end
theorem wp_qs {b : Nat → Nat} (hb : ∀ i, b i < 256) (la : Nat) : Qs (wpx la b) ∧ Qs (wpy la b) ∧ Qs (wpz la b) :=
  ⟨fun k => wq_ex hb la _ _, fun k => wq_ex hb la _ _, fun k => wq_ex hb la _ _⟩
theorem law8 {la lc : Nat} {b c : Nat → Nat} (hb : ∀ i, b i < 256) (hc : ∀ i, c i < 256) : PureCall Try.prog 8 [.ro 1 la (.gen fun i => .int .u8 (Int.ofNat (b i))), .ro 1 lc (.gen fun i => .int .u8 (Int.ofNat (c i)))] (.bool true) := by
  by_cases h : la ≤ 48 ∧ lc ≤ 48
  · obtain ⟨i0, I0, A0⟩ := r8c_ex (la := lc) hc 0 (k := 0) (by omega)
    obtain ⟨i1, I1, A1⟩ := r8c_ex (la := lc) hc 0 (k := 1) (by omega)
    obtain ⟨i2, I2, A2⟩ := r8c_ex (la := lc) hc 0 (k := 2) (by omega)
    obtain ⟨u, hu, E1⟩ := r8a_ex (la := lc) hc 3 (n := 32) (by omega)
    obtain ⟨j, J, CU⟩ := wq_ex hb la (Int.ofNat 0 + Int.ofNat 1) (sd1 la b)
    have CU : wcu la b = qw j := CU
    obtain ⟨n, n0, n6, _, N⟩ := wn_ex (la := la) (b := b) fun i _ => hb i
    obtain ⟨C, S, C1, S1, CS, F⟩ := turn_val hu
    obtain ⟨X, Y, Z⟩ := wp_qs hb la
    cases CL : wcl la b
    · have W := walk8O la lc b c
      rw [E1, A0, A1, A2, CU, N, CL, v8O_true X Y Z n0 n6 J I0 I1 I2, c8O_true C1 S1 CS F X Y Z n0 n6 J I0 I1 I2] at W
      refine autoW_ok cfgR7_ok Try.func8 (by kernel_rfl) (lp_none _) W ?_
      have ub := u8_all (la := la) hb
      have uc := u8_all (la := lc) hc
      have ub : allUpTo (isU8 fun i => A.int IntKind.u8 (Int.ofNat (b i))) la = true := ub
      have uc : allUpTo (isU8 fun i => A.int IntKind.u8 (Int.ofNat (c i))) lc = true := uc
      rw [ub, uc, decide_eq_false (show ¬ Int.ofNat la > 48 by simp; omega), decide_eq_false (show ¬ Int.ofNat lc > 48 by simp; omega)]
      rfl
    · have W := walk8C la lc b c
      rw [E1, A0, A1, A2, CU, N, CL, v8C_true X Y Z n0 n6 J I0 I1 I2, c8C_true C1 S1 CS F X Y Z n0 n6 J I0 I1 I2] at W
      refine autoW_ok cfgR7_ok Try.func8 (by kernel_rfl) (lp_none _) W ?_
      have ub := u8_all (la := la) hb
      have uc := u8_all (la := lc) hc
      have ub : allUpTo (isU8 fun i => A.int IntKind.u8 (Int.ofNat (b i))) la = true := ub
      have uc : allUpTo (isU8 fun i => A.int IntKind.u8 (Int.ofNat (c i))) lc = true := uc
      rw [ub, uc, decide_eq_false (show ¬ Int.ofNat la > 48 by simp; omega), decide_eq_false (show ¬ Int.ofNat lc > 48 by simp; omega)]
      rfl
  · refine autoW_ok cfgR7_ok Try.func8 (by kernel_rfl) (lp_none _) (long8 la lc b c) ?_
    by_cases h1 : la ≤ 48
    · rw [decide_eq_false (show ¬ Int.ofNat la > 48 by simp; omega), decide_eq_true (show Int.ofNat lc > 48 by simp; omega)]; rfl
    · rw [decide_eq_true (show Int.ofNat la > 48 by simp; omega)]; rfl
end Go.Fw.E1
