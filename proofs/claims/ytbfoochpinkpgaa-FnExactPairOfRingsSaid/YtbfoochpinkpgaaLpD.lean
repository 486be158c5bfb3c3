/-
  Wires that are moved.
-/
import Derived.Test.YtbfoochpinkpgaaLpC
import Derived.Test.YtbfoochpinkpgaaFwC
import Derived.Test.YtbfoochpinkpgaaLpA

namespace Go.Fw.W1
open Go.Proofs
noncomputable def adX (a : Nat) (x : Nat → Nat) (p : Nat) : Nat := fop .add .f32 (x p) a
theorem adX_at {a k v : Nat} {x : Nat → Nat} (h : v = fop .add .f32 (x k) a) : v = adX a x k := h
noncomputable def I120 (n cur a b c : Nat) (x y z : Nat → Nat) (cl : Bool) (k : Nat) : List A := [.ptr 112 0, .int .i64 (Int.ofNat k), .ptr 16 0, .ptr 32 0, .bool false]
noncomputable def J120 (n cur a b c : Nat) (x y z : Nat → Nat) (cl : Bool) (k : Nat) : List O := [.var [.sl 240 n, .bool cl, .flt .f32 cur], .row 59 3 n (.vecs .f32 (upto k (adX a x) x) (upto k (adX b y) y) (upto k (adX c z) z)), .var [.flt .f32 a, .flt .f32 b, .flt .f32 c], .var [.nils, .bool false, .flt .f32 0]]
theorem round120 (n cur a b c : Nat) (x y z : Nat → Nat) (cl : Bool) (k : Nat) (L : XK → List A → List (Option O) → Prop) :
    ((exec cfgSD (fun _ => true) (fun _ => none) 0 1000 (loopOf Try.f120 0) (litSt Try.f120.ntmps 432 [6, 7, 3, 4, 5] [112, 240, 16, 32] (I120 n cur a b c x y z cl k) (J120 n cur a b c x y z cl k))).rt [6, 7, 3, 4, 5] [112, 240, 16, 32]).Ok L =
    bif decide (Int.ofNat k < Int.ofNat n) then 
       bif decide (Int.ofNat k < Int.ofNat n) && true then 
         bif decide (Int.ofNat k < Int.ofNat n) then 
           L (XK.normal) ([A.ptr 112 0, A.int IntKind.i64 (IntKind.i64.wrap (Int.ofNat k + Int.ofNat 1)), A.ptr 16 0, A.ptr 32 0, A.bool false]) ([some (O.var [A.sl 240 n, A.bool cl, A.flt FloatKind.f32 cur]),   some     (O.row 59 3 n       (Row.vecs FloatKind.f32         (fun j =>           (match decide (j = (Int.ofNat k).toNat) with | true => fop BinOp.add FloatKind.f32 (upto k (adX a x) x k) a | false => upto k (adX a x) x j))         (fun j =>           (match decide (j = (Int.ofNat k).toNat) with | true => fop BinOp.add FloatKind.f32 (upto k (adX b y) y k) b | false => upto k (adX b y) y j))         fun j =>         (match decide (j = (Int.ofNat k).toNat) with | true => fop BinOp.add FloatKind.f32 (upto k (adX c z) z k) c | false => upto k (adX c z) z j))),   some (O.var [A.flt FloatKind.f32 a, A.flt FloatKind.f32 b, A.flt FloatKind.f32 c]), some (O.var [A.nils, A.bool false, A.flt FloatKind.f32 0])]) 
         else 
           False 
       else 
         False 
     else 
       L (XK.exit 0) ([A.ptr 112 0, A.int IntKind.i64 (Int.ofNat k), A.ptr 16 0, A.ptr 32 0, A.bool false]) ([some (O.var [A.sl 240 n, A.bool cl, A.flt FloatKind.f32 cur]), some (O.row 59 3 n (Row.vecs FloatKind.f32 (fun p => upto k (adX a x) x p) (fun p => upto k (adX b y) y p) fun p => upto k (adX c z) z p)), some (O.var [A.flt FloatKind.f32 a, A.flt FloatKind.f32 b, A.flt FloatKind.f32 c]), some (O.var [A.nils, A.bool false, A.flt FloatKind.f32 0])]) := by kernel_rfl
noncomputable def F120 : List A → List (Option O) → Option R3
  | [.ptr 112 0, .int .i64 0, .ptr 16 0, .ptr 32 0, .bool false], [some (.var [.sl 240 n, .bool cl, .flt .f32 cur]), some (.row 59 3 n2 (.vecs .f32 x y z)), some (.var [.flt .f32 a, .flt .f32 b, .flt .f32 c]), some (.var [.nils, .bool false, .flt .f32 0])] => some (.ite (Nat.beq n n2 && Nat.ble n 1073741824) (.leaf .normal (I120 n cur a b c x y z cl (n)) [.var [.sl 240 n, .bool cl, .flt .f32 cur], .row 59 3 n (.vecs .f32 (adX a x) (adX b y) (adX c z)), .var [.flt .f32 a, .flt .f32 b, .flt .f32 c], .var [.nils, .bool false, .flt .f32 0]]) .fail)
  | _, _ => none
theorem loop120 : CodeOK Try.prog (fun _ σ => sumAt Try.f120.ntmps 432 [6, 7, 3, 4, 5] [112, 240, 16, 32] F120 σ) (.block 0 (.loop (loopOf Try.f120 0))) := by
  refine block_ok (own := fun _ => true) (lp := (fun _ => none)) (un := 0) (fuel := 1000) cfgSD_ok (lp_none _) fun az os R hF hok => ?_
  unfold F120 at hF
  split at hF
  · rename_i n cl cur n2 x y z a b c
    injection hF with hF
    subst hF
    have hg := hok.guard
    have hg' := hg
    simp only [Bool.and_eq_true, Nat.ble_eq, Nat.beq_eq, decide_eq_true_eq] at hg'
    obtain ⟨rfl, hn⟩ := hg'
    refine for_fact (ids := [112, 240, 16, 32]) (fun _ => true) (n) (I120 n cur a b c x y z cl) (J120 n cur a b c x y z cl) _ (.ret) (I120 n cur a b c x y z cl) (I120 n cur a b c x y z cl) (I120 n cur a b c x y z cl (n)) [.var [.sl 240 n, .bool cl, .flt .f32 cur], .row 59 3 n (.vecs .f32 (adX a x) (adX b y) (adX c z)), .var [.flt .f32 a, .flt .f32 b, .flt .f32 c], .var [.nils, .bool false, .flt .f32 0]] rfl (by unfold J120; exact ⟨rfl, ⟨59, _, rfl, .inr rfl, fun p hp => vec_at rfl rfl rfl⟩, rfl, rfl, trivial⟩) (fun _ => rfl) (fun _ => rfl) (fun _ => ALe.self _) (fun _ => rfl) (ALe.self _) (by unfold J120; exact ⟨rfl, ⟨59, _, rfl, .inr rfl, fun p hp => vec_at (upto_end _ _ hp) (upto_end _ _ hp) (upto_end _ _ hp)⟩, rfl, rfl, trivial⟩) rfl (fun h => by cases h) (fun k hk L h1 h2 h3 => ?_) fun L hL => ?_
    · rw [round120]

      by_cases hkm : k < n
      · refine condT (lt_dec hkm) ?_
        rw [wrap_succ (by omega)]
        refine condT (by rw [lt_dec hkm]; rfl) ?_
        refine condT (lt_dec hkm) ?_
        exact h1 hkm rfl _ ⟨rfl, ⟨59, _, rfl, .inr rfl, fun p hp => vec_at (upto_put (adX_at (by rw [upto_self]; rfl)) p) (upto_put (adX_at (by rw [upto_self]; rfl)) p) (upto_put (adX_at (by rw [upto_self]; rfl)) p)⟩, rfl, rfl, trivial⟩
      · refine condE (ge_dec (by omega)) ?_
        obtain rfl : k = n := by omega
        exact h3 rfl
    · exact ⟨fun _ => hL.1 hg, fun N _ h => by cases h⟩
  · cases hF

noncomputable def I95m (n cur a b c : Nat) (x y z : Nat → Nat) (cl : Bool) (k : Nat) : List A := [.fn 140 [.rop (.agg [.flt .f32 a, .flt .f32 b, .flt .f32 c]) 0], .ro 3 n (.vecs .f32 x y z), .int .i64 (Int.ofNat n), .int .i64 (Int.ofNat k), .ptr 176 0, .ptr 16 0, .bool false]
noncomputable def J95m (n cur a b c : Nat) (x y z : Nat → Nat) (cl : Bool) (k : Nat) : List O := [.var [.sl 272 k, .bool cl, .flt .f32 cur], .row 59 3 k (.vecs .f32 (adX a x) (adX b y) (adX c z)), .var [.nils, .bool false, .flt .f32 0]]
theorem round95m (n cur a b c : Nat) (x y z : Nat → Nat) (cl : Bool) (k : Nat) (L : XK → List A → List (Option O) → Prop) :
    ((exec cfgMN (fun _ => true) (fun _ => none) 0 1000 (loopOf Try.f95 0) (litSt Try.f95.ntmps 288 [1, 19, 20, 21, 6, 4, 5] [176, 272, 16] (I95m n cur a b c x y z cl k) (J95m n cur a b c x y z cl k))).rt [1, 19, 20, 21, 6, 4, 5] [176, 272, 16]).Ok L =
    bif decide (Int.ofNat k < Int.ofNat n) then 
       bif decide (Int.ofNat k < Int.ofNat n) then 
         bif decide (k + 1 ≤ 1073741824) then 
           L (XK.normal) ([A.fn 140 [(A.agg [A.flt FloatKind.f32 a, A.flt FloatKind.f32 b, A.flt FloatKind.f32 c]).rop 0], A.ro 3 n (Row.vecs FloatKind.f32 x y z), A.int IntKind.i64 (Int.ofNat n), A.int IntKind.i64 (IntKind.i64.wrap (Int.ofNat k + Int.ofNat 1)), A.ptr 176 0, A.ptr 16 0, A.bool false]) ([some (O.var [A.sl 272 (k + 1), A.bool cl, A.flt FloatKind.f32 cur]),   some     (O.row 59 3 (k + 1)       (Row.vecs FloatKind.f32         (fun j =>           (match decide (j < k) with | true => adX a x j | false => ([[fop BinOp.add FloatKind.f32 (x k) a, fop BinOp.add FloatKind.f32 (y k) b, fop BinOp.add FloatKind.f32 (z k) c]].getD (j - k) []).getD 0 0))         (fun j =>           (match decide (j < k) with | true => adX b y j | false => ([[fop BinOp.add FloatKind.f32 (x k) a, fop BinOp.add FloatKind.f32 (y k) b, fop BinOp.add FloatKind.f32 (z k) c]].getD (j - k) []).getD 1 0))         fun j =>         (match decide (j < k) with | true => adX c z j | false => ([[fop BinOp.add FloatKind.f32 (x k) a, fop BinOp.add FloatKind.f32 (y k) b, fop BinOp.add FloatKind.f32 (z k) c]].getD (j - k) []).getD 2 0))),   some (O.var [A.nils, A.bool false, A.flt FloatKind.f32 0])]) 
         else 
           False 
       else 
         False 
     else 
       L (XK.exit 0) ([A.fn 140 [(A.agg [A.flt FloatKind.f32 a, A.flt FloatKind.f32 b, A.flt FloatKind.f32 c]).rop 0], A.ro 3 n (Row.vecs FloatKind.f32 x y z), A.int IntKind.i64 (Int.ofNat n), A.int IntKind.i64 (Int.ofNat k), A.ptr 176 0, A.ptr 16 0, A.bool false]) ([some (O.var [A.sl 272 k, A.bool cl, A.flt FloatKind.f32 cur]), some (O.row 59 3 k (Row.vecs FloatKind.f32 (fun p => adX a x p) (fun p => adX b y p) fun p => adX c z p)), some (O.var [A.nils, A.bool false, A.flt FloatKind.f32 0])]) := by kernel_rfl
noncomputable def F95m : List A → List (Option O) → Option R3
  | [.fn 140 [.rop (.agg [.flt .f32 a, .flt .f32 b, .flt .f32 c]) 0], .ro 3 n (.vecs .f32 x y z), .int .i64 l, .int .i64 0, .ptr 176 0, .ptr 16 0, .bool false], [some (.var [.sl 272 0, .bool cl, .flt .f32 cur]), some (.row 59 3 0 g), some (.var [.nils, .bool false, .flt .f32 0])] => some (.ite (decide (l = Int.ofNat n) && Nat.ble n 1000) (.leaf .normal (I95m n cur a b c x y z cl (n)) (J95m n cur a b c x y z cl (n))) .fail)
  | _, _ => none
theorem loop95m : CodeOK Try.prog (fun _ σ => sumAt Try.f95.ntmps 288 [1, 19, 20, 21, 6, 4, 5] [176, 272, 16] F95m σ) (.block 0 (.loop (loopOf Try.f95 0))) := by
  refine block_ok (own := fun _ => true) (lp := (fun _ => none)) (un := 0) (fuel := 1000) cfgMN_ok (lp_none _) fun az os R hF hok => ?_
  unfold F95m at hF
  split at hF
  · rename_i a b c n x y z l cl cur g
    injection hF with hF
    subst hF
    have hg := hok.guard
    have hg' := hg
    simp only [Bool.and_eq_true, Nat.ble_eq, Nat.beq_eq, decide_eq_true_eq] at hg'
    obtain ⟨rfl, hn⟩ := hg'
    refine for_fact (ids := [176, 272, 16]) (fun _ => true) (n) (I95m n cur a b c x y z cl) (J95m n cur a b c x y z cl) _ (.ret) (I95m n cur a b c x y z cl) (I95m n cur a b c x y z cl) (I95m n cur a b c x y z cl (n)) (J95m n cur a b c x y z cl (n)) rfl (by unfold J95m; exact ⟨rfl, ⟨59, _, rfl, .inr rfl, fun p hp => absurd hp (by omega)⟩, rfl, trivial⟩) (fun _ => rfl) (fun _ => rfl) (fun _ => ALe.self _) (fun _ => rfl) (ALe.self _) (OSims.self _) rfl (fun h => by cases h) (fun k hk L h1 h2 h3 => ?_) fun L hL => ?_
    · rw [round95m]

      by_cases hkm : k < n
      · refine condT (lt_dec hkm) ?_
        rw [wrap_succ (by omega)]
        refine condT (lt_dec hkm) ?_
        refine condT (decide_eq_true (by omega)) ?_
        exact h1 hkm rfl _ ⟨rfl, ⟨59, _, rfl, .inr rfl, fun p hp => vec_at (app3 (u := adX a x) rfl hp) (app3 (u := adX b y) rfl hp) (app3 (u := adX c z) rfl hp)⟩, rfl, trivial⟩
      · refine condE (ge_dec (by omega)) ?_
        obtain rfl : k = n := by omega
        exact h3 rfl
    · exact ⟨fun _ => hL.1 hg, fun N _ h => by cases h⟩
  · cases hF

noncomputable def N95m : St → T := nilW 176 0 59 3 (sumAt Try.f95.ntmps 288 [1, 19, 20, 21, 6, 4, 5] [176, 272, 16] F95m)
theorem loopN95m : CodeOK Try.prog (fun _ σ => N95m σ) (.block 0 (.loop (loopOf Try.f95 0))) := nilW_ok loop95m
noncomputable def movOk (n cur a b c : Nat) (x y z : Nat → Nat) : Bool := okW n cur x y z && okW n cur (adX a x) (adX b y) (adX c z)
theorem mov_ok {n cur a b c : Nat} {x y z : Nat → Nat} (h : movOk n cur a b c x y z = true) : okW n cur x y z = true ∧ okW n cur (adX a x) (adX b y) (adX c z) = true ∧ 1 ≤ n ∧ n ≤ 1000 := by
  unfold movOk at h
  simp only [Bool.and_eq_true] at h
  obtain ⟨h1, h2⟩ := h
  exact ⟨h1, h2, by have := okW_n h1; omega, by have := okW_n h1; omega⟩
noncomputable def lp120T : List (Nat × (St → T)) := [(0, sumAt Try.f120.ntmps 432 [6, 7, 3, 4, 5] [112, 240, 16, 32] F120)]
theorem lp120T_ok : LpOK Try.prog (look lp120T) (bodyOf Try.f120) := lp_loops (by kernel_rfl) (by kernel_rfl) fun p hp => by
  simp only [lp120T, List.mem_cons, List.not_mem_nil, or_false] at hp
  rcases hp with rfl
  · exact loop120
theorem auto120T (n cur : Nat) (x y z : Nat → Nat) (cl : Bool) (a b c : Nat) : autoS cfgSD (look lp120T) false Try.f120 [.agg [.ro 3 n (.vecs .f32 x y z), .bool cl, .flt .f32 cur], .agg [.flt .f32 a, .flt .f32 b, .flt .f32 c]] =
    some (n.ble 4611686018427387000 && (!!okW n cur x y z && (decide (0 < n) && decide (n ≤ 1073741824) && true && (n.beq n && n.ble 1073741824 && (n.ble 4611686018427387000 && (!!okW n cur (adX a x) (adX b y) (adX c z) && true))))), A.tup [A.agg [A.ro 3 n (Row.vecs FloatKind.f32 (fun p => adX a x p) (fun p => adX b y p) fun p => adX c z p), A.bool cl, A.flt FloatKind.f32 cur], A.bool true]) := by kernel_rfl
noncomputable def s120T : List A → Option (Bool × A)
  | [.agg [.ro 3 n (.vecs .f32 x y z), .bool cl, .flt .f32 cur], .agg [.flt .f32 a, .flt .f32 b, .flt .f32 c]] => some (movOk n cur a b c x y z, .tup [.agg [.ro 3 n (.vecs .f32 (adX a x) (adX b y) (adX c z)), .bool cl, .flt .f32 cur], .bool true])
  | _ => none
theorem s120T_at : EnvAt Try.prog 120 s120T := of_autoS cfgSD_ok lp120T_ok Try.func120 (by kernel_rfl) (by kernel_rfl) fun ds cc rr h hc => by
  unfold s120T at h
  split at h
  · rename_i n x y z cl cur a b c
    simp only [Option.some.injEq, Prod.mk.injEq] at h
    obtain ⟨rfl, rfl⟩ := h
    refine auto_fit (auto120T n cur x y z cl a b c) ?_ ?_
    · rfl
    · obtain ⟨h1, h2, h3, h4⟩ := mov_ok hc
      rw [h1, h2, ble_of (show n ≤ 4611686018427387000 by omega), ble_of (show n ≤ 1073741824 by omega), decide_eq_true (show 0 < n by omega), decide_eq_true (show n ≤ 1073741824 by omega), Nat.beq_refl]; rfl
  · cases h

noncomputable def lp120N : List (Nat × (St → T)) := [(0, sumAt Try.f120.ntmps 432 [6, 7, 3, 4, 5] [112, 240, 16, 32] F120)]
theorem lp120N_ok : LpOK Try.prog (look lp120N) (bodyOf Try.f120) := lp_loops (by kernel_rfl) (by kernel_rfl) fun p hp => by
  simp only [lp120N, List.mem_cons, List.not_mem_nil, or_false] at hp
  rcases hp with rfl
  · exact loop120
theorem auto120N (n cur : Nat) (x y z : Nat → Nat) (cl : Bool) (a b c : Nat) : autoS cfgSD (look lp120N) true Try.f120 [.agg [.ro 3 n (.vecs .f32 x y z), .bool cl, .flt .f32 cur], .agg [.flt .f32 a, .flt .f32 b, .flt .f32 c]] =
    some (n.ble 4611686018427387000 && bif !okW n cur x y z then true else decide (0 < n) && decide (n ≤ 1073741824) && true && (n.beq n && n.ble 1073741824 && (n.ble 4611686018427387000 && (!okW n cur (adX a x) (adX b y) (adX c z) && true))), A.tup [A.agg [A.nils, A.bool (bif !okW n cur x y z then false else false), A.flt FloatKind.f32 (bif !okW n cur x y z then 0 else 0)], A.bool (bif !okW n cur x y z then false else false)]) := by kernel_rfl
noncomputable def s120N : List A → Option (Bool × A)
  | [.agg [.ro 3 n (.vecs .f32 x y z), .bool cl, .flt .f32 cur], .agg [.flt .f32 a, .flt .f32 b, .flt .f32 c]] => some (Nat.ble n 4611686018427387000 && !movOk n cur a b c x y z, .tup [.agg [.nils, .bool false, .flt .f32 0], .bool false])
  | _ => none
theorem s120N_at : EnvAt Try.prog 120 s120N := of_autoS cfgSD_ok lp120N_ok Try.func120 (by kernel_rfl) (by kernel_rfl) fun ds cc rr h hc => by
  unfold s120N at h
  split at h
  · rename_i n x y z cl cur a b c
    simp only [Option.some.injEq, Prod.mk.injEq] at h
    obtain ⟨rfl, rfl⟩ := h
    refine auto_fit (auto120N n cur x y z cl a b c) ?_ ?_
    · simp only [Bool.cond_self]
    · simp only [Bool.and_eq_true] at hc
      have hn := hc.1
      have hc := hc.2
      rw [hn]
      cases hA : okW n cur x y z
      · rfl
      · unfold movOk at hc
        rw [hA] at hc
        have hC : okW n cur (adX a x) (adX b y) (adX c z) = false := by simpa using hc
        have h5 := okW_n hA
        rw [hC, ble_of (show n ≤ 1073741824 by omega), decide_eq_true (show 0 < n by omega), decide_eq_true (show n ≤ 1073741824 by omega), Nat.beq_refl]; rfl
  · cases h

noncomputable def lp95mT : List (Nat × (St → T)) := [(0, N95m)]
theorem lp95mT_ok : LpOK Try.prog (look lp95mT) (bodyOf Try.f95) := lp_loops (by kernel_rfl) (by kernel_rfl) fun p hp => by
  simp only [lp95mT, List.mem_cons, List.not_mem_nil, or_false] at hp
  rcases hp with rfl
  · exact loopN95m
theorem auto95mT (n cur : Nat) (x y z : Nat → Nat) (cl : Bool) (a b c : Nat) : autoS cfgMN (look lp95mT) false Try.f95 [.agg [.ro 3 n (.vecs .f32 x y z), .bool cl, .flt .f32 cur], .fn 140 [.rop (.agg [.flt .f32 a, .flt .f32 b, .flt .f32 c]) 0]] =
    some (n.ble 4611686018427387000 && (!!okW n cur x y z && (decide (Int.ofNat n = Int.ofNat n) && n.ble 1000 && (n.ble 4611686018427387000 && (!!okW n cur (adX a x) (adX b y) (adX c z) && true)))), A.tup [A.agg [A.ro 3 n (Row.vecs FloatKind.f32 (fun p => adX a x p) (fun p => adX b y p) fun p => adX c z p), A.bool cl, A.flt FloatKind.f32 cur], A.bool true]) := by kernel_rfl
noncomputable def s95mT : List A → Option (Bool × A)
  | [.agg [.ro 3 n (.vecs .f32 x y z), .bool cl, .flt .f32 cur], .fn 140 [.rop (.agg [.flt .f32 a, .flt .f32 b, .flt .f32 c]) 0]] => some (movOk n cur a b c x y z, .tup [.agg [.ro 3 n (.vecs .f32 (adX a x) (adX b y) (adX c z)), .bool cl, .flt .f32 cur], .bool true])
  | _ => none
theorem s95mT_at : EnvAt Try.prog 95 s95mT := of_autoS cfgMN_ok lp95mT_ok Try.func95 (by kernel_rfl) (by kernel_rfl) fun ds cc rr h hc => by
  unfold s95mT at h
  split at h
  · rename_i n x y z cl cur a b c
    simp only [Option.some.injEq, Prod.mk.injEq] at h
    obtain ⟨rfl, rfl⟩ := h
    refine auto_fit (auto95mT n cur x y z cl a b c) ?_ ?_
    · rfl
    · obtain ⟨h1, h2, h3, h4⟩ := mov_ok hc
      rw [h1, h2, ble_of (show n ≤ 4611686018427387000 by omega), ble_of (show n ≤ 1000 by omega), decide_eq_true rfl]; rfl
  · cases h

noncomputable def lp95mN : List (Nat × (St → T)) := [(0, N95m)]
theorem lp95mN_ok : LpOK Try.prog (look lp95mN) (bodyOf Try.f95) := lp_loops (by kernel_rfl) (by kernel_rfl) fun p hp => by
  simp only [lp95mN, List.mem_cons, List.not_mem_nil, or_false] at hp
  rcases hp with rfl
  · exact loopN95m
theorem auto95mN (n cur : Nat) (x y z : Nat → Nat) (cl : Bool) (a b c : Nat) : autoS cfgMN (look lp95mN) true Try.f95 [.agg [.ro 3 n (.vecs .f32 x y z), .bool cl, .flt .f32 cur], .fn 140 [.rop (.agg [.flt .f32 a, .flt .f32 b, .flt .f32 c]) 0]] =
    some (n.ble 4611686018427387000 && bif !okW n cur x y z then true else decide (Int.ofNat n = Int.ofNat n) && n.ble 1000 && (n.ble 4611686018427387000 && (!okW n cur (adX a x) (adX b y) (adX c z) && true)), A.tup [A.agg [A.nils, A.bool (bif !okW n cur x y z then false else false), A.flt FloatKind.f32 (bif !okW n cur x y z then 0 else 0)], A.bool (bif !okW n cur x y z then false else false)]) := by kernel_rfl
noncomputable def s95mN : List A → Option (Bool × A)
  | [.agg [.ro 3 n (.vecs .f32 x y z), .bool cl, .flt .f32 cur], .fn 140 [.rop (.agg [.flt .f32 a, .flt .f32 b, .flt .f32 c]) 0]] => some (Nat.ble n 4611686018427387000 && !movOk n cur a b c x y z, .tup [.agg [.nils, .bool false, .flt .f32 0], .bool false])
  | _ => none
theorem s95mN_at : EnvAt Try.prog 95 s95mN := of_autoS cfgMN_ok lp95mN_ok Try.func95 (by kernel_rfl) (by kernel_rfl) fun ds cc rr h hc => by
  unfold s95mN at h
  split at h
  · rename_i n x y z cl cur a b c
    simp only [Option.some.injEq, Prod.mk.injEq] at h
    obtain ⟨rfl, rfl⟩ := h
    refine auto_fit (auto95mN n cur x y z cl a b c) ?_ ?_
    · simp only [Bool.cond_self]
    · simp only [Bool.and_eq_true] at hc
      have hn := hc.1
      have hc := hc.2
      rw [hn]
      cases hA : okW n cur x y z
      · rfl
      · unfold movOk at hc
        rw [hA] at hc
        have hC : okW n cur (adX a x) (adX b y) (adX c z) = false := by simpa using hc
        have h5 := okW_n hA
        rw [hC, ble_of (show n ≤ 1000 by omega), decide_eq_true rfl]; rfl
  · cases h

noncomputable def env42T : List (Nat × (List A → Option (Bool × A))) := (95, s95mT) :: env41
theorem env42T_ok : EnvOK Try.prog (look env42T) := (env_cons s95mT_at env41_ok)
noncomputable def cfg42T : Cfg := mkCfg tab [] xts (look env42T)
theorem cfg42T_ok : CfgOK Try.prog cfg42T := cfg_ok tab_eq (no_fts _) xts_ok env42T_ok mixed
noncomputable def env42N : List (Nat × (List A → Option (Bool × A))) := (95, s95mN) :: env41
theorem env42N_ok : EnvOK Try.prog (look env42N) := (env_cons s95mN_at env41_ok)
noncomputable def cfg42N : Cfg := mkCfg tab [] xts (look env42N)
theorem cfg42N_ok : CfgOK Try.prog cfg42N := cfg_ok tab_eq (no_fts _) xts_ok env42N_ok mixed
noncomputable def cfgMT : Cfg := mkCfg (nilTab tab) fts75 xts (look env42T)
theorem cfgMT_ok : CfgOK Try.prog cfgMT := cfgN_ok' tab_eq fts75_ok xts_ok env42T_ok mixed
noncomputable def cfgMNN : Cfg := mkCfg (nilTab tab) fts75 xts (look env42N)
theorem cfgMNN_ok : CfgOK Try.prog cfgMNN := cfgN_ok' tab_eq fts75_ok xts_ok env42N_ok mixed
theorem auto122T (n cur : Nat) (x y z : Nat → Nat) (cl : Bool) (a b c : Nat) : autoLp cfgMT (fun _ => none) Try.f122 [.agg [.ro 3 n (.vecs .f32 x y z), .bool cl, .flt .f32 cur], .agg [.flt .f32 a, .flt .f32 b, .flt .f32 c]] =
    some (movOk n cur a b c x y z && true, A.tup [A.agg [A.ro 3 n (Row.vecs FloatKind.f32 (fun p => adX a x p) (fun p => adX b y p) fun p => adX c z p), A.bool cl, A.flt FloatKind.f32 cur], A.bool true]) := by kernel_rfl
noncomputable def s122T : List A → Option (Bool × A)
  | [.agg [.ro 3 n (.vecs .f32 x y z), .bool cl, .flt .f32 cur], .agg [.flt .f32 a, .flt .f32 b, .flt .f32 c]] => some (movOk n cur a b c x y z, .tup [.agg [.ro 3 n (.vecs .f32 (adX a x) (adX b y) (adX c z)), .bool cl, .flt .f32 cur], .bool true])
  | _ => none
theorem s122T_at : EnvAt Try.prog 122 s122T := of_auto cfgMT_ok (lp_none _) Try.func122 (by kernel_rfl) (by kernel_rfl) fun ds cc rr h hc => by
  unfold s122T at h
  split at h
  · rename_i n x y z cl cur a b c
    simp only [Option.some.injEq, Prod.mk.injEq] at h
    obtain ⟨rfl, rfl⟩ := h
    refine auto_fit (auto122T n cur x y z cl a b c) ?_ ?_
    · rfl
    · rw [hc]; rfl
  · cases h

theorem auto122N (n cur : Nat) (x y z : Nat → Nat) (cl : Bool) (a b c : Nat) : autoLp cfgMNN (fun _ => none) Try.f122 [.agg [.ro 3 n (.vecs .f32 x y z), .bool cl, .flt .f32 cur], .agg [.flt .f32 a, .flt .f32 b, .flt .f32 c]] =
    some (n.ble 4611686018427387000 && !movOk n cur a b c x y z && true, A.tup [A.agg [A.nils, A.bool false, A.flt FloatKind.f32 0], A.bool false]) := by kernel_rfl
noncomputable def s122N : List A → Option (Bool × A)
  | [.agg [.ro 3 n (.vecs .f32 x y z), .bool cl, .flt .f32 cur], .agg [.flt .f32 a, .flt .f32 b, .flt .f32 c]] => some (Nat.ble n 4611686018427387000 && !movOk n cur a b c x y z, .tup [.agg [.nils, .bool false, .flt .f32 0], .bool false])
  | _ => none
theorem s122N_at : EnvAt Try.prog 122 s122N := of_auto cfgMNN_ok (lp_none _) Try.func122 (by kernel_rfl) (by kernel_rfl) fun ds cc rr h hc => by
  unfold s122N at h
  split at h
  · rename_i n x y z cl cur a b c
    simp only [Option.some.injEq, Prod.mk.injEq] at h
    obtain ⟨rfl, rfl⟩ := h
    refine auto_fit (auto122N n cur x y z cl a b c) ?_ ?_
    · rfl
    · rw [hc]; rfl
  · cases h

end Go.Fw.W1

/-
  An answer's struct may be forgotten.
-/
namespace Go.Fw.W1
open Go.Proofs
theorem RelS.tup2 {w : World} {S : Nat → Prop} {cv : Nat → Option Value} {v : Value} {a b : A} (h : RelS w S cv v (.tup [a, b])) : ∃ vs : Array Value, v = .tuple vs ∧ vs.size = 2 ∧ RelS w S cv (vs.getD 0 undef) a ∧ RelS w S cv (vs.getD 1 undef) b := by
  cases h with
  | data h => cases h with
    | tup hs h => exact ⟨_, rfl, hs, .data (h 0 (Nat.succ_pos 1)), .data (h 1 (Nat.lt_succ_self 1))⟩
  | tup hs h => exact ⟨_, rfl, hs, h 0 (Nat.succ_pos 1), h 1 (Nat.lt_succ_self 1)⟩
theorem RelS.agg_size {w : World} {S : Nat → Prop} {cv : Nat → Option Value} {v : Value} {cs : List A} (h : RelS w S cv v (.agg cs)) : ∃ vs : Array Value, v = .agg vs ∧ vs.size = cs.length := by
  cases h with
  | data h => cases h with
    | agg hs h => exact ⟨_, rfl, hs⟩
  | agg hs h => exact ⟨_, rfl, hs⟩
theorem RelS.to_bool {w : World} {S : Nat → Prop} {cv : Nat → Option Value} {v : Value} {d : Bool} (h : RelS w S cv v (.bool d)) : v = .bool d := by
  cases h with
  | data h => cases h with
    | bool b => rfl
theorem imps_size : ∀ (i : Nat) (cs : List A), (imps i cs).1.length = cs.length
  | _, [] => rfl
  | i, x :: r => by
    simp only [imps, List.length_cons]
    rw [imps_size]
theorem RelS.agg3 {w : World} {S : Nat → Prop} {cv : Nat → Option Value} {v : Value} {a b c : A} (h : RelS w S cv v (.agg [a, b, c])) : ∃ vs : Array Value, v = .agg vs ∧ vs.size = 3 ∧ RelS w S cv (vs.getD 0 undef) a ∧ RelS w S cv (vs.getD 1 undef) b ∧ RelS w S cv (vs.getD 2 undef) c := by
  cases h with
  | data h => cases h with
    | agg hs h => exact ⟨_, rfl, hs, .data (h 0 (by show 0 < 3; omega)), .data (h 1 (by show 1 < 3; omega)), .data (h 2 (by show 2 < 3; omega))⟩
  | agg hs h => exact ⟨_, rfl, hs, h 0 (by show 0 < 3; omega), h 1 (by show 1 < 3; omega), h 2 (by show 2 < 3; omega)⟩
theorem RelS.to_nils {w : World} {S : Nat → Prop} {cv : Nat → Option Value} {v : Value} (h : RelS w S cv v .nils) : v = .slice none 0 0 := by
  cases h with
  | data h => cases h with
    | nils => rfl
theorem RelS.to_flt {w : World} {S : Nat → Prop} {cv : Nat → Option Value} {v : Value} {k : FloatKind} {n : Nat} (h : RelS w S cv v (.flt k n)) : RelD w S v (.flt k n) := by
  cases h with
  | data h => exact h
theorem flt_any {w w' : World} {S S' : Nat → Prop} {v : Value} {k : FloatKind} {n : Nat} (h : RelD w S v (.flt k n)) : RelD w' S' v (.flt k n) := by
  cases h with
  | flt h => exact .flt h
/-- A struct whose slice is nil may be told as one with an empty row. -/
theorem PostV.row0 {B : Nat} {w' : World} {v : Value} {p d : Bool} {q : Nat} {g : Row A} {T T' : Nat → Prop} (h : PostV B T w' v (.tup [.agg [.nils, .bool p, .flt .f32 q], .bool d])) : PostV B T' w' v (.tup [.agg [.ro 3 0 g, .bool p, .flt .f32 q], .bool d]) := by
  intro base
  obtain ⟨cv, -, -, -, h4⟩ := h base
  obtain ⟨vs, rfl, hs, h5, h6⟩ := RelS.tup2 h4
  obtain ⟨ws, hw, hz, h7, h8, h9⟩ := RelS.agg3 h5
  have hb := RelS.to_bool h6
  have h7' := RelS.to_nils h7
  have h8' := RelS.to_bool h8
  have h9' := RelS.to_flt h9
  let cv' : Nat → Option Value := fun i => match Nat.beq i base with | true => some (.slice none 0 0) | false => none
  have hcv : ∀ id u, cv' id = some u → id = base ∧ u = .slice none 0 0 := by
    intro id u hu
    simp only [cv'] at hu
    split at hu
    · rename_i hb; injection hu with hu; exact ⟨Nat.eq_of_beq_eq_true hb, hu.symm⟩
    · cases hu
  have hcb : cv' base = some (.slice none 0 0) := by
    show (match Nat.beq base base with | true => some (Value.slice none 0 0) | false => none) = _
    rw [Nat.beq_refl]
  refine ⟨cv', fun id u hu => ?_, fun i j u u' b hi _ hbu _ => ?_, fun id o ho => ?_, ?_⟩
  · obtain ⟨rfl, rfl⟩ := hcv id u hu
    exact ⟨Nat.le_refl _, Nat.lt_succ_self _, fun b hb => by cases hb⟩
  · obtain ⟨rfl, rfl⟩ := hcv i u hi
    cases hbu
  · have ho' : look [(base, O.row 0 3 0 g)] id = some o := ho
    simp only [look] at ho'
    split at ho'
    · rename_i hbb
      injection ho' with ho'
      subst ho'
      obtain rfl := Nat.eq_of_beq_eq_true hbb
      exact ⟨.slice none 0 0, 0, [], hcb, ⟨rfl, .inl ⟨rfl, rfl⟩⟩, fun h => absurd rfl h, by omega, fun i hi => absurd hi (by omega), fun i j hi => absurd hi (by omega)⟩
    · cases ho'
  · show RelS _ _ _ _ (.tup [.agg [.sl base 0, .bool p, .flt .f32 q], .bool d])
    refine .tup hs fun i hi => ?_
    match i, hi with
    | 0, _ =>
      show RelS _ _ _ (vs.getD 0 undef) (.agg [.sl base 0, .bool p, .flt .f32 q])
      rw [hw]
      refine .agg hz fun i hi => ?_
      match i, hi with
      | 0, _ =>
        show RelS _ _ _ (ws.getD 0 undef) (.sl base 0)
        rw [h7']
        exact .sl fun u hu => by
          obtain ⟨_, rfl⟩ := hcv base u hu
          exact ⟨rfl, none, 0, rfl⟩
      | 1, _ =>
        show RelS _ _ _ (ws.getD 1 undef) (.bool p)
        rw [h8']
        exact .data (.bool p)
      | 2, _ => exact .data (flt_any h9')
      | i + 3, hi => exact absurd (show i + 3 < 3 from hi) (by omega)
    | 1, _ =>
      show RelS _ _ _ (vs.getD 1 undef) (.bool d)
      rw [hb]
      exact .data (.bool d)
    | i + 2, hi => exact absurd (show i + 2 < 2 from hi) (by omega)
theorem PureCall.row0 {P : Program} {f : Nat} {ds : List A} {p d : Bool} {q : Nat} {g : Row A} (h : PureCall P f ds (.tup [.agg [.nils, .bool p, .flt .f32 q], .bool d])) : PureCall P f ds (.tup [.agg [.ro 3 0 g, .bool p, .flt .f32 q], .bool d]) :=
  fun w vs T hT hs hr => (h w vs T hT hs hr).mono fun _ _ ⟨v, he, hb, hp⟩ => ⟨v, he, hb, PostV.row0 hp⟩
noncomputable def movA (n cur a b c : Nat) (x y z : Nat → Nat) (cl : Bool) : A := .tup [.agg [.ro 3 (bif movOk n cur a b c x y z then n else 0) (.vecs .f32 (adX a x) (adX b y) (adX c z)), .bool (bif movOk n cur a b c x y z then cl else false), .flt .f32 (bif movOk n cur a b c x y z then cur else 0)], .bool (movOk n cur a b c x y z)]
theorem movA_at {f n cur a b c : Nat} {x y z : Nat → Nat} {cl : Bool} {ds : List A} (hT : movOk n cur a b c x y z = true → PureCall Try.prog f ds (.tup [.agg [.ro 3 n (.vecs .f32 (adX a x) (adX b y) (adX c z)), .bool cl, .flt .f32 cur], .bool true]))
    (hF : movOk n cur a b c x y z = false → PureCall Try.prog f ds (.tup [.agg [.nils, .bool false, .flt .f32 0], .bool false])) : PureCall Try.prog f ds (movA n cur a b c x y z cl) := by
  unfold movA
  cases hm : movOk n cur a b c x y z
  · exact PureCall.row0 (hF hm)
  · exact hT hm
noncomputable def s120 : List A → Option (Bool × A)
  | [.agg [.ro 3 n (.vecs .f32 x y z), .bool cl, .flt .f32 cur], .agg [.flt .f32 a, .flt .f32 b, .flt .f32 c]] => some (Nat.ble n 4611686018427387000, .tup [.agg [.ro 3 (bif movOk n cur a b c x y z then n else 0) (.vecs .f32 (adX a x) (adX b y) (adX c z)), .bool (bif movOk n cur a b c x y z then cl else false), .flt .f32 (bif movOk n cur a b c x y z then cur else 0)], .bool (movOk n cur a b c x y z)])
  | _ => none
theorem s120_at : EnvAt Try.prog 120 s120 := by
  refine ⟨s120T_at.1, fun ds cc r h hc => ?_⟩
  unfold s120 at h
  split at h
  · rename_i n x y z cl cur a b c
    simp only [Option.some.injEq, Prod.mk.injEq] at h
    obtain ⟨rfl, rfl⟩ := h
    exact movA_at (fun hm => s120T_at.2 [.agg [.ro 3 n (.vecs .f32 x y z), .bool cl, .flt .f32 cur], .agg [.flt .f32 a, .flt .f32 b, .flt .f32 c]] _ _ rfl hm) (fun hm => s120N_at.2 [.agg [.ro 3 n (.vecs .f32 x y z), .bool cl, .flt .f32 cur], .agg [.flt .f32 a, .flt .f32 b, .flt .f32 c]] _ _ rfl (by rw [hc, hm]; rfl))
  · cases h
noncomputable def s122 : List A → Option (Bool × A)
  | [.agg [.ro 3 n (.vecs .f32 x y z), .bool cl, .flt .f32 cur], .agg [.flt .f32 a, .flt .f32 b, .flt .f32 c]] => some (Nat.ble n 4611686018427387000, .tup [.agg [.ro 3 (bif movOk n cur a b c x y z then n else 0) (.vecs .f32 (adX a x) (adX b y) (adX c z)), .bool (bif movOk n cur a b c x y z then cl else false), .flt .f32 (bif movOk n cur a b c x y z then cur else 0)], .bool (movOk n cur a b c x y z)])
  | _ => none
theorem s122_at : EnvAt Try.prog 122 s122 := by
  refine ⟨s122T_at.1, fun ds cc r h hc => ?_⟩
  unfold s122 at h
  split at h
  · rename_i n x y z cl cur a b c
    simp only [Option.some.injEq, Prod.mk.injEq] at h
    obtain ⟨rfl, rfl⟩ := h
    exact movA_at (fun hm => s122T_at.2 [.agg [.ro 3 n (.vecs .f32 x y z), .bool cl, .flt .f32 cur], .agg [.flt .f32 a, .flt .f32 b, .flt .f32 c]] _ _ rfl hm) (fun hm => s122N_at.2 [.agg [.ro 3 n (.vecs .f32 x y z), .bool cl, .flt .f32 cur], .agg [.flt .f32 a, .flt .f32 b, .flt .f32 c]] _ _ rfl (by rw [hc, hm]; rfl))
  · cases h
noncomputable def env43 : List (Nat × (List A → Option (Bool × A))) := (120, s120) :: (122, s122) :: env35
theorem env43_ok : EnvOK Try.prog (look env43) := (env_cons s120_at (env_cons s122_at env35_ok))
noncomputable def cfg43 : Cfg := mkCfg tab [] xts (look env43)
theorem cfg43_ok : CfgOK Try.prog cfg43 := cfg_ok tab_eq (no_fts _) xts_ok env43_ok mixed
end Go.Fw.W1

/-
  What is no number stays none; forces along ways: lemmas.
-/
namespace Go.Fw.W1
open Go.Proofs
theorem not_num {k : FloatKind} {x : Nat} (h : num k x = false) : (∃ s t, k.format.read x = .nan s t) ∨ ∃ s, k.format.read x = .infinity s := by
  cases hx : k.format.read x with
  | number s m i =>
    have := num_iff.2 ⟨_, _, _, hx⟩
    rw [this] at h; cases h
  | nan s t => exact .inl ⟨s, t, rfl⟩
  | infinity s => exact .inr ⟨s, rfl⟩
theorem num_nan (k : FloatKind) : num k (qnan k) = false := by cases k <;> decide +kernel
theorem num_inf (k : FloatKind) (g : Bool) : num k (k.format.word g k.format.infRung) = false := by cases k <;> cases g <;> decide +kernel
theorem add_eq (k : FloatKind) (x y : Nat) : floatBits .add k x y = ((k.format.read x).sum (k.format.read y)).map k.format.write := rfl
theorem mul_eq (k : FloatKind) (x y : Nat) : floatBits .mul k x y = ((k.format.read x).product (k.format.read y)).map k.format.write := rfl
theorem fop_none {op : BinOp} {k : FloatKind} {x y : Nat} {D : Option Ieee.Datum} (he : floatBits op k x y = D.map k.format.write) (hD : D = none ∨ ∃ g, D = some (.infinity g)) : num k (fop op k x y) = false := by
  unfold fop
  rw [he]
  rcases hD with h | ⟨g, h⟩
  · rw [h]; exact num_nan k
  · rw [h]; exact num_inf k g
theorem sum_infR (s : Bool) (d : Ieee.Datum) : d.sum (.infinity s) = none ∨ ∃ g, d.sum (.infinity s) = some (.infinity g) := by
  cases d with
  | nan a b => exact .inl rfl
  | infinity a => cases a <;> cases s <;> first | exact .inl rfl | exact .inr ⟨_, rfl⟩
  | number a n j => exact .inr ⟨_, rfl⟩
theorem sum_infL (s : Bool) (d : Ieee.Datum) : (Ieee.Datum.infinity s).sum d = none ∨ ∃ g, (Ieee.Datum.infinity s).sum d = some (.infinity g) := by
  cases d with
  | nan a b => exact .inl rfl
  | infinity a => cases a <;> cases s <;> first | exact .inl rfl | exact .inr ⟨_, rfl⟩
  | number a n j => exact .inr ⟨_, rfl⟩
theorem product_infR (s : Bool) (d : Ieee.Datum) : d.product (.infinity s) = none ∨ ∃ g, d.product (.infinity s) = some (.infinity g) := by
  cases d with
  | nan a b => exact .inl rfl
  | infinity a => exact .inr ⟨_, rfl⟩
  | number a n j =>
    simp only [Ieee.Datum.product]
    split
    · exact .inl rfl
    · exact .inr ⟨_, rfl⟩
theorem product_infL (s : Bool) (d : Ieee.Datum) : (Ieee.Datum.infinity s).product d = none ∨ ∃ g, (Ieee.Datum.infinity s).product d = some (.infinity g) := by
  cases d with
  | nan a b => exact .inl rfl
  | infinity a => exact .inr ⟨_, rfl⟩
  | number a n j =>
    simp only [Ieee.Datum.product]
    split
    · exact .inl rfl
    · exact .inr ⟨_, rfl⟩
theorem num_addR {k : FloatKind} {x y : Nat} (h : num k (fop .add k x y) = true) : num k y = true := by
  cases hy : num k y
  · rw [fop_none (add_eq k x y) ?_] at h
    · exact h
    · rcases not_num hy with ⟨s, t, e⟩ | ⟨s, e⟩
      · rw [e]; exact .inl (sum_nan_right _ _ _)
      · rw [e]; exact sum_infR _ _
  · rfl
theorem num_addL {k : FloatKind} {x y : Nat} (h : num k (fop .add k x y) = true) : num k x = true := by
  cases hy : num k x
  · rw [fop_none (add_eq k x y) ?_] at h
    · exact h
    · rcases not_num hy with ⟨s, t, e⟩ | ⟨s, e⟩
      · rw [e]; exact .inl (sum_nan_left _ _ _)
      · rw [e]; exact sum_infL _ _
  · rfl
theorem num_mulL {k : FloatKind} {x y : Nat} (h : num k (fop .mul k x y) = true) : num k x = true := by
  cases hy : num k x
  · rw [fop_none (mul_eq k x y) ?_] at h
    · exact h
    · rcases not_num hy with ⟨s, t, e⟩ | ⟨s, e⟩
      · rw [e]; exact .inl (product_nan_left _ _ _)
      · rw [e]; exact product_infL _ _
  · rfl
theorem okW_at {n cur : Nat} {x y z : Nat → Nat} (hw : okW n cur x y z = true) {i : Nat} (hi : i < n) : fin (x i) = true ∧ fin (y i) = true ∧ fin (z i) = true := by
  unfold okW at hw
  simp only [Bool.and_eq_true, decide_eq_true_eq] at hw
  have := allUpTo_iff.1 hw.2 i hi
  unfold vfinAt vfin at this
  revert this
  cases fin (x i) <;> cases fin (y i) <;> cases fin (z i) <;> simp
theorem mov_vfin {n cur a b c st : Nat} {x y z : Nat → Nat} (h : movOk n cur (fop .mul .f32 a st) (fop .mul .f32 b st) (fop .mul .f32 c st) x y z = true) : vfin a b c = true := by
  obtain ⟨_, h2, h3, _⟩ := mov_ok h
  obtain ⟨ha, hb, hc⟩ := okW_at h2 (show 0 < n by omega)
  rw [fin_num] at ha hb hc
  have ha' := num_mulL (num_addR ha)
  have hb' := num_mulL (num_addR hb)
  have hc' := num_mulL (num_addR hc)
  rw [← fin_num] at ha' hb' hc'
  unfold vfin
  rw [ha', hb', hc']; rfl
noncomputable def faR (n cur : Nat) (x y z : Nat → Nat) (cl : Bool) (n2 cur2 : Nat) (x2 y2 z2 : Nat → Nat) (cl2 : Bool) (a b c st th pp : Nat) : Nat :=
  fop .mul .f32 (fop .mul .f32 cur cur2) (fop .quo .f32 (fop .sub .f32 (psW n (adX (fop .mul .f32 a st) x) (adX (fop .mul .f32 b st) y) (adX (fop .mul .f32 c st) z) cl n2 x2 y2 z2 cl2 th pp) (psW n (adX (fop .mul .f32 a (fneg .f32 st)) x) (adX (fop .mul .f32 b (fneg .f32 st)) y) (adX (fop .mul .f32 c (fneg .f32 st)) z) cl n2 x2 y2 z2 cl2 th pp)) (fop .mul .f32 (can .f32 1073741824) st))
noncomputable def mvU (n cur : Nat) (x y z : Nat → Nat) (a b c st : Nat) : Bool := movOk n cur (fop .mul .f32 a st) (fop .mul .f32 b st) (fop .mul .f32 c st) x y z
noncomputable def mvD (n cur : Nat) (x y z : Nat → Nat) (a b c st : Nat) : Bool := movOk n cur (fop .mul .f32 a (fneg .f32 st)) (fop .mul .f32 b (fneg .f32 st)) (fop .mul .f32 c (fneg .f32 st)) x y z
noncomputable def faOk (n cur : Nat) (x y z : Nat → Nat) (n2 cur2 : Nat) (x2 y2 z2 : Nat → Nat) (a b c st th pp : Nat) : Bool := two n cur x y z n2 cur2 x2 y2 z2 th (Int.ofNat pp) && above st && mvU n cur x y z a b c st && mvD n cur x y z a b c st
end Go.Fw.W1

/-
  Forces along ways: contracts.
-/
namespace Go.Fw.W1
open Go.Proofs
theorem inI_neg (pp : Nat) : inI (Int.negSucc pp) 1 8 = false := by
  unfold inI
  rw [decide_eq_false (show ¬ (Int.negSucc pp ≥ 1) by omega)]; rfl
theorem auto57a (n cur n2 cur2 : Nat) (x y z x2 y2 z2 : Nat → Nat) (cl cl2 : Bool) (a b c st th pp : Nat) : autoLp cfg43 (fun _ => none) Try.f57 [.agg [.ro 3 n (.vecs .f32 x y z), .bool cl, .flt .f32 cur], .agg [.ro 3 n2 (.vecs .f32 x2 y2 z2), .bool cl2, .flt .f32 cur2], .agg [.flt .f32 a, .flt .f32 b, .flt .f32 c], .flt .f32 st, .flt .f32 th, .int .i64 (.ofNat pp)] =
    some (n.ble 1048576 && n2.ble 1048576 && bif bif bif !two n cur x y z n2 cur2 x2 y2 z2 th (Int.ofNat pp) then true else !vfin a b c then true else !above st then true else n.ble 4611686018427387000 && true && (n.ble 4611686018427387000 && true && bif bif !movOk n cur (fop BinOp.mul FloatKind.f32 a st) (fop BinOp.mul FloatKind.f32 b st) (fop BinOp.mul FloatKind.f32 c st) x y z then true else !movOk n cur (fop BinOp.mul FloatKind.f32 a (fneg FloatKind.f32 st)) (fop BinOp.mul FloatKind.f32 b (fneg FloatKind.f32 st)) (fop BinOp.mul FloatKind.f32 c (fneg FloatKind.f32 st)) x y z then true else Nat.ble 1 (bif movOk n cur (fop BinOp.mul FloatKind.f32 a st) (fop BinOp.mul FloatKind.f32 b st) (fop BinOp.mul FloatKind.f32 c st) x y z then n else 0) && (bif movOk n cur (fop BinOp.mul FloatKind.f32 a st) (fop BinOp.mul FloatKind.f32 b st) (fop BinOp.mul FloatKind.f32 c st) x y z then n else 0).ble 1000 && Nat.ble 1 n2 && n2.ble 1000 && pp.ble 32 && (Nat.ble 1 (bif movOk n cur (fop BinOp.mul FloatKind.f32 a (fneg FloatKind.f32 st)) (fop BinOp.mul FloatKind.f32 b (fneg FloatKind.f32 st)) (fop BinOp.mul FloatKind.f32 c (fneg FloatKind.f32 st)) x y z then n else 0) && (bif movOk n cur (fop BinOp.mul FloatKind.f32 a (fneg FloatKind.f32 st)) (fop BinOp.mul FloatKind.f32 b (fneg FloatKind.f32 st)) (fop BinOp.mul FloatKind.f32 c (fneg FloatKind.f32 st)) x y z then n else 0).ble 1000 && Nat.ble 1 n2 && n2.ble 1000 && pp.ble 32 && true)), A.tup [A.flt FloatKind.f32 (bif bif bif !two n cur x y z n2 cur2 x2 y2 z2 th (Int.ofNat pp) then true else !vfin a b c then true else !above st then can FloatKind.f32 0 else bif bif !movOk n cur (fop BinOp.mul FloatKind.f32 a st) (fop BinOp.mul FloatKind.f32 b st) (fop BinOp.mul FloatKind.f32 c st) x y z then true else !movOk n cur (fop BinOp.mul FloatKind.f32 a (fneg FloatKind.f32 st)) (fop BinOp.mul FloatKind.f32 b (fneg FloatKind.f32 st)) (fop BinOp.mul FloatKind.f32 c (fneg FloatKind.f32 st)) x y z then can FloatKind.f32 0 else bif fin (fop BinOp.mul FloatKind.f32 (fop BinOp.mul FloatKind.f32 cur cur2) (fop BinOp.quo FloatKind.f32 (fop BinOp.sub FloatKind.f32 (psW (bif movOk n cur (fop BinOp.mul FloatKind.f32 a st) (fop BinOp.mul FloatKind.f32 b st) (fop BinOp.mul FloatKind.f32 c st) x y z then n else 0) (adX (fop BinOp.mul FloatKind.f32 a st) x) (adX (fop BinOp.mul FloatKind.f32 b st) y) (adX (fop BinOp.mul FloatKind.f32 c st) z) (bif movOk n cur (fop BinOp.mul FloatKind.f32 a st) (fop BinOp.mul FloatKind.f32 b st) (fop BinOp.mul FloatKind.f32 c st) x y z then cl else false) n2 x2 y2 z2 cl2 th pp) (psW (bif movOk n cur (fop BinOp.mul FloatKind.f32 a (fneg FloatKind.f32 st)) (fop BinOp.mul FloatKind.f32 b (fneg FloatKind.f32 st)) (fop BinOp.mul FloatKind.f32 c (fneg FloatKind.f32 st)) x y z then n else 0) (adX (fop BinOp.mul FloatKind.f32 a (fneg FloatKind.f32 st)) x) (adX (fop BinOp.mul FloatKind.f32 b (fneg FloatKind.f32 st)) y) (adX (fop BinOp.mul FloatKind.f32 c (fneg FloatKind.f32 st)) z) (bif movOk n cur (fop BinOp.mul FloatKind.f32 a (fneg FloatKind.f32 st)) (fop BinOp.mul FloatKind.f32 b (fneg FloatKind.f32 st)) (fop BinOp.mul FloatKind.f32 c (fneg FloatKind.f32 st)) x y z then cl else false) n2 x2 y2 z2 cl2 th pp)) (fop BinOp.mul FloatKind.f32 (can FloatKind.f32 1073741824) st))) then fop BinOp.mul FloatKind.f32 (fop BinOp.mul FloatKind.f32 cur cur2) (fop BinOp.quo FloatKind.f32 (fop BinOp.sub FloatKind.f32 (psW (bif movOk n cur (fop BinOp.mul FloatKind.f32 a st) (fop BinOp.mul FloatKind.f32 b st) (fop BinOp.mul FloatKind.f32 c st) x y z then n else 0) (adX (fop BinOp.mul FloatKind.f32 a st) x) (adX (fop BinOp.mul FloatKind.f32 b st) y) (adX (fop BinOp.mul FloatKind.f32 c st) z) (bif movOk n cur (fop BinOp.mul FloatKind.f32 a st) (fop BinOp.mul FloatKind.f32 b st) (fop BinOp.mul FloatKind.f32 c st) x y z then cl else false) n2 x2 y2 z2 cl2 th pp) (psW (bif movOk n cur (fop BinOp.mul FloatKind.f32 a (fneg FloatKind.f32 st)) (fop BinOp.mul FloatKind.f32 b (fneg FloatKind.f32 st)) (fop BinOp.mul FloatKind.f32 c (fneg FloatKind.f32 st)) x y z then n else 0) (adX (fop BinOp.mul FloatKind.f32 a (fneg FloatKind.f32 st)) x) (adX (fop BinOp.mul FloatKind.f32 b (fneg FloatKind.f32 st)) y) (adX (fop BinOp.mul FloatKind.f32 c (fneg FloatKind.f32 st)) z) (bif movOk n cur (fop BinOp.mul FloatKind.f32 a (fneg FloatKind.f32 st)) (fop BinOp.mul FloatKind.f32 b (fneg FloatKind.f32 st)) (fop BinOp.mul FloatKind.f32 c (fneg FloatKind.f32 st)) x y z then cl else false) n2 x2 y2 z2 cl2 th pp)) (fop BinOp.mul FloatKind.f32 (can FloatKind.f32 1073741824) st)) else can FloatKind.f32 0), A.bool (bif bif bif !two n cur x y z n2 cur2 x2 y2 z2 th (Int.ofNat pp) then true else !vfin a b c then true else !above st then false else bif bif !movOk n cur (fop BinOp.mul FloatKind.f32 a st) (fop BinOp.mul FloatKind.f32 b st) (fop BinOp.mul FloatKind.f32 c st) x y z then true else !movOk n cur (fop BinOp.mul FloatKind.f32 a (fneg FloatKind.f32 st)) (fop BinOp.mul FloatKind.f32 b (fneg FloatKind.f32 st)) (fop BinOp.mul FloatKind.f32 c (fneg FloatKind.f32 st)) x y z then false else fin (fop BinOp.mul FloatKind.f32 (fop BinOp.mul FloatKind.f32 cur cur2) (fop BinOp.quo FloatKind.f32 (fop BinOp.sub FloatKind.f32 (psW (bif movOk n cur (fop BinOp.mul FloatKind.f32 a st) (fop BinOp.mul FloatKind.f32 b st) (fop BinOp.mul FloatKind.f32 c st) x y z then n else 0) (adX (fop BinOp.mul FloatKind.f32 a st) x) (adX (fop BinOp.mul FloatKind.f32 b st) y) (adX (fop BinOp.mul FloatKind.f32 c st) z) (bif movOk n cur (fop BinOp.mul FloatKind.f32 a st) (fop BinOp.mul FloatKind.f32 b st) (fop BinOp.mul FloatKind.f32 c st) x y z then cl else false) n2 x2 y2 z2 cl2 th pp) (psW (bif movOk n cur (fop BinOp.mul FloatKind.f32 a (fneg FloatKind.f32 st)) (fop BinOp.mul FloatKind.f32 b (fneg FloatKind.f32 st)) (fop BinOp.mul FloatKind.f32 c (fneg FloatKind.f32 st)) x y z then n else 0) (adX (fop BinOp.mul FloatKind.f32 a (fneg FloatKind.f32 st)) x) (adX (fop BinOp.mul FloatKind.f32 b (fneg FloatKind.f32 st)) y) (adX (fop BinOp.mul FloatKind.f32 c (fneg FloatKind.f32 st)) z) (bif movOk n cur (fop BinOp.mul FloatKind.f32 a (fneg FloatKind.f32 st)) (fop BinOp.mul FloatKind.f32 b (fneg FloatKind.f32 st)) (fop BinOp.mul FloatKind.f32 c (fneg FloatKind.f32 st)) x y z then cl else false) n2 x2 y2 z2 cl2 th pp)) (fop BinOp.mul FloatKind.f32 (can FloatKind.f32 1073741824) st))))]) := by kernel_rfl
noncomputable def s57a : List A → Option (Bool × A)
  | [.agg [.ro 3 n (.vecs .f32 x y z), .bool cl, .flt .f32 cur], .agg [.ro 3 n2 (.vecs .f32 x2 y2 z2), .bool cl2, .flt .f32 cur2], .agg [.flt .f32 a, .flt .f32 b, .flt .f32 c], .flt .f32 st, .flt .f32 th, .int .i64 (.ofNat pp)] => some (Nat.ble n 1048576 && Nat.ble n2 1048576, .tup [.flt .f32 (bif faOk n cur x y z n2 cur2 x2 y2 z2 a b c st th pp && fin (faR n cur x y z cl n2 cur2 x2 y2 z2 cl2 a b c st th pp) then faR n cur x y z cl n2 cur2 x2 y2 z2 cl2 a b c st th pp else can .f32 0), .bool (faOk n cur x y z n2 cur2 x2 y2 z2 a b c st th pp && fin (faR n cur x y z cl n2 cur2 x2 y2 z2 cl2 a b c st th pp))])
  | _ => none
theorem s57a_at : EnvAt Try.prog 57 s57a := of_auto cfg43_ok (lp_none _) Try.func57 (by kernel_rfl) (by kernel_rfl) fun ds cc rr h hc => by
  unfold s57a at h
  split at h
  · rename_i n x y z cl cur n2 x2 y2 z2 cl2 cur2 a b c st th pp
    simp only [Option.some.injEq, Prod.mk.injEq] at h
    obtain ⟨rfl, rfl⟩ := h
    refine auto_fit (auto57a n cur n2 cur2 x y z x2 y2 z2 cl cl2 a b c st th pp) ?_ ?_
    · unfold faOk mvU mvD
      cases ht : two n cur x y z n2 cur2 x2 y2 z2 th (Int.ofNat pp)
      · rfl
      · cases hu : movOk n cur (fop .mul .f32 a st) (fop .mul .f32 b st) (fop .mul .f32 c st) x y z
        · cases vfin a b c <;> cases above st <;> rfl
        · rw [mov_vfin hu]
          cases above st
          · rfl
          · cases hd : movOk n cur (fop .mul .f32 a (fneg .f32 st)) (fop .mul .f32 b (fneg .f32 st)) (fop .mul .f32 c (fneg .f32 st)) x y z <;> rfl
    · simp only [Bool.and_eq_true, Nat.ble_eq] at hc
      rw [ble_of hc.1, ble_of hc.2, ble_of (show n ≤ 4611686018427387000 by omega)]
      cases ht : two n cur x y z n2 cur2 x2 y2 z2 th (Int.ofNat pp)
      · rfl
      · obtain ⟨k1, k2, k3, k4⟩ := two_ok ht
        simp at k4
        cases hu : movOk n cur (fop .mul .f32 a st) (fop .mul .f32 b st) (fop .mul .f32 c st) x y z
        · cases vfin a b c <;> cases above st <;> rfl
        · rw [mov_vfin hu]
          cases above st
          · rfl
          · cases hd : movOk n cur (fop .mul .f32 a (fneg .f32 st)) (fop .mul .f32 b (fneg .f32 st)) (fop .mul .f32 c (fneg .f32 st)) x y z
            · rfl
            · simp only [cond_true]
              rw [ble_of (show 1 ≤ n by omega), ble_of (show n ≤ 1000 by omega), ble_of (show 1 ≤ n2 by omega), ble_of (show n2 ≤ 1000 by omega), ble_of (show pp ≤ 32 by omega)]
              rfl
  · cases h

theorem auto58a (n cur n2 cur2 : Nat) (x y z x2 y2 z2 : Nat → Nat) (cl cl2 : Bool) (a b c st th pp : Nat) : autoLp cfg43 (fun _ => none) Try.f58 [.agg [.ro 3 n (.vecs .f32 x y z), .bool cl, .flt .f32 cur], .agg [.ro 3 n2 (.vecs .f32 x2 y2 z2), .bool cl2, .flt .f32 cur2], .agg [.flt .f32 a, .flt .f32 b, .flt .f32 c], .flt .f32 st, .flt .f32 th, .int .i64 (.ofNat pp)] =
    some (n2.ble 4611686018427387000 && bif bif bif bif !okW n2 cur2 x2 y2 z2 then true else !above st then true else !least th then true else !inI (Int.ofNat pp) (Int.ofNat 1) (Int.ofNat 8) then true else n.ble 4611686018427387000 && true && (n.ble 4611686018427387000 && true && bif bif !movOk n cur (fop BinOp.mul FloatKind.f32 a st) (fop BinOp.mul FloatKind.f32 b st) (fop BinOp.mul FloatKind.f32 c st) x y z then true else !movOk n cur (fop BinOp.mul FloatKind.f32 a (fneg FloatKind.f32 st)) (fop BinOp.mul FloatKind.f32 b (fneg FloatKind.f32 st)) (fop BinOp.mul FloatKind.f32 c (fneg FloatKind.f32 st)) x y z then true else Nat.ble 1 (bif movOk n cur (fop BinOp.mul FloatKind.f32 a st) (fop BinOp.mul FloatKind.f32 b st) (fop BinOp.mul FloatKind.f32 c st) x y z then n else 0) && (bif movOk n cur (fop BinOp.mul FloatKind.f32 a st) (fop BinOp.mul FloatKind.f32 b st) (fop BinOp.mul FloatKind.f32 c st) x y z then n else 0).ble 1000 && Nat.ble 1 n2 && n2.ble 1000 && pp.ble 32 && true && (Nat.ble 1 (bif movOk n cur (fop BinOp.mul FloatKind.f32 a (fneg FloatKind.f32 st)) (fop BinOp.mul FloatKind.f32 b (fneg FloatKind.f32 st)) (fop BinOp.mul FloatKind.f32 c (fneg FloatKind.f32 st)) x y z then n else 0) && (bif movOk n cur (fop BinOp.mul FloatKind.f32 a (fneg FloatKind.f32 st)) (fop BinOp.mul FloatKind.f32 b (fneg FloatKind.f32 st)) (fop BinOp.mul FloatKind.f32 c (fneg FloatKind.f32 st)) x y z then n else 0).ble 1000 && Nat.ble 1 n2 && n2.ble 1000 && pp.ble 32 && true)), A.tup [A.flt FloatKind.f32 (bif bif bif bif !okW n2 cur2 x2 y2 z2 then true else !above st then true else !least th then true else !inI (Int.ofNat pp) (Int.ofNat 1) (Int.ofNat 8) then can FloatKind.f32 0 else bif bif !movOk n cur (fop BinOp.mul FloatKind.f32 a st) (fop BinOp.mul FloatKind.f32 b st) (fop BinOp.mul FloatKind.f32 c st) x y z then true else !movOk n cur (fop BinOp.mul FloatKind.f32 a (fneg FloatKind.f32 st)) (fop BinOp.mul FloatKind.f32 b (fneg FloatKind.f32 st)) (fop BinOp.mul FloatKind.f32 c (fneg FloatKind.f32 st)) x y z then can FloatKind.f32 0 else bif fin (fop BinOp.mul FloatKind.f32 (fop BinOp.mul FloatKind.f32 cur cur2) (fop BinOp.quo FloatKind.f32 (fop BinOp.sub FloatKind.f32 (psW (bif movOk n cur (fop BinOp.mul FloatKind.f32 a st) (fop BinOp.mul FloatKind.f32 b st) (fop BinOp.mul FloatKind.f32 c st) x y z then n else 0) (adX (fop BinOp.mul FloatKind.f32 a st) x) (adX (fop BinOp.mul FloatKind.f32 b st) y) (adX (fop BinOp.mul FloatKind.f32 c st) z) (bif movOk n cur (fop BinOp.mul FloatKind.f32 a st) (fop BinOp.mul FloatKind.f32 b st) (fop BinOp.mul FloatKind.f32 c st) x y z then cl else false) n2 x2 y2 z2 cl2 th pp) (psW (bif movOk n cur (fop BinOp.mul FloatKind.f32 a (fneg FloatKind.f32 st)) (fop BinOp.mul FloatKind.f32 b (fneg FloatKind.f32 st)) (fop BinOp.mul FloatKind.f32 c (fneg FloatKind.f32 st)) x y z then n else 0) (adX (fop BinOp.mul FloatKind.f32 a (fneg FloatKind.f32 st)) x) (adX (fop BinOp.mul FloatKind.f32 b (fneg FloatKind.f32 st)) y) (adX (fop BinOp.mul FloatKind.f32 c (fneg FloatKind.f32 st)) z) (bif movOk n cur (fop BinOp.mul FloatKind.f32 a (fneg FloatKind.f32 st)) (fop BinOp.mul FloatKind.f32 b (fneg FloatKind.f32 st)) (fop BinOp.mul FloatKind.f32 c (fneg FloatKind.f32 st)) x y z then cl else false) n2 x2 y2 z2 cl2 th pp)) (fop BinOp.mul FloatKind.f32 (can FloatKind.f32 1073741824) st))) then fop BinOp.mul FloatKind.f32 (fop BinOp.mul FloatKind.f32 cur cur2) (fop BinOp.quo FloatKind.f32 (fop BinOp.sub FloatKind.f32 (psW (bif movOk n cur (fop BinOp.mul FloatKind.f32 a st) (fop BinOp.mul FloatKind.f32 b st) (fop BinOp.mul FloatKind.f32 c st) x y z then n else 0) (adX (fop BinOp.mul FloatKind.f32 a st) x) (adX (fop BinOp.mul FloatKind.f32 b st) y) (adX (fop BinOp.mul FloatKind.f32 c st) z) (bif movOk n cur (fop BinOp.mul FloatKind.f32 a st) (fop BinOp.mul FloatKind.f32 b st) (fop BinOp.mul FloatKind.f32 c st) x y z then cl else false) n2 x2 y2 z2 cl2 th pp) (psW (bif movOk n cur (fop BinOp.mul FloatKind.f32 a (fneg FloatKind.f32 st)) (fop BinOp.mul FloatKind.f32 b (fneg FloatKind.f32 st)) (fop BinOp.mul FloatKind.f32 c (fneg FloatKind.f32 st)) x y z then n else 0) (adX (fop BinOp.mul FloatKind.f32 a (fneg FloatKind.f32 st)) x) (adX (fop BinOp.mul FloatKind.f32 b (fneg FloatKind.f32 st)) y) (adX (fop BinOp.mul FloatKind.f32 c (fneg FloatKind.f32 st)) z) (bif movOk n cur (fop BinOp.mul FloatKind.f32 a (fneg FloatKind.f32 st)) (fop BinOp.mul FloatKind.f32 b (fneg FloatKind.f32 st)) (fop BinOp.mul FloatKind.f32 c (fneg FloatKind.f32 st)) x y z then cl else false) n2 x2 y2 z2 cl2 th pp)) (fop BinOp.mul FloatKind.f32 (can FloatKind.f32 1073741824) st)) else can FloatKind.f32 0), A.bool (bif bif bif bif !okW n2 cur2 x2 y2 z2 then true else !above st then true else !least th then true else !inI (Int.ofNat pp) (Int.ofNat 1) (Int.ofNat 8) then false else bif bif !movOk n cur (fop BinOp.mul FloatKind.f32 a st) (fop BinOp.mul FloatKind.f32 b st) (fop BinOp.mul FloatKind.f32 c st) x y z then true else !movOk n cur (fop BinOp.mul FloatKind.f32 a (fneg FloatKind.f32 st)) (fop BinOp.mul FloatKind.f32 b (fneg FloatKind.f32 st)) (fop BinOp.mul FloatKind.f32 c (fneg FloatKind.f32 st)) x y z then false else fin (fop BinOp.mul FloatKind.f32 (fop BinOp.mul FloatKind.f32 cur cur2) (fop BinOp.quo FloatKind.f32 (fop BinOp.sub FloatKind.f32 (psW (bif movOk n cur (fop BinOp.mul FloatKind.f32 a st) (fop BinOp.mul FloatKind.f32 b st) (fop BinOp.mul FloatKind.f32 c st) x y z then n else 0) (adX (fop BinOp.mul FloatKind.f32 a st) x) (adX (fop BinOp.mul FloatKind.f32 b st) y) (adX (fop BinOp.mul FloatKind.f32 c st) z) (bif movOk n cur (fop BinOp.mul FloatKind.f32 a st) (fop BinOp.mul FloatKind.f32 b st) (fop BinOp.mul FloatKind.f32 c st) x y z then cl else false) n2 x2 y2 z2 cl2 th pp) (psW (bif movOk n cur (fop BinOp.mul FloatKind.f32 a (fneg FloatKind.f32 st)) (fop BinOp.mul FloatKind.f32 b (fneg FloatKind.f32 st)) (fop BinOp.mul FloatKind.f32 c (fneg FloatKind.f32 st)) x y z then n else 0) (adX (fop BinOp.mul FloatKind.f32 a (fneg FloatKind.f32 st)) x) (adX (fop BinOp.mul FloatKind.f32 b (fneg FloatKind.f32 st)) y) (adX (fop BinOp.mul FloatKind.f32 c (fneg FloatKind.f32 st)) z) (bif movOk n cur (fop BinOp.mul FloatKind.f32 a (fneg FloatKind.f32 st)) (fop BinOp.mul FloatKind.f32 b (fneg FloatKind.f32 st)) (fop BinOp.mul FloatKind.f32 c (fneg FloatKind.f32 st)) x y z then cl else false) n2 x2 y2 z2 cl2 th pp)) (fop BinOp.mul FloatKind.f32 (can FloatKind.f32 1073741824) st))))]) := by kernel_rfl
noncomputable def s58a : List A → Option (Bool × A)
  | [.agg [.ro 3 n (.vecs .f32 x y z), .bool cl, .flt .f32 cur], .agg [.ro 3 n2 (.vecs .f32 x2 y2 z2), .bool cl2, .flt .f32 cur2], .agg [.flt .f32 a, .flt .f32 b, .flt .f32 c], .flt .f32 st, .flt .f32 th, .int .i64 (.ofNat pp)] => some (Nat.ble n 1048576 && Nat.ble n2 1048576, .tup [.flt .f32 (bif faOk n cur x y z n2 cur2 x2 y2 z2 a b c st th pp && fin (faR n cur x y z cl n2 cur2 x2 y2 z2 cl2 a b c st th pp) then faR n cur x y z cl n2 cur2 x2 y2 z2 cl2 a b c st th pp else can .f32 0), .bool (faOk n cur x y z n2 cur2 x2 y2 z2 a b c st th pp && fin (faR n cur x y z cl n2 cur2 x2 y2 z2 cl2 a b c st th pp))])
  | _ => none
theorem s58a_at : EnvAt Try.prog 58 s58a := of_auto cfg43_ok (lp_none _) Try.func58 (by kernel_rfl) (by kernel_rfl) fun ds cc rr h hc => by
  unfold s58a at h
  split at h
  · rename_i n x y z cl cur n2 x2 y2 z2 cl2 cur2 a b c st th pp
    simp only [Option.some.injEq, Prod.mk.injEq] at h
    obtain ⟨rfl, rfl⟩ := h
    refine auto_fit (auto58a n cur n2 cur2 x y z x2 y2 z2 cl cl2 a b c st th pp) ?_ ?_
    · have e : inI (Int.ofNat pp) (Int.ofNat 1) (Int.ofNat 8) = inI (Int.ofNat pp) 1 8 := rfl
      rw [e]
      unfold faOk mvU mvD two
      cases hu : movOk n cur (fop .mul .f32 a st) (fop .mul .f32 b st) (fop .mul .f32 c st) x y z
      · cases okW n cur x y z <;> cases okW n2 cur2 x2 y2 z2 <;> cases above st <;> cases least th <;> cases inI (Int.ofNat pp) 1 8 <;> rfl
      · rw [(mov_ok hu).1]
        cases hd : movOk n cur (fop .mul .f32 a (fneg .f32 st)) (fop .mul .f32 b (fneg .f32 st)) (fop .mul .f32 c (fneg .f32 st)) x y z <;> cases okW n2 cur2 x2 y2 z2 <;> cases above st <;> cases least th <;> cases inI (Int.ofNat pp) 1 8 <;> rfl
    · have e : inI (Int.ofNat pp) (Int.ofNat 1) (Int.ofNat 8) = inI (Int.ofNat pp) 1 8 := rfl
      rw [e]
      simp only [Bool.and_eq_true, Nat.ble_eq] at hc
      rw [ble_of (show n ≤ 4611686018427387000 by omega), ble_of (show n2 ≤ 4611686018427387000 by omega)]
      cases hB : okW n2 cur2 x2 y2 z2
      · rfl
      · cases above st
        · rfl
        · cases hL : least th
          · rfl
          · cases hI : inI (Int.ofNat pp) 1 8
            · rfl
            · cases hu : movOk n cur (fop .mul .f32 a st) (fop .mul .f32 b st) (fop .mul .f32 c st) x y z
              · rfl
              · cases hd : movOk n cur (fop .mul .f32 a (fneg .f32 st)) (fop .mul .f32 b (fneg .f32 st)) (fop .mul .f32 c (fneg .f32 st)) x y z
                · rfl
                · have ht : two n cur x y z n2 cur2 x2 y2 z2 th (Int.ofNat pp) = true := by unfold two; rw [(mov_ok hu).1, hB, hL, hI]; rfl
                  obtain ⟨k1, k2, k3, k4⟩ := two_ok ht
                  simp at k4
                  simp only [cond_true]
                  rw [ble_of (show 1 ≤ n by omega), ble_of (show n ≤ 1000 by omega), ble_of (show 1 ≤ n2 by omega), ble_of (show n2 ≤ 1000 by omega), ble_of (show pp ≤ 32 by omega)]
                  rfl
  · cases h

theorem auto57b (n cur n2 cur2 : Nat) (x y z x2 y2 z2 : Nat → Nat) (cl cl2 : Bool) (a b c st th pp : Nat) : autoS cfg43 (fun _ => none) true Try.f57 [.agg [.ro 3 n (.vecs .f32 x y z), .bool cl, .flt .f32 cur], .agg [.ro 3 n2 (.vecs .f32 x2 y2 z2), .bool cl2, .flt .f32 cur2], .agg [.flt .f32 a, .flt .f32 b, .flt .f32 c], .flt .f32 st, .flt .f32 th, .int .i64 (.negSucc pp)] =
    some (n.ble 1048576 && n2.ble 1048576 && bif bif bif !two n cur x y z n2 cur2 x2 y2 z2 th (Int.negSucc pp) then true else !vfin a b c then true else !above st then true else n.ble 4611686018427387000 && true && (n.ble 4611686018427387000 && true && ((bif !movOk n cur (fop BinOp.mul FloatKind.f32 a st) (fop BinOp.mul FloatKind.f32 b st) (fop BinOp.mul FloatKind.f32 c st) x y z then true else !movOk n cur (fop BinOp.mul FloatKind.f32 a (fneg FloatKind.f32 st)) (fop BinOp.mul FloatKind.f32 b (fneg FloatKind.f32 st)) (fop BinOp.mul FloatKind.f32 c (fneg FloatKind.f32 st)) x y z) && true)), A.tup [A.flt FloatKind.f32 (bif bif bif !two n cur x y z n2 cur2 x2 y2 z2 th (Int.negSucc pp) then true else !vfin a b c then true else !above st then can FloatKind.f32 0 else can FloatKind.f32 0), A.bool (bif bif bif !two n cur x y z n2 cur2 x2 y2 z2 th (Int.negSucc pp) then true else !vfin a b c then true else !above st then false else false)]) := by kernel_rfl
noncomputable def s57b : List A → Option (Bool × A)
  | [.agg [.ro 3 n (.vecs .f32 x y z), .bool cl, .flt .f32 cur], .agg [.ro 3 n2 (.vecs .f32 x2 y2 z2), .bool cl2, .flt .f32 cur2], .agg [.flt .f32 a, .flt .f32 b, .flt .f32 c], .flt .f32 st, .flt .f32 th, .int .i64 (.negSucc pp)] => some (Nat.ble n 1048576 && Nat.ble n2 1048576, .tup [.flt .f32 (can .f32 0), .bool false])
  | _ => none
theorem s57b_at : EnvAt Try.prog 57 s57b := of_autoS cfg43_ok (lp_none _) Try.func57 (by kernel_rfl) (by kernel_rfl) fun ds cc rr h hc => by
  unfold s57b at h
  split at h
  · rename_i n x y z cl cur n2 x2 y2 z2 cl2 cur2 a b c st th pp
    simp only [Option.some.injEq, Prod.mk.injEq] at h
    obtain ⟨rfl, rfl⟩ := h
    refine auto_fit (auto57b n cur n2 cur2 x y z x2 y2 z2 cl cl2 a b c st th pp) ?_ ?_
    · simp only [Bool.cond_self]
    · simp only [Bool.and_eq_true, Nat.ble_eq] at hc
      rw [ble_of hc.1, ble_of hc.2, two_neg]; rfl
  · cases h

theorem auto58b (n cur n2 cur2 : Nat) (x y z x2 y2 z2 : Nat → Nat) (cl cl2 : Bool) (a b c st th pp : Nat) : autoS cfg43 (fun _ => none) true Try.f58 [.agg [.ro 3 n (.vecs .f32 x y z), .bool cl, .flt .f32 cur], .agg [.ro 3 n2 (.vecs .f32 x2 y2 z2), .bool cl2, .flt .f32 cur2], .agg [.flt .f32 a, .flt .f32 b, .flt .f32 c], .flt .f32 st, .flt .f32 th, .int .i64 (.negSucc pp)] =
    some (n2.ble 4611686018427387000 && bif bif bif bif !okW n2 cur2 x2 y2 z2 then true else !above st then true else !least th then true else !inI (Int.negSucc pp) (Int.ofNat 1) (Int.ofNat 8) then true else n.ble 4611686018427387000 && true && (n.ble 4611686018427387000 && true && ((bif !movOk n cur (fop BinOp.mul FloatKind.f32 a st) (fop BinOp.mul FloatKind.f32 b st) (fop BinOp.mul FloatKind.f32 c st) x y z then true else !movOk n cur (fop BinOp.mul FloatKind.f32 a (fneg FloatKind.f32 st)) (fop BinOp.mul FloatKind.f32 b (fneg FloatKind.f32 st)) (fop BinOp.mul FloatKind.f32 c (fneg FloatKind.f32 st)) x y z) && true)), A.tup [A.flt FloatKind.f32 (bif bif bif bif !okW n2 cur2 x2 y2 z2 then true else !above st then true else !least th then true else !inI (Int.negSucc pp) (Int.ofNat 1) (Int.ofNat 8) then can FloatKind.f32 0 else can FloatKind.f32 0), A.bool (bif bif bif bif !okW n2 cur2 x2 y2 z2 then true else !above st then true else !least th then true else !inI (Int.negSucc pp) (Int.ofNat 1) (Int.ofNat 8) then false else false)]) := by kernel_rfl
noncomputable def s58b : List A → Option (Bool × A)
  | [.agg [.ro 3 n (.vecs .f32 x y z), .bool cl, .flt .f32 cur], .agg [.ro 3 n2 (.vecs .f32 x2 y2 z2), .bool cl2, .flt .f32 cur2], .agg [.flt .f32 a, .flt .f32 b, .flt .f32 c], .flt .f32 st, .flt .f32 th, .int .i64 (.negSucc pp)] => some (Nat.ble n 1048576 && Nat.ble n2 1048576, .tup [.flt .f32 (can .f32 0), .bool false])
  | _ => none
theorem s58b_at : EnvAt Try.prog 58 s58b := of_autoS cfg43_ok (lp_none _) Try.func58 (by kernel_rfl) (by kernel_rfl) fun ds cc rr h hc => by
  unfold s58b at h
  split at h
  · rename_i n x y z cl cur n2 x2 y2 z2 cl2 cur2 a b c st th pp
    simp only [Option.some.injEq, Prod.mk.injEq] at h
    obtain ⟨rfl, rfl⟩ := h
    refine auto_fit (auto58b n cur n2 cur2 x y z x2 y2 z2 cl cl2 a b c st th pp) ?_ ?_
    · simp only [Bool.cond_self]
    · simp only [Bool.and_eq_true, Nat.ble_eq] at hc
      rw [ble_of (show n2 ≤ 4611686018427387000 by omega)]
      have e : inI (Int.negSucc pp) (Int.ofNat 1) (Int.ofNat 8) = false := inI_neg pp
      rw [e]
      cases okW n2 cur2 x2 y2 z2 <;> cases above st <;> cases least th <;> rfl
  · cases h

noncomputable def s57 : List A → Option (Bool × A)
  | [u, v, w, s, t, .int .i64 (.ofNat pp)] => s57a [u, v, w, s, t, .int .i64 (.ofNat pp)]
  | ds => s57b ds
theorem s57_at : EnvAt Try.prog 57 s57 := by
  refine ⟨s57a_at.1, fun ds c r h hc => ?_⟩
  unfold s57 at h
  split at h
  · exact s57a_at.2 _ _ _ h hc
  · exact s57b_at.2 _ _ _ h hc
noncomputable def s58 : List A → Option (Bool × A)
  | [u, v, w, s, t, .int .i64 (.ofNat pp)] => s58a [u, v, w, s, t, .int .i64 (.ofNat pp)]
  | ds => s58b ds
theorem s58_at : EnvAt Try.prog 58 s58 := by
  refine ⟨s58a_at.1, fun ds c r h hc => ?_⟩
  unfold s58 at h
  split at h
  · exact s58a_at.2 _ _ _ h hc
  · exact s58b_at.2 _ _ _ h hc
noncomputable def env44 : List (Nat × (List A → Option (Bool × A))) := (57, s57) :: (58, s58) :: env37
theorem env44_ok : EnvOK Try.prog (look env44) := (env_cons s57_at (env_cons s58_at env37_ok))
noncomputable def cfg44 : Cfg := mkCfg tab [] xts (look env44)
theorem cfg44_ok : CfgOK Try.prog cfg44 := cfg_ok tab_eq (no_fts _) xts_ok env44_ok mixed
end Go.Fw.W1

/-
  Forces along ways: the law.
-/
namespace Go.Fw.W1
open Go.Proofs
theorem faP (n cur n2 cur2 : Nat) (x y z x2 y2 z2 : Nat → Nat) (cl cl2 : Bool) (a b c st th pp : Nat) : autoLp cfg44 (fun _ => none) Try.f15 [.agg [.ro 3 n (.vecs .f32 x y z), .bool cl, .flt .f32 cur], .agg [.ro 3 n2 (.vecs .f32 x2 y2 z2), .bool cl2, .flt .f32 cur2], .agg [.flt .f32 a, .flt .f32 b, .flt .f32 c], .flt .f32 st, .flt .f32 th, .int .i64 (.ofNat pp)] =
    some (bif decide (sz1 1048576 n < 0) then true else bif decide (sz1 (sz1 1048576 n) n2 < 0) then true else n.ble 1048576 && n2.ble 1048576 && (n2.ble 1073741824 && (n.ble 1073741824 && true)) && (n.ble 1073741824 && (n2.ble 1073741824 && (n.ble 1048576 && n2.ble 1048576 && true && bif bif !sameF (fcvt FloatKind.f32 FloatKind.f64 (bif faOk n cur x y z n2 cur2 x2 y2 z2 a b c st th pp && fin (faR n cur x y z cl n2 cur2 x2 y2 z2 cl2 a b c st th pp) then faR n cur x y z cl n2 cur2 x2 y2 z2 cl2 a b c st th pp else can FloatKind.f32 0)) (fcvt FloatKind.f32 FloatKind.f64 (bif faOk n cur x y z n2 cur2 x2 y2 z2 a b c st th pp && fin (faR n cur x y z cl n2 cur2 x2 y2 z2 cl2 a b c st th pp) then faR n cur x y z cl n2 cur2 x2 y2 z2 cl2 a b c st th pp else can FloatKind.f32 0)) then true else !(faOk n cur x y z n2 cur2 x2 y2 z2 a b c st th pp && fin (faR n cur x y z cl n2 cur2 x2 y2 z2 cl2 a b c st th pp)) == (faOk n cur x y z n2 cur2 x2 y2 z2 a b c st th pp && fin (faR n cur x y z cl n2 cur2 x2 y2 z2 cl2 a b c st th pp)) then true else n.ble 1073741824 && true && (n.beq n && n.ble 1048576 && allUpTo (sameVAt x y z x y z) n && cl == cl && sameF (fcvt FloatKind.f32 FloatKind.f64 cur) (fcvt FloatKind.f32 FloatKind.f64 cur) && (n2.ble 1073741824 && true && (n2.beq n2 && n2.ble 1048576 && allUpTo (sameVAt x2 y2 z2 x2 y2 z2) n2 && cl2 == cl2 && sameF (fcvt FloatKind.f32 FloatKind.f64 cur2) (fcvt FloatKind.f32 FloatKind.f64 cur2) && true)))))), A.bool (bif decide (sz1 1048576 n < 0) then true else bif decide (sz1 (sz1 1048576 n) n2 < 0) then true else bif bif !sameF (fcvt FloatKind.f32 FloatKind.f64 (bif faOk n cur x y z n2 cur2 x2 y2 z2 a b c st th pp && fin (faR n cur x y z cl n2 cur2 x2 y2 z2 cl2 a b c st th pp) then faR n cur x y z cl n2 cur2 x2 y2 z2 cl2 a b c st th pp else can FloatKind.f32 0)) (fcvt FloatKind.f32 FloatKind.f64 (bif faOk n cur x y z n2 cur2 x2 y2 z2 a b c st th pp && fin (faR n cur x y z cl n2 cur2 x2 y2 z2 cl2 a b c st th pp) then faR n cur x y z cl n2 cur2 x2 y2 z2 cl2 a b c st th pp else can FloatKind.f32 0)) then true else !(faOk n cur x y z n2 cur2 x2 y2 z2 a b c st th pp && fin (faR n cur x y z cl n2 cur2 x2 y2 z2 cl2 a b c st th pp)) == (faOk n cur x y z n2 cur2 x2 y2 z2 a b c st th pp && fin (faR n cur x y z cl n2 cur2 x2 y2 z2 cl2 a b c st th pp)) then false else true)) := by kernel_rfl
theorem faN (n cur n2 cur2 : Nat) (x y z x2 y2 z2 : Nat → Nat) (cl cl2 : Bool) (a b c st th pp : Nat) : autoLp cfg44 (fun _ => none) Try.f15 [.agg [.ro 3 n (.vecs .f32 x y z), .bool cl, .flt .f32 cur], .agg [.ro 3 n2 (.vecs .f32 x2 y2 z2), .bool cl2, .flt .f32 cur2], .agg [.flt .f32 a, .flt .f32 b, .flt .f32 c], .flt .f32 st, .flt .f32 th, .int .i64 (.negSucc pp)] =
    some (bif decide (sz1 1048576 n < 0) then true else bif decide (sz1 (sz1 1048576 n) n2 < 0) then true else n.ble 1048576 && n2.ble 1048576 && (n2.ble 1073741824 && (n.ble 1073741824 && true)) && (n.ble 1073741824 && (n2.ble 1073741824 && (n.ble 1048576 && n2.ble 1048576 && true && bif bif !sameF (fcvt FloatKind.f32 FloatKind.f64 (can FloatKind.f32 0)) (fcvt FloatKind.f32 FloatKind.f64 (can FloatKind.f32 0)) then true else false then true else n.ble 1073741824 && true && (n.beq n && n.ble 1048576 && allUpTo (sameVAt x y z x y z) n && cl == cl && sameF (fcvt FloatKind.f32 FloatKind.f64 cur) (fcvt FloatKind.f32 FloatKind.f64 cur) && (n2.ble 1073741824 && true && (n2.beq n2 && n2.ble 1048576 && allUpTo (sameVAt x2 y2 z2 x2 y2 z2) n2 && cl2 == cl2 && sameF (fcvt FloatKind.f32 FloatKind.f64 cur2) (fcvt FloatKind.f32 FloatKind.f64 cur2) && true)))))), A.bool (bif decide (sz1 1048576 n < 0) then true else bif decide (sz1 (sz1 1048576 n) n2 < 0) then true else bif bif !sameF (fcvt FloatKind.f32 FloatKind.f64 (can FloatKind.f32 0)) (fcvt FloatKind.f32 FloatKind.f64 (can FloatKind.f32 0)) then true else false then false else true)) := by kernel_rfl
theorem law15 {u v w s t : A} {p : Int} (ha : WireA u) (hb : WireA v) (hw : VecA w) (hs : FltA s) (ht : FltA t) (_hp : IntA p) : PureCall Try.prog 15 [u, v, w, s, t, .int .i64 p] (.bool true) := by
  obtain ⟨n, x, y, z, cl, cur, hn, rfl⟩ := ha
  obtain ⟨n2, x2, y2, z2, cl2, cur2, hn2, rfl⟩ := hb
  obtain ⟨a, b, c, _, _, _, rfl⟩ := hw
  obtain ⟨st, _, rfl⟩ := hs
  obtain ⟨th, _, rfl⟩ := ht
  have key : ∀ pp, (PureCall Try.prog 15 [.agg [.ro 3 n (.vecs .f32 x y z), .bool cl, .flt .f32 cur], .agg [.ro 3 n2 (.vecs .f32 x2 y2 z2), .bool cl2, .flt .f32 cur2], .agg [.flt .f32 a, .flt .f32 b, .flt .f32 c], .flt .f32 st, .flt .f32 th, .int .i64 (.ofNat pp)] (.bool true)) ∧ (PureCall Try.prog 15 [.agg [.ro 3 n (.vecs .f32 x y z), .bool cl, .flt .f32 cur], .agg [.ro 3 n2 (.vecs .f32 x2 y2 z2), .bool cl2, .flt .f32 cur2], .agg [.flt .f32 a, .flt .f32 b, .flt .f32 c], .flt .f32 st, .flt .f32 th, .int .i64 (.negSucc pp)] (.bool true)) := fun pp => by
    have kP := (auto_at cfg44_ok Try.func15 (by kernel_rfl) (by kernel_rfl)).2 _ _ _ (faP n cur n2 cur2 x y z x2 y2 z2 cl cl2 a b c st th pp)
    have kN := (auto_at cfg44_ok Try.func15 (by kernel_rfl) (by kernel_rfl)).2 _ _ _ (faN n cur n2 cur2 x y z x2 y2 z2 cl cl2 a b c st th pp)
    rcases sz1_le (left := 1048576) (n := n) (by omega) (by omega) hn with ⟨e, h1⟩ | ⟨e, h1⟩
    · rw [e] at kP kN; exact ⟨kP rfl, kN rfl⟩
    rw [e, decide_eq_false (p := (1048576 : Int) - (n : Int) < 0) (by omega)] at kP kN
    rcases sz1_le (left := (1048576 : Int) - (n : Int)) (n := n2) (by omega) (by omega) hn2 with ⟨e', h1'⟩ | ⟨e', h1'⟩
    · rw [e'] at kP kN; exact ⟨kP rfl, kN rfl⟩
    rw [e', decide_eq_false (p := (1048576 : Int) - (n : Int) - (n2 : Int) < 0) (by omega)] at kP kN
    have h2 : n ≤ 1048576 := by omega
    have h3 : n2 ≤ 1048576 := by omega
    simp only [sameVs_self, sameV_self, sameF_self, bne_self_eq_false, Bool.cond_self, beq_self_eq_true, Nat.beq_refl, Bool.not_true, cond_false, Bool.and_true, Bool.true_or, ble_of h2, ble_of h3, ble_of (show n ≤ 1073741824 by omega), ble_of (show n ≤ 4611686018427387000 by omega), ble_of (show n2 ≤ 1073741824 by omega), ble_of (show n2 ≤ 4611686018427387000 by omega)] at kP kN
    exact ⟨kP trivial, kN trivial⟩
  cases p with
  | ofNat pp => exact (key pp).1
  | negSucc pp => exact (key pp).2
end Go.Fw.W1

/-
  Two rings: contracts of a ring for both outcomes; marks at any number.
-/
namespace Go.Fw.W1
open Go.Proofs
theorem auto30N (n : Int) (r h c : Nat) : autoS cfgGD (fun _ => none) true Try.f30 [.int .i64 n, .flt .f32 r, .flt .f32 h, .flt .f32 c] =
    some (bif bif !bif decide (n ≥ 3) then decide (n ≤ 48) else false then true else !above r then true else decide (n ≤ 1000) && (n.toNat.ble 4611686018427387000 && ((!okW n.toNat c (ringX n r) (ringY n r) fun x => h) && true)), A.tup [A.agg [A.nils, A.bool (bif bif !bif decide (n ≥ 3) then decide (n ≤ 48) else false then true else !above r then false else false), A.flt FloatKind.f32 (bif bif !bif decide (n ≥ 3) then decide (n ≤ 48) else false then true else !above r then 0 else 0)], A.bool (bif bif !bif decide (n ≥ 3) then decide (n ≤ 48) else false then true else !above r then false else false)]) := by kernel_rfl
noncomputable def s30N : List A → Option (Bool × A)
  | [.int .i64 n, .flt .f32 r, .flt .f32 h, .flt .f32 c] => some (!ringOk n r h c, .tup [.agg [.nils, .bool false, .flt .f32 0], .bool false])
  | _ => none
theorem s30N_at : EnvAt Try.prog 30 s30N := of_autoS cfgGD_ok (lp_none _) Try.func30 (by kernel_rfl) (by kernel_rfl) fun ds cc rr h hc => by
  unfold s30N at h
  split at h
  · rename_i n r h c
    simp only [Option.some.injEq, Prod.mk.injEq] at h
    obtain ⟨rfl, rfl⟩ := h
    refine auto_fit (auto30N n r h c) ?_ ?_
    · simp only [Bool.cond_self]
    · unfold ringOk at hc
      cases hA : (bif decide (n ≥ 3) then decide (n ≤ 48) else false)
      · rfl
      · cases hB : above r
        · rfl
        · rw [hA, hB] at hc
          have hC : okW n.toNat c (ringX n r) (ringY n r) (fun _ => h) = false := by simpa using hc
          have h5 : n ≤ 48 := by
            by_cases h3 : n ≥ 3
            · rw [decide_eq_true h3] at hA; exact of_decide_eq_true hA
            · rw [decide_eq_false h3] at hA; cases hA
          rw [hC, decide_eq_true (show n ≤ 1000 by omega), ble_of (show n.toNat ≤ 4611686018427387000 by omega)]; rfl
  · cases h

noncomputable def ringA (n : Int) (r h c : Nat) : A := .tup [.agg [.ro 3 (bif ringOk n r h c then n.toNat else 0) (.vecs .f32 (ringX n r) (ringY n r) (fun _ => h)), .bool (ringOk n r h c), .flt .f32 (bif ringOk n r h c then c else 0)], .bool (ringOk n r h c)]
theorem ringA_at {f r h c : Nat} {n : Int} {ds : List A} (hT : ringOk n r h c = true → PureCall Try.prog f ds (.tup [.agg [.ro 3 n.toNat (.vecs .f32 (ringX n r) (ringY n r) (fun _ => h)), .bool true, .flt .f32 c], .bool true]))
    (hF : ringOk n r h c = false → PureCall Try.prog f ds (.tup [.agg [.nils, .bool false, .flt .f32 0], .bool false])) : PureCall Try.prog f ds (ringA n r h c) := by
  unfold ringA
  cases hm : ringOk n r h c
  · exact PureCall.row0 (hF hm)
  · exact hT hm
noncomputable def sRing : List A → Option (Bool × A)
  | [.int .i64 n, .flt .f32 r, .flt .f32 h, .flt .f32 c] => some (true, .tup [.agg [.ro 3 (bif ringOk n r h c then n.toNat else 0) (.vecs .f32 (ringX n r) (ringY n r) (fun _ => h)), .bool (ringOk n r h c), .flt .f32 (bif ringOk n r h c then c else 0)], .bool (ringOk n r h c)])
  | _ => none
theorem s30B_at : EnvAt Try.prog 30 sRing := by
  refine ⟨s30T_at.1, fun ds cc r h hc => ?_⟩
  unfold sRing at h
  split at h
  · rename_i n r h' c
    simp only [Option.some.injEq, Prod.mk.injEq] at h
    obtain ⟨rfl, rfl⟩ := h
    exact ringA_at (fun hm => s30T_at.2 [.int .i64 n, .flt .f32 r, .flt .f32 h', .flt .f32 c] _ _ rfl hm) (fun hm => s30N_at.2 [.int .i64 n, .flt .f32 r, .flt .f32 h', .flt .f32 c] _ _ rfl (by rw [hm]; rfl))
  · cases h
theorem s31B_at : EnvAt Try.prog 31 sRing := by
  refine ⟨s31T_at.1, fun ds cc r h hc => ?_⟩
  unfold sRing at h
  split at h
  · rename_i n r h' c
    simp only [Option.some.injEq, Prod.mk.injEq] at h
    obtain ⟨rfl, rfl⟩ := h
    exact ringA_at (fun hm => s31T_at.2 [.int .i64 n, .flt .f32 r, .flt .f32 h', .flt .f32 c] _ _ rfl hm) (fun hm => s31N_at.2 [.int .i64 n, .flt .f32 r, .flt .f32 h', .flt .f32 c] _ _ rfl (by rw [hm]; rfl))
  · cases h
noncomputable def s83w : List A → Option (Bool × A)
  | [.ro 3 n (.vecs .f32 x y z), .int .i64 q] => some (decide (0 ≤ q) && (Nat.ble n 1048577 && Nat.ble q.toNat 1000000000 && allUpTo (heldV x y z q.toNat) n), .int .i64 (Int.ofNat (q.toNat + 3 * n)))
  | _ => none
theorem s83w_at : EnvAt Try.prog 83 s83w := by
  refine ⟨s83_at.1, fun ds cc r h hc => ?_⟩
  unfold s83w at h
  split at h
  · rename_i n x y z q
    simp only [Option.some.injEq, Prod.mk.injEq] at h
    obtain ⟨rfl, rfl⟩ := h
    simp only [Bool.and_eq_true, decide_eq_true_eq] at hc
    obtain ⟨k0, rfl⟩ := Int.eq_ofNat_of_zero_le hc.1
    exact s83_at.2 [.ro 3 n (.vecs .f32 x y z), .int .i64 (.ofNat k0)] _ _ rfl (by simp only [Bool.and_eq_true]; exact hc.2)
  · cases h
noncomputable def FVw (ID : Nat) : List A → O → Option (Bool × List A × O)
  | [.sl j m, .int .i64 q, .int .i64 0, .int .i64 0], .row e 3 m2 (.vecs .f32 _ _ _) => some (decide (0 ≤ q) && (Nat.beq j ID && Nat.beq m2 m && Nat.ble m 1048577 && Nat.ble q.toNat 1000000000), IVg ID m q.toNat m, .row e 3 m (.vecs .f32 (fun j => mk3 q.toNat j 0) (fun j => mk3 q.toNat j 1) (fun j => mk3 q.toNat j 2)))
  | _, _ => none
theorem FVw_eq {ID : Nat} {az az' : List A} {o o' : O} (h : FVw ID az o = some (true, az', o')) : FVg ID az o = some (true, az', o') := by
  unfold FVw at h
  split at h
  · rename_i j m q e m2 x y z
    simp only [Option.some.injEq, Prod.mk.injEq, Bool.and_eq_true, decide_eq_true_eq] at h
    obtain ⟨⟨h0, h1⟩, rfl, rfl⟩ := h
    obtain ⟨k0, rfl⟩ := Int.eq_ofNat_of_zero_le h0
    show some ((Nat.beq j ID && Nat.beq m2 m && Nat.ble m 1048577 && Nat.ble k0 1000000000), IVg ID m k0 m, _) = _
    have e : (Nat.beq j ID && Nat.beq m2 m && Nat.ble m 1048577 && Nat.ble k0 1000000000) = true := by
      simp only [Bool.and_eq_true]; exact h1
    rw [e]
    rfl
  · cases h
noncomputable def lpVw (l : List Nat) : List (Nat × (St → T)) := [(0, sumD 0 (l.map fun i => (i, sumM Try.f82.ntmps [0, 1, 4, 5] i (FVw i))))]
theorem lpVw_ok {l : List Nat} (h : ∀ i, i ∈ l → CodeOK Try.prog (fun _ σ => sumM Try.f82.ntmps [0, 1, 4, 5] i (FVw i) σ) (.block 0 (.loop (loopOf Try.f82 0)))) : LpOK Try.prog (look (lpVw l)) (bodyOf Try.f82) := lp_loops (by kernel_rfl) (by kernel_rfl) fun p hp => by
  rw [List.mem_singleton.1 hp]
  exact sumD_ok fun p hp => by
    obtain ⟨i, hi, rfl⟩ := List.mem_map.1 hp
    exact h i hi
noncomputable def envPB : List (Nat × (List A → Option (Bool × A))) := (30, sRing) :: (31, sRing) :: env37
theorem envPB_ok : EnvOK Try.prog (look envPB) := env_cons s30B_at (env_cons s31B_at env37_ok)
noncomputable def cfgPB : Cfg := mkCfg tab [] xts (look envPB)
theorem cfgPB_ok : CfgOK Try.prog cfgPB := cfg_ok tab_eq (no_fts _) xts_ok envPB_ok mixed
noncomputable def sAbT : List A → Option (Bool × A)
  | [.flt .f32 x] => some (above x, .bool true)
  | _ => none
theorem s73T_at : EnvAt Try.prog 73 sAbT := by
  refine ⟨s73_at.1, fun ds cc r h hc => ?_⟩
  unfold sAbT at h
  split at h
  · rename_i x
    simp only [Option.some.injEq, Prod.mk.injEq] at h
    obtain ⟨rfl, rfl⟩ := h
    have := s73_at.2 [.flt .f32 x] _ _ rfl rfl
    rw [hc] at this
    exact this
  · cases h
theorem s78T_at : EnvAt Try.prog 78 sAbT := by
  refine ⟨s78_at.1, fun ds cc r h hc => ?_⟩
  unfold sAbT at h
  split at h
  · rename_i x
    simp only [Option.some.injEq, Prod.mk.injEq] at h
    obtain ⟨rfl, rfl⟩ := h
    have := s78_at.2 [.flt .f32 x] _ _ rfl rfl
    rw [hc] at this
    exact this
  · cases h
noncomputable def envPair : List (Nat × (List A → Option (Bool × A))) := (30, s30T) :: (31, s31T) :: (73, sAbT) :: (78, sAbT) :: (83, s83w) :: env37
theorem envPair_ok : EnvOK Try.prog (look envPair) := env_cons s30T_at (env_cons s31T_at (env_cons s73T_at (env_cons s78T_at (env_cons s83w_at env37_ok))))
noncomputable def cfgPE : Cfg := mkCfg tab [] xts (look envPair)
theorem cfgPE_ok : CfgOK Try.prog cfgPE := cfg_ok tab_eq (no_fts _) xts_ok envPair_ok mixed
noncomputable def ftsP : List (Nat × Func) := [(38, Try.f38), (39, Try.f39), (40, Try.f40), (41, Try.f41), (42, Try.f42), (82, Try.f82)]
theorem ftsP_ok (f : Nat) (fn : Func) (h : (f, fn) ∈ ftsP) : Try.prog.funcs[f]? = some fn ∧ (fn.name == "runtime.NumGoroutine") = false := by
  simp only [ftsP, List.mem_cons, Prod.mk.injEq, List.not_mem_nil, or_false] at h
  rcases h with ⟨rfl, rfl⟩ | ⟨rfl, rfl⟩ | ⟨rfl, rfl⟩ | ⟨rfl, rfl⟩ | ⟨rfl, rfl⟩ | ⟨rfl, rfl⟩
  · exact ⟨Try.func38, by kernel_rfl⟩
  · exact ⟨Try.func39, by kernel_rfl⟩
  · exact ⟨Try.func40, by kernel_rfl⟩
  · exact ⟨Try.func41, by kernel_rfl⟩
  · exact ⟨Try.func42, by kernel_rfl⟩
  · exact ⟨Try.func82, by kernel_rfl⟩
noncomputable def pair38 (σ : St) : T := exec cfgPE (fun _ => true) (fun _ => none) 0 1000 (bodyOf Try.f38) σ
noncomputable def pair39 (σ : St) : T := exec cfgPE (fun _ => true) (fun _ => none) 0 1000 (bodyOf Try.f39) σ
noncomputable def fxP (lp : List (Nat × (St → T))) : List (Nat × (St → T)) := [(38, pair38), (39, pair39), (82, markVg lp)]
theorem fxP_ok {lp : List (Nat × (St → T))} (hl : LpOK Try.prog (look lp) (bodyOf Try.f82)) (g : Nat) (s : St → T) (fn : Func) (body : Code) (h1 : (g, s) ∈ fxP lp) (h2 : (g, fn) ∈ ftsP) (h3 : fn.body = some body) : CodeOK Try.prog (fun _ σ => s σ) body := by
  have e : bodyOf fn = body := by unfold bodyOf; rw [h3]
  rw [← e]
  simp only [fxP, List.mem_cons, Prod.mk.injEq, List.not_mem_nil, or_false] at h1
  simp only [ftsP, List.mem_cons, Prod.mk.injEq, List.not_mem_nil, or_false] at h2
  rcases h1 with ⟨rfl, rfl⟩ | ⟨rfl, rfl⟩ | ⟨rfl, rfl⟩
  · rcases h2 with ⟨_, rfl⟩ | ⟨h2, _⟩ | ⟨h2, _⟩ | ⟨h2, _⟩ | ⟨h2, _⟩ | ⟨h2, _⟩ <;> first | (exact codeOK_exec cfgPE_ok (lp_none _)) | omega
  · rcases h2 with ⟨h2, _⟩ | ⟨_, rfl⟩ | ⟨h2, _⟩ | ⟨h2, _⟩ | ⟨h2, _⟩ | ⟨h2, _⟩ <;> first | (exact codeOK_exec cfgPE_ok (lp_none _)) | omega
  · rcases h2 with ⟨h2, _⟩ | ⟨h2, _⟩ | ⟨h2, _⟩ | ⟨h2, _⟩ | ⟨h2, _⟩ | ⟨_, rfl⟩ <;> first | (exact markVg_ok hl) | omega
noncomputable def cfgP (lp : List (Nat × (St → T))) : Cfg := mkCfgX tab ftsP xts (look envPair) (fxP lp)
theorem cfgP_ok {lp : List (Nat × (St → T))} (hl : LpOK Try.prog (look lp) (bodyOf Try.f82)) : CfgOK Try.prog (cfgP lp) := cfgX_ok tab_eq ftsP_ok xts_ok envPair_ok mixed (fxP_ok hl)
noncomputable def cfgPS : Cfg := mkCfgX tab ftsP xts (look envPair) [(38, pair38), (39, pair39), (82, fun σ => .loop .skip σ fun _ _ => .fail)]
end Go.Fw.W1

/-
  Two rings: the law's walk.
-/
namespace Go.Fw.W1
open Go.Proofs
theorem roundVW1152 (m k0 k e lo nx : Nat) (x y z : Nat → Nat) (M : List (Nat × O)) (L : XK → List A → List (Nat × O) → Prop) :
    ((exec cfg37 (fun _ => true) (fun _ => none) 0 1000 (loopOf Try.f82 0) (stM Try.f82.ntmps lo nx [0, 1, 4, 5] (IVg 1152 m k0 k) 1152 (.row e 3 m (.vecs .f32 x y z)) M)).rm [0, 1, 4, 5]).Ok L = RVg 1152 m k0 k e x y z M L := by kernel_rfl
theorem loopVW1152 : CodeOK Try.prog (fun _ σ => sumM Try.f82.ntmps [0, 1, 4, 5] 1152 (FVw 1152) σ) (.block 0 (.loop (loopOf Try.f82 0))) :=
  sumM_ok (own := fun _ => true) (lp := fun _ => none) (un := 0) (fuel := 1000) cfg37_ok (lp_none _) fun az o az' o' h => markVH 1152 (fun m k0 k e lo nx x y z M L => roundVW1152 m k0 k e lo nx x y z M L) az o az' o' (FVw_eq h)

theorem roundVW1344 (m k0 k e lo nx : Nat) (x y z : Nat → Nat) (M : List (Nat × O)) (L : XK → List A → List (Nat × O) → Prop) :
    ((exec cfg37 (fun _ => true) (fun _ => none) 0 1000 (loopOf Try.f82 0) (stM Try.f82.ntmps lo nx [0, 1, 4, 5] (IVg 1344 m k0 k) 1344 (.row e 3 m (.vecs .f32 x y z)) M)).rm [0, 1, 4, 5]).Ok L = RVg 1344 m k0 k e x y z M L := by kernel_rfl
theorem loopVW1344 : CodeOK Try.prog (fun _ σ => sumM Try.f82.ntmps [0, 1, 4, 5] 1344 (FVw 1344) σ) (.block 0 (.loop (loopOf Try.f82 0))) :=
  sumM_ok (own := fun _ => true) (lp := fun _ => none) (un := 0) (fuel := 1000) cfg37_ok (lp_none _) fun az o az' o' h => markVH 1344 (fun m k0 k e lo nx x y z M L => roundVW1344 m k0 k e lo nx x y z M L) az o az' o' (FVw_eq h)

noncomputable def lpP : List (Nat × (St → T)) := lpVw [1152, 1344]
theorem lpP_ok : LpOK Try.prog (look lpP) (bodyOf Try.f82) := lpVw_ok fun i hi => by
  simp only [List.mem_cons, List.not_mem_nil, or_false] at hi
  rcases hi with rfl | rfl
  · exact loopVW1152
  · exact loopVW1344
/-- So many yes, then a no, and so on. -/
def ways : List Nat → List Bool
  | [] => []
  | [n] => List.replicate n true
  | n :: r => List.replicate n true ++ false :: ways r
noncomputable def wayP : List Bool := ways [44, 51, 18, 9, 11, 7, 7, 91, 23, 9, 11, 21, 9, 11, 10, 5, 3, 41, 18, 9, 11, 7, 7, 20, 9, 11, 21, 9, 11, 10, 5, 3, 1]
theorem pairT (n : Int) (r g c : Nat) : autoG (cfgP lpP) 3 wayP Try.f9 [.int .i64 n, .flt .f32 r, .flt .f32 g, .flt .f32 c] =
    some (ringOk n r (fop BinOp.mul FloatKind.f32 (can FloatKind.f32 1056964608) g) c && (ringOk n r (fneg FloatKind.f32 (fop BinOp.mul FloatKind.f32 (can FloatKind.f32 1056964608) g)) c && ((above g || !false == false) && (!false && (ringOk n r (fop BinOp.mul FloatKind.f32 (can FloatKind.f32 1056964608) g) c && (ringOk n r (fop BinOp.mul FloatKind.f32 (can FloatKind.f32 3204448256) g) c && ((above g || !false == false) && (!false && (n.toNat.beq n.toNat && n.toNat.ble 1048576 && allUpTo (sameVAt (ringX n r) (ringY n r) (fun x => fop BinOp.mul FloatKind.f32 (can FloatKind.f32 1056964608) g) (ringX n r) (ringY n r) fun x => fop BinOp.mul FloatKind.f32 (can FloatKind.f32 1056964608) g) n.toNat && true && sameF (fcvt FloatKind.f32 FloatKind.f64 c) (fcvt FloatKind.f32 FloatKind.f64 c) && (decide (IntKind.i64.wrap (0 + 1) < Int.ofNat 2) && (decide (0 ≤ IntKind.i64.wrap (0 + 1)) && decide (IntKind.i64.wrap (0 + 1) < Int.ofNat 2) && (decide (0 ≤ IntKind.i64.wrap (0 + 1)) && decide (IntKind.i64.wrap (0 + 1) < Int.ofNat 2) && true) && (n.toNat.beq n.toNat && n.toNat.ble 1048576 && allUpTo (sameVAt (ringX n r) (ringY n r) (fun x => fop BinOp.mul FloatKind.f32 (can FloatKind.f32 3204448256) g) (ringX n r) (ringY n r) fun x => fneg FloatKind.f32 (fop BinOp.mul FloatKind.f32 (can FloatKind.f32 1056964608) g)) n.toNat && true && sameF (fcvt FloatKind.f32 FloatKind.f64 c) (fcvt FloatKind.f32 FloatKind.f64 c) && (!decide (IntKind.i64.wrap (IntKind.i64.wrap (0 + 1) + 1) < Int.ofNat 2) && (!false && (n.toNat.beq n.toNat && n.toNat.ble 1048577 && true && (decide (IntKind.i64.wrap (0 + 1) < Int.ofNat 2) && (decide (0 ≤ IntKind.i64.wrap (0 + 1)) && decide (IntKind.i64.wrap (0 + 1) < Int.ofNat 2) && (decide (0 ≤ IntKind.i64.wrap (IntKind.i64.wrap (Int.ofNat (Int.toNat 1 + 3 * n.toNat) + 1) + 1)) && (n.toNat.beq n.toNat && n.toNat.ble 1048577 && (IntKind.i64.wrap (IntKind.i64.wrap (Int.ofNat (1 + 3 * n.toNat) + Int.ofNat 1) + Int.ofNat 1)).toNat.ble 1000000000) && (decide (0 ≤ IntKind.i64.wrap (0 + 1)) && decide (IntKind.i64.wrap (0 + 1) < Int.ofNat 2) && (decide (0 ≤ IntKind.i64.wrap (0 + 1)) && decide (IntKind.i64.wrap (0 + 1) < Int.ofNat 2) && (!decide (IntKind.i64.wrap (IntKind.i64.wrap (0 + 1) + 1) < Int.ofNat 2) && (n.toNat.ble 1048577 && true && allUpTo (heldV (fun j => mk3 (Int.toNat 1) j 0) (fun j => mk3 (Int.toNat 1) j 1) (fun j => mk3 (Int.toNat 1) j 2) (Int.toNat 1)) n.toNat && (!!((Int.ofNat (1 + 3 * n.toNat)).tmod (Int.ofNat 3) == Int.ofNat 0) == ((Int.ofNat (1 + 3 * n.toNat)).tmod (Int.ofNat 3) == Int.ofNat 0) && (!forder FloatKind.f32 (fofInt FloatKind.f32 (IntKind.i64.wrap (Int.ofNat (1 + 3 * n.toNat) + Int.ofNat 1))) (fofInt FloatKind.f32 (IntKind.i64.wrap (Int.ofNat (1 + 3 * n.toNat) + Int.ofNat 1))) != some Ordering.eq && (decide (IntKind.i64.wrap (0 + 1) < Int.ofNat 2) && (decide (0 ≤ IntKind.i64.wrap (0 + 1)) && decide (IntKind.i64.wrap (0 + 1) < Int.ofNat 2) && (decide (0 ≤ IntKind.i64.wrap (IntKind.i64.wrap (Int.ofNat (Int.toNat 1 + 3 * n.toNat) + 1) + 1)) && (n.toNat.ble 1048577 && (IntKind.i64.wrap (IntKind.i64.wrap (Int.ofNat (1 + 3 * n.toNat) + Int.ofNat 1) + Int.ofNat 1)).toNat.ble 1000000000 && allUpTo (heldV (fun j => mk3 (IntKind.i64.wrap (IntKind.i64.wrap (Int.ofNat (Int.toNat 1 + 3 * n.toNat) + 1) + 1)).toNat j 0) (fun j => mk3 (IntKind.i64.wrap (IntKind.i64.wrap (Int.ofNat (Int.toNat 1 + 3 * n.toNat) + 1) + 1)).toNat j 1) (fun j => mk3 (IntKind.i64.wrap (IntKind.i64.wrap (Int.ofNat (Int.toNat 1 + 3 * n.toNat) + 1) + 1)).toNat j 2) (IntKind.i64.wrap (IntKind.i64.wrap (Int.ofNat (Int.toNat 1 + 3 * n.toNat) + 1) + 1)).toNat) n.toNat) && (decide (0 ≤ IntKind.i64.wrap (0 + 1)) && decide (IntKind.i64.wrap (0 + 1) < Int.ofNat 2) && (!!((Int.ofNat ((IntKind.i64.wrap (IntKind.i64.wrap (Int.ofNat (1 + 3 * n.toNat) + Int.ofNat 1) + Int.ofNat 1)).toNat + 3 * n.toNat)).tmod (Int.ofNat 3) == Int.ofNat 0) == ((Int.ofNat ((IntKind.i64.wrap (IntKind.i64.wrap (Int.ofNat (1 + 3 * n.toNat) + Int.ofNat 1) + Int.ofNat 1)).toNat + 3 * n.toNat)).tmod (Int.ofNat 3) == Int.ofNat 0) && (decide (0 ≤ IntKind.i64.wrap (0 + 1)) && decide (IntKind.i64.wrap (0 + 1) < Int.ofNat 2) && (!forder FloatKind.f32 (fofInt FloatKind.f32 (IntKind.i64.wrap (Int.ofNat ((IntKind.i64.wrap (IntKind.i64.wrap (Int.ofNat (1 + 3 * n.toNat) + Int.ofNat 1) + Int.ofNat 1)).toNat + 3 * n.toNat) + Int.ofNat 1))) (fofInt FloatKind.f32 (IntKind.i64.wrap (Int.ofNat ((IntKind.i64.wrap (IntKind.i64.wrap (Int.ofNat (1 + 3 * n.toNat) + Int.ofNat 1) + Int.ofNat 1)).toNat + 3 * n.toNat) + Int.ofNat 1))) != some Ordering.eq && (!decide (IntKind.i64.wrap (IntKind.i64.wrap (0 + 1) + 1) < Int.ofNat 2) && (!decide (IntKind.i64.wrap (IntKind.i64.wrap (Int.ofNat ((IntKind.i64.wrap (IntKind.i64.wrap (Int.ofNat (Int.toNat 1 + 3 * n.toNat) + 1) + 1)).toNat + 3 * n.toNat) + 1) + 1) < 0) && (!IntKind.i64.wrap (IntKind.i64.wrap (Int.ofNat ((IntKind.i64.wrap (IntKind.i64.wrap (Int.ofNat (1 + 3 * n.toNat) + Int.ofNat 1) + Int.ofNat 1)).toNat + 3 * n.toNat) + Int.ofNat 1) + Int.ofNat 1) != IntKind.i64.wrap (IntKind.i64.wrap (Int.ofNat ((IntKind.i64.wrap (IntKind.i64.wrap (Int.ofNat (1 + 3 * n.toNat) + Int.ofNat 1) + Int.ofNat 1)).toNat + 3 * n.toNat) + Int.ofNat 1) + Int.ofNat 1) && (ringOk n r (fop BinOp.mul FloatKind.f32 (can FloatKind.f32 1056964608) g) c && (ringOk n r (fop BinOp.mul FloatKind.f32 (can FloatKind.f32 3204448256) g) c && ((above g || !false == false) && (!false && (n.toNat.beq n.toNat && n.toNat.ble 1048576 && allUpTo (sameVAt (ringX n r) (ringY n r) (fun x => fop BinOp.mul FloatKind.f32 (can FloatKind.f32 1056964608) g) (ringX n r) (ringY n r) fun x => fop BinOp.mul FloatKind.f32 (can FloatKind.f32 1056964608) g) n.toNat && true && sameF (fcvt FloatKind.f32 FloatKind.f64 c) (fcvt FloatKind.f32 FloatKind.f64 c) && (decide (IntKind.i64.wrap (0 + 1) < Int.ofNat 2) && (decide (0 ≤ IntKind.i64.wrap (0 + 1)) && decide (IntKind.i64.wrap (0 + 1) < Int.ofNat 2) && (decide (0 ≤ IntKind.i64.wrap (0 + 1)) && decide (IntKind.i64.wrap (0 + 1) < Int.ofNat 2) && true) && (n.toNat.beq n.toNat && n.toNat.ble 1048576 && allUpTo (sameVAt (ringX n r) (ringY n r) (fun x => fop BinOp.mul FloatKind.f32 (can FloatKind.f32 3204448256) g) (ringX n r) (ringY n r) fun x => fneg FloatKind.f32 (fop BinOp.mul FloatKind.f32 (can FloatKind.f32 1056964608) g)) n.toNat && true && sameF (fcvt FloatKind.f32 FloatKind.f64 c) (fcvt FloatKind.f32 FloatKind.f64 c) && (!decide (IntKind.i64.wrap (IntKind.i64.wrap (0 + 1) + 1) < Int.ofNat 2) && (!false && (n.toNat.ble 1048577 && true && allUpTo (heldV (fun j => mk3 (Int.toNat 1) j 0) (fun j => mk3 (Int.toNat 1) j 1) (fun j => mk3 (Int.toNat 1) j 2) (Int.toNat 1)) n.toNat && (!!((Int.ofNat (1 + 3 * n.toNat)).tmod (Int.ofNat 3) == Int.ofNat 0) == ((Int.ofNat (1 + 3 * n.toNat)).tmod (Int.ofNat 3) == Int.ofNat 0) && (!forder FloatKind.f32 (fofInt FloatKind.f32 (IntKind.i64.wrap (Int.ofNat (1 + 3 * n.toNat) + Int.ofNat 1))) (fofInt FloatKind.f32 (IntKind.i64.wrap (Int.ofNat (1 + 3 * n.toNat) + Int.ofNat 1))) != some Ordering.eq && (decide (IntKind.i64.wrap (0 + 1) < Int.ofNat 2) && (decide (0 ≤ IntKind.i64.wrap (0 + 1)) && decide (IntKind.i64.wrap (0 + 1) < Int.ofNat 2) && (decide (0 ≤ IntKind.i64.wrap (IntKind.i64.wrap (Int.ofNat (Int.toNat 1 + 3 * n.toNat) + 1) + 1)) && (n.toNat.ble 1048577 && (IntKind.i64.wrap (IntKind.i64.wrap (Int.ofNat (1 + 3 * n.toNat) + Int.ofNat 1) + Int.ofNat 1)).toNat.ble 1000000000 && allUpTo (heldV (fun j => mk3 (IntKind.i64.wrap (IntKind.i64.wrap (Int.ofNat (Int.toNat 1 + 3 * n.toNat) + 1) + 1)).toNat j 0) (fun j => mk3 (IntKind.i64.wrap (IntKind.i64.wrap (Int.ofNat (Int.toNat 1 + 3 * n.toNat) + 1) + 1)).toNat j 1) (fun j => mk3 (IntKind.i64.wrap (IntKind.i64.wrap (Int.ofNat (Int.toNat 1 + 3 * n.toNat) + 1) + 1)).toNat j 2) (IntKind.i64.wrap (IntKind.i64.wrap (Int.ofNat (Int.toNat 1 + 3 * n.toNat) + 1) + 1)).toNat) n.toNat) && (decide (0 ≤ IntKind.i64.wrap (0 + 1)) && decide (IntKind.i64.wrap (0 + 1) < Int.ofNat 2) && (!!((Int.ofNat ((IntKind.i64.wrap (IntKind.i64.wrap (Int.ofNat (1 + 3 * n.toNat) + Int.ofNat 1) + Int.ofNat 1)).toNat + 3 * n.toNat)).tmod (Int.ofNat 3) == Int.ofNat 0) == ((Int.ofNat ((IntKind.i64.wrap (IntKind.i64.wrap (Int.ofNat (1 + 3 * n.toNat) + Int.ofNat 1) + Int.ofNat 1)).toNat + 3 * n.toNat)).tmod (Int.ofNat 3) == Int.ofNat 0) && (decide (0 ≤ IntKind.i64.wrap (0 + 1)) && decide (IntKind.i64.wrap (0 + 1) < Int.ofNat 2) && (!forder FloatKind.f32 (fofInt FloatKind.f32 (IntKind.i64.wrap (Int.ofNat ((IntKind.i64.wrap (IntKind.i64.wrap (Int.ofNat (1 + 3 * n.toNat) + Int.ofNat 1) + Int.ofNat 1)).toNat + 3 * n.toNat) + Int.ofNat 1))) (fofInt FloatKind.f32 (IntKind.i64.wrap (Int.ofNat ((IntKind.i64.wrap (IntKind.i64.wrap (Int.ofNat (1 + 3 * n.toNat) + Int.ofNat 1) + Int.ofNat 1)).toNat + 3 * n.toNat) + Int.ofNat 1))) != some Ordering.eq && (!decide (IntKind.i64.wrap (IntKind.i64.wrap (0 + 1) + 1) < Int.ofNat 2) && (!decide (IntKind.i64.wrap (IntKind.i64.wrap (Int.ofNat ((IntKind.i64.wrap (IntKind.i64.wrap (Int.ofNat (Int.toNat 1 + 3 * n.toNat) + 1) + 1)).toNat + 3 * n.toNat) + 1) + 1) < 0) && (!IntKind.i64.wrap (IntKind.i64.wrap (Int.ofNat ((IntKind.i64.wrap (IntKind.i64.wrap (Int.ofNat (1 + 3 * n.toNat) + Int.ofNat 1) + Int.ofNat 1)).toNat + 3 * n.toNat) + Int.ofNat 1) + Int.ofNat 1) != IntKind.i64.wrap (IntKind.i64.wrap (Int.ofNat ((IntKind.i64.wrap (IntKind.i64.wrap (Int.ofNat (1 + 3 * n.toNat) + Int.ofNat 1) + Int.ofNat 1)).toNat + 3 * n.toNat) + Int.ofNat 1) + Int.ofNat 1) && true)))))))))))))))))))))))))))))))))))))))))))))))))))))))), A.bool true) := by kernel_rfl
end Go.Fw.W1

/-
  Two rings: the law where there are none.
-/
namespace Go.Fw.W1
open Go.Proofs
noncomputable def pair38B (σ : St) : T := exec cfgPB (fun _ => true) (fun _ => none) 0 1000 (bodyOf Try.f38) σ
noncomputable def pair39B (σ : St) : T := exec cfgPB (fun _ => true) (fun _ => none) 0 1000 (bodyOf Try.f39) σ
noncomputable def fxPB : List (Nat × (St → T)) := [(38, pair38B), (39, pair39B)]
theorem fxPB_ok (g : Nat) (s : St → T) (fn : Func) (body : Code) (h1 : (g, s) ∈ fxPB) (h2 : (g, fn) ∈ ftsP) (h3 : fn.body = some body) : CodeOK Try.prog (fun _ σ => s σ) body := by
  have e : bodyOf fn = body := by unfold bodyOf; rw [h3]
  rw [← e]
  simp only [fxPB, List.mem_cons, Prod.mk.injEq, List.not_mem_nil, or_false] at h1
  simp only [ftsP, List.mem_cons, Prod.mk.injEq, List.not_mem_nil, or_false] at h2
  rcases h1 with ⟨rfl, rfl⟩ | ⟨rfl, rfl⟩
  · rcases h2 with ⟨_, rfl⟩ | ⟨h2, _⟩ | ⟨h2, _⟩ | ⟨h2, _⟩ | ⟨h2, _⟩ | ⟨h2, _⟩ <;> first | (exact codeOK_exec cfgPB_ok (lp_none _)) | omega
  · rcases h2 with ⟨h2, _⟩ | ⟨_, rfl⟩ | ⟨h2, _⟩ | ⟨h2, _⟩ | ⟨h2, _⟩ | ⟨h2, _⟩ <;> first | (exact codeOK_exec cfgPB_ok (lp_none _)) | omega
noncomputable def cfgPN : Cfg := mkCfgX tab ftsP xts (look envPB) fxPB
theorem cfgPN_ok : CfgOK Try.prog cfgPN := cfgX_ok tab_eq ftsP_ok xts_ok envPB_ok mixed fxPB_ok
noncomputable def wayN : List Bool := ways [109, 5, 7, 9, 12, 5, 3, 57, 5, 7, 9, 5, 3, 1]
theorem pairN (n : Int) (r g c : Nat) : autoG cfgPN 3 wayN Try.f9 [.int .i64 n, .flt .f32 r, .flt .f32 g, .flt .f32 c] =
    some ((bif bif !ringOk n r (fop BinOp.mul FloatKind.f32 (can FloatKind.f32 1056964608) g) c then true else !ringOk n r (fneg FloatKind.f32 (fop BinOp.mul FloatKind.f32 (can FloatKind.f32 1056964608) g)) c then true else !above g) && ((bif bif !ringOk n r (fop BinOp.mul FloatKind.f32 (can FloatKind.f32 1056964608) g) c then true else !ringOk n r (fop BinOp.mul FloatKind.f32 (can FloatKind.f32 3204448256) g) c then true else !above g) && (!false && ((bif bif !ringOk n r (fop BinOp.mul FloatKind.f32 (can FloatKind.f32 1056964608) g) c then true else !ringOk n r (fop BinOp.mul FloatKind.f32 (can FloatKind.f32 3204448256) g) c then true else !above g) && (!false && true)))), A.bool true) := by kernel_rfl
end Go.Fw.W1

/-
  Two rings: the law.
-/
namespace Go.Fw.W1
open Go.Proofs
theorem pairLaw1 (N : Nat) (h : N ≤ 48) : IntKind.i64.wrap (IntKind.i64.wrap (Int.ofNat (1 + 3 * N) + Int.ofNat 1) + Int.ofNat 1) = Int.ofNat (1 + 3 * N + 1 + 1) := by
  rw [wrap_succ (by omega), wrap_succ (by omega)]
theorem pairLaw2 (N : Nat) (h : N ≤ 48) : IntKind.i64.wrap (IntKind.i64.wrap (Int.ofNat ((IntKind.i64.wrap (IntKind.i64.wrap (Int.ofNat (1 + 3 * N) + Int.ofNat 1) + Int.ofNat 1)).toNat + 3 * N) + Int.ofNat 1) + Int.ofNat 1) = Int.ofNat (1 + 3 * N + 1 + 1 + 3 * N + 1 + 1) := by
  rw [pairLaw1 N h]
  show IntKind.i64.wrap (IntKind.i64.wrap (Int.ofNat (1 + 3 * N + 1 + 1 + 3 * N) + Int.ofNat 1) + Int.ofNat 1) = _
  rw [wrap_succ (by omega), wrap_succ (by omega)]
theorem pairLaw3 (N : Nat) (h : N ≤ 48) : decide (0 ≤ IntKind.i64.wrap (IntKind.i64.wrap (Int.ofNat (1 + 3 * N) + Int.ofNat 1) + Int.ofNat 1)) = true := by
  rw [pairLaw1 N h]; exact decide_eq_true (Int.natCast_nonneg _)
theorem pairLaw4 (N : Nat) (h : N ≤ 48) : (IntKind.i64.wrap (IntKind.i64.wrap (Int.ofNat (1 + 3 * N) + Int.ofNat 1) + Int.ofNat 1)).toNat.ble 1000000000 = true := by
  rw [pairLaw1 N h]; exact ble_of (show 1 + 3 * N + 1 + 1 ≤ 1000000000 by omega)
theorem pairLaw5 (N : Nat) (h : N ≤ 48) : (!decide (IntKind.i64.wrap (IntKind.i64.wrap (Int.ofNat ((IntKind.i64.wrap (IntKind.i64.wrap (Int.ofNat (1 + 3 * N) + Int.ofNat 1) + Int.ofNat 1)).toNat + 3 * N) + Int.ofNat 1) + Int.ofNat 1) < 0)) = true := by
  rw [pairLaw2 N h, decide_eq_false (show ¬ (Int.ofNat (1 + 3 * N + 1 + 1 + 3 * N + 1 + 1) < 0) from Int.not_lt.2 (Int.natCast_nonneg _))]; rfl
theorem pairLaw6 (x : Int) : (!(x != x)) = true := by simp
theorem pairLaw7 (p : Bool) : (!!(p == p)) = true := by simp
theorem pairLaw8 (x : Int) : (!(forder .f32 (fofInt .f32 x) (fofInt .f32 x) != some .eq)) = true := by rw [forder_int]; rfl
theorem law9' (n : Int) (r g c : Nat) : PureCall Try.prog 9 [.int .i64 n, .flt .f32 r, .flt .f32 g, .flt .f32 c] (.bool true) := by
  have keyT := (autoG_at (cfgP_ok lpP_ok) Try.func9 (by kernel_rfl) (by kernel_rfl)).2 _ _ _ (pairT n r g c)
  have keyN := (autoG_at cfgPN_ok Try.func9 (by kernel_rfl) (by kernel_rfl)).2 _ _ _ (pairN n r g c)
  rw [half_neg] at keyT keyN
  generalize hA : fop BinOp.mul FloatKind.f32 (can FloatKind.f32 1056964608) g = a at keyT keyN
  generalize hB : fneg FloatKind.f32 a = b at keyT keyN
  cases h1 : ringOk n r a c
  · rw [h1] at keyN; exact keyN rfl
  cases h2 : ringOk n r b c
  · rw [h1, h2] at keyN; exact keyN rfl
  cases h3 : above g
  · rw [h1, h2, h3] at keyN; exact keyN rfl
  obtain ⟨_, _, _, h4, h5⟩ := ring_ok h1
  have hN : n.toNat ≤ 48 := by omega
  refine keyT ?_
  rw [h1, h2, h3]
  simp only [Bool.and_eq_true]
  repeat' apply And.intro
  all_goals first
    | trivial
    | rfl
    | exact Nat.beq_refl _
    | exact ble_of (by omega)
    | exact allUpTo_all (sameVAt_self _ _ _) _
    | exact allUpTo_all (heldV_mk _) _
    | exact sameF_self _
    | exact pairLaw3 _ hN
    | exact pairLaw4 _ hN
    | exact pairLaw5 _ hN
    | exact pairLaw6 _
    | exact pairLaw7 _
    | exact pairLaw8 _
theorem law9 {i : Int} {a b d : A} (_hi : IntA i) (ha : FltA a) (hb : FltA b) (hd : FltA d) : PureCall Try.prog 9 [.int .i64 i, a, b, d] (.bool true) := by
  obtain ⟨r, _, rfl⟩ := ha
  obtain ⟨h, _, rfl⟩ := hb
  obtain ⟨c, _, rfl⟩ := hd
  exact law9' i r h c
end Go.Fw.W1

/-
  Vectors and wires that come in.
-/
namespace Go.Fw.W1
open Go.Proofs
open Go.RowKit (Below)

theorem own : ownKnob Try.prog.godebug = none := by kernel_rfl
theorem laidOut : laidOutB Try.prog = true := by kernel_rfl

theorem vec58 : VecT Try.prog 58 := by
  refine ⟨_, Try.underlying58, by kernel_rfl, by kernel_rfl, fun i hi => ?_⟩
  match i, hi with
  | 0, _ => exact ⟨_, rfl, rfl, by kernel_rfl, Try.underlying24⟩
  | 1, _ => exact ⟨_, rfl, rfl, by kernel_rfl, Try.underlying24⟩
  | 2, _ => exact ⟨_, rfl, rfl, by kernel_rfl, Try.underlying24⟩
  | i + 3, hi => omega
theorem wire45 : WireT Try.prog 45 :=
  ⟨_, _, _, _, 58, Try.underlying45, by kernel_rfl, by kernel_rfl, rfl, rfl, rfl, ⟨rfl, rfl, rfl⟩, ⟨by kernel_rfl, by kernel_rfl, by kernel_rfl⟩, Try.underlying22, vec58, Try.underlying4, Try.underlying24⟩

section
variable {H : Type} {enc : TypeId × Value → H} {w : World} {spare : Nat → Bool} {held : Bool}
set_option maxRecDepth 100000 in
theorem slice_cells {t e : TypeId} {r : Reach} {base : Nat} {v : Value} (ht : Try.prog.underlying t = some (.slice e)) (h : Value.okWide Try.prog w r base t v) : v.cells.toList = [v] := by
  obtain ⟨a, l, c, rfl⟩ := Go.WideShapes.okWide_slice ht h
  rfl
set_option maxRecDepth 100000 in
theorem in_vecsA {r : Reach} {base : Nat} {v : Value} {x : DataW H × List MemPlace} (hv : Value.okWide Try.prog w r base 22 v) (h : ∃ fuel, DataW.trod enc Try.prog w 0 spare held fuel 22 v.cells.toList = some x) :
    ∃ a, VecsA a ∧ RelD w (fun b => b < w.heap.size) v a := by
  obtain ⟨fuel, h⟩ := h
  rw [slice_cells Try.underlying22 hv] at h
  obtain ⟨u, n, xs, ys, zs, e, hn, _, hr⟩ := in_vecs Try.underlying22 vec58 h
  simp only [List.cons.injEq, and_true] at e
  subst e
  exact ⟨_, ⟨n, xs, ys, zs, hn, rfl⟩, hr⟩
set_option maxRecDepth 100000 in
theorem in_wiresA {r : Reach} {base : Nat} {v : Value} {x : DataW H × List MemPlace} (hv : Value.okWide Try.prog w r base 69 v) (h : ∃ fuel, DataW.trod enc Try.prog w 0 spare held fuel 69 v.cells.toList = some x) :
    ∃ a, WiresA a ∧ RelD w (fun b => b < w.heap.size) v a := by
  obtain ⟨fuel, h⟩ := h
  rw [slice_cells Try.underlying69 hv] at h
  obtain ⟨u, n, d, e, hn, hc, hr⟩ := in_wires Try.underlying69 wire45 h
  simp only [List.cons.injEq, and_true] at e
  subst e
  exact ⟨_, ⟨n, _, _, _, _, _, _, hn, fun i => (hc i).1, rfl⟩, hr⟩
theorem in_wireA {v : Value} {x : DataW H × List MemPlace} (h : ∃ fuel, DataW.trod enc Try.prog w 0 spare held fuel 45 v.cells.toList = some x) : ∃ a, WireA a ∧ RelD w (fun b => b < w.heap.size) v a := by
  obtain ⟨a, hc, hr⟩ := in_wire wire45 h
  exact ⟨_, ⟨_, _, _, _, _, _, hc.1, rfl⟩, hr⟩
theorem in_vecA {v : Value} {x : DataW H × List MemPlace} (h : ∃ fuel, DataW.trod enc Try.prog w 0 spare held fuel 58 v.cells.toList = some x) : ∃ a, VecA a ∧ RelD w (fun b => b < w.heap.size) v a := by
  obtain ⟨a, hc, hr⟩ := in_vec vec58 h
  exact ⟨_, ⟨_, _, _, hc.1, hc.2.1, hc.2.2, rfl⟩, hr⟩
theorem int_fits {n : Int} (h : (Lit.int .i64 n).wf = true) : IntA n := by
  simp only [Lit.wf, Bool.and_eq_true, decide_eq_true_eq] at h
  exact ⟨by have := h.1; simpa [IntKind.min, IntKind.bits, IntKind.signed] using this, by have := h.2; simpa [IntKind.max, IntKind.bits, IntKind.signed] using this⟩
end
end Go.Fw.W1
