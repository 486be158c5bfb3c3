/-
  Along paths: the inner loops.
-/
import Derived.Test.YtbfoochpinkpgaaLpB
import Derived.Test.YtbfoochpinkpgaaFwC
import Derived.Test.YtbfoochpinkpgaaLpA

namespace Go.Fw.W1
open Go.Proofs
noncomputable def atC (a u pp k : Nat) : Nat := fop .add .f32 a (fop .mul .f32 u (mid k pp))
noncomputable def okP (m : Nat) (n : Nat → Nat) (x y z : Nat → Nat → Nat) (cl : Nat → Bool) (cur : Nat → Nat) (a0 a1 a2 u0 u1 u2 pp k : Nat) : Bool := bif vfin (atC a0 u0 pp k) (atC a1 u1 pp k) (atC a2 u2 pp k) then fOkA m n x y z cl cur (atC a0 u0 pp k) (atC a1 u1 pp k) (atC a2 u2 pp k) else false
noncomputable def innR (m : Nat) (n : Nat → Nat) (x y z : Nat → Nat → Nat) (cl : Nat → Bool) (cur : Nat → Nat) (p q r v0 v1 v2 : Nat) : Nat := inn (faX n x y z cl cur p q r (st0 p q r p) m) (faY n x y z cl cur p q r (st0 p q r q) m) (faZ n x y z cl cur p q r (st0 p q r r) m) v0 v1 v2
noncomputable def innP (m : Nat) (n : Nat → Nat) (x y z : Nat → Nat → Nat) (cl : Nat → Bool) (cur : Nat → Nat) (p q r v0 v1 v2 : Nat) : Nat := inn (faX n x y z cl cur p q r 0 m) (faY n x y z cl cur p q r 0 m) (faZ n x y z cl cur p q r 0 m) v0 v1 v2
noncomputable def awS (m : Nat) (n : Nat → Nat) (x y z : Nat → Nat → Nat) (cl : Nat → Bool) (cur : Nat → Nat) (a0 a1 a2 u0 u1 u2 v0 v1 v2 pp s : Nat) : Nat → Nat
  | 0 => s
  | k + 1 => fop .add .f32 (awS m n x y z cl cur a0 a1 a2 u0 u1 u2 v0 v1 v2 pp s k) (innR m n x y z cl cur (atC a0 u0 pp k) (atC a1 u1 pp k) (atC a2 u2 pp k) v0 v1 v2)
noncomputable def apS (m : Nat) (n : Nat → Nat) (x y z : Nat → Nat → Nat) (cl : Nat → Bool) (cur : Nat → Nat) (a0 a1 a2 u0 u1 u2 v0 v1 v2 pp s : Nat) : Nat → Nat
  | 0 => s
  | k + 1 => fop .add .f32 (apS m n x y z cl cur a0 a1 a2 u0 u1 u2 v0 v1 v2 pp s k) (innP m n x y z cl cur (atC a0 u0 pp k) (atC a1 u1 pp k) (atC a2 u2 pp k) v0 v1 v2)
noncomputable def I59k (m : Nat) (n : Nat → Nat) (x y z : Nat → Nat → Nat) (cl : Nat → Bool) (cur : Nat → Nat) (n2 cur2 : Nat) (x2 y2 z2 : Nat → Nat) (cl2 : Bool) (a0 a1 a2 u0 u1 u2 v0 v1 v2 pp s i : Nat) (k : Nat) : List A := [.ro 3 m (.wires n x y z cl cur), .int .i64 (.ofNat pp), .ptr 400 0, .ptr 512 0, .ptr 624 0, .int .i64 (Int.ofNat k), .flt .f32 (awS m n x y z cl cur a0 a1 a2 u0 u1 u2 v0 v1 v2 pp s k), .int .i64 (.ofNat i), .ptr 0 0]
noncomputable def J59k (m : Nat) (n : Nat → Nat) (x y z : Nat → Nat → Nat) (cl : Nat → Bool) (cur : Nat → Nat) (n2 cur2 : Nat) (x2 y2 z2 : Nat → Nat) (cl2 : Bool) (a0 a1 a2 u0 u1 u2 v0 v1 v2 pp s i : Nat) (k : Nat) : List O := [.var [.flt .f32 a0, .flt .f32 a1, .flt .f32 a2], .var [.flt .f32 u0, .flt .f32 u1, .flt .f32 u2], .var [.flt .f32 v0, .flt .f32 v1, .flt .f32 v2], .var [.ro 3 n2 (.vecs .f32 x2 y2 z2), .bool cl2, .flt .f32 cur2]]
theorem round59k (m : Nat) (n : Nat → Nat) (x y z : Nat → Nat → Nat) (cl : Nat → Bool) (cur : Nat → Nat) (n2 cur2 : Nat) (x2 y2 z2 : Nat → Nat) (cl2 : Bool) (a0 a1 a2 u0 u1 u2 v0 v1 v2 pp s i : Nat) (k : Nat) (L : XK → List A → List (Option O) → Prop) :
    ((exec cfg31v (fun _ => true) (fun _ => none) 0 1000 (loopOf Try.f59 2) (litSt Try.f59.ntmps 672 [0, 2, 10, 12, 13, 14, 8, 9, 4] [400, 512, 624, 0] (I59k m n x y z cl cur n2 cur2 x2 y2 z2 cl2 a0 a1 a2 u0 u1 u2 v0 v1 v2 pp s i k) (J59k m n x y z cl cur n2 cur2 x2 y2 z2 cl2 a0 a1 a2 u0 u1 u2 v0 v1 v2 pp s i k))).rt [0, 2, 10, 12, 13, 14, 8, 9, 4] [400, 512, 624, 0]).Ok L =
    bif decide (Int.ofNat k < Int.ofNat pp) then
      bif m.ble 1048576 && allUpTo (smallW n) m && true then
        L (XK.normal) ([A.ro 3 m (Row.wires n x y z cl cur), A.int IntKind.i64 (Int.ofNat pp), A.ptr 400 0, A.ptr 512 0, A.ptr 624 0, A.int IntKind.i64 (IntKind.i64.wrap (Int.ofNat k + Int.ofNat 1)), A.flt FloatKind.f32 (fop BinOp.add FloatKind.f32 (awS m n x y z cl cur a0 a1 a2 u0 u1 u2 v0 v1 v2 pp s k) (inn (faX n x y z cl cur (fop BinOp.add FloatKind.f32 a0 (fop BinOp.mul FloatKind.f32 u0 (fop BinOp.quo FloatKind.f32 (fop BinOp.add FloatKind.f32 (fofInt FloatKind.f32 (Int.ofNat k)) (can FloatKind.f32 1056964608)) (fofInt FloatKind.f32 (Int.ofNat pp))))) (fop BinOp.add FloatKind.f32 a1 (fop BinOp.mul FloatKind.f32 u1 (fop BinOp.quo FloatKind.f32 (fop BinOp.add FloatKind.f32 (fofInt FloatKind.f32 (Int.ofNat k)) (can FloatKind.f32 1056964608)) (fofInt FloatKind.f32 (Int.ofNat pp))))) (fop BinOp.add FloatKind.f32 a2 (fop BinOp.mul FloatKind.f32 u2 (fop BinOp.quo FloatKind.f32 (fop BinOp.add FloatKind.f32 (fofInt FloatKind.f32 (Int.ofNat k)) (can FloatKind.f32 1056964608)) (fofInt FloatKind.f32 (Int.ofNat pp))))) (st0 (fop BinOp.add FloatKind.f32 a0 (fop BinOp.mul FloatKind.f32 u0 (fop BinOp.quo FloatKind.f32 (fop BinOp.add FloatKind.f32 (fofInt FloatKind.f32 (Int.ofNat k)) (can FloatKind.f32 1056964608)) (fofInt FloatKind.f32 (Int.ofNat pp))))) (fop BinOp.add FloatKind.f32 a1 (fop BinOp.mul FloatKind.f32 u1 (fop BinOp.quo FloatKind.f32 (fop BinOp.add FloatKind.f32 (fofInt FloatKind.f32 (Int.ofNat k)) (can FloatKind.f32 1056964608)) (fofInt FloatKind.f32 (Int.ofNat pp))))) (fop BinOp.add FloatKind.f32 a2 (fop BinOp.mul FloatKind.f32 u2 (fop BinOp.quo FloatKind.f32 (fop BinOp.add FloatKind.f32 (fofInt FloatKind.f32 (Int.ofNat k)) (can FloatKind.f32 1056964608)) (fofInt FloatKind.f32 (Int.ofNat pp))))) (fop BinOp.add FloatKind.f32 a0 (fop BinOp.mul FloatKind.f32 u0 (fop BinOp.quo FloatKind.f32 (fop BinOp.add FloatKind.f32 (fofInt FloatKind.f32 (Int.ofNat k)) (can FloatKind.f32 1056964608)) (fofInt FloatKind.f32 (Int.ofNat pp)))))) m) (faY n x y z cl cur (fop BinOp.add FloatKind.f32 a0 (fop BinOp.mul FloatKind.f32 u0 (fop BinOp.quo FloatKind.f32 (fop BinOp.add FloatKind.f32 (fofInt FloatKind.f32 (Int.ofNat k)) (can FloatKind.f32 1056964608)) (fofInt FloatKind.f32 (Int.ofNat pp))))) (fop BinOp.add FloatKind.f32 a1 (fop BinOp.mul FloatKind.f32 u1 (fop BinOp.quo FloatKind.f32 (fop BinOp.add FloatKind.f32 (fofInt FloatKind.f32 (Int.ofNat k)) (can FloatKind.f32 1056964608)) (fofInt FloatKind.f32 (Int.ofNat pp))))) (fop BinOp.add FloatKind.f32 a2 (fop BinOp.mul FloatKind.f32 u2 (fop BinOp.quo FloatKind.f32 (fop BinOp.add FloatKind.f32 (fofInt FloatKind.f32 (Int.ofNat k)) (can FloatKind.f32 1056964608)) (fofInt FloatKind.f32 (Int.ofNat pp))))) (st0 (fop BinOp.add FloatKind.f32 a0 (fop BinOp.mul FloatKind.f32 u0 (fop BinOp.quo FloatKind.f32 (fop BinOp.add FloatKind.f32 (fofInt FloatKind.f32 (Int.ofNat k)) (can FloatKind.f32 1056964608)) (fofInt FloatKind.f32 (Int.ofNat pp))))) (fop BinOp.add FloatKind.f32 a1 (fop BinOp.mul FloatKind.f32 u1 (fop BinOp.quo FloatKind.f32 (fop BinOp.add FloatKind.f32 (fofInt FloatKind.f32 (Int.ofNat k)) (can FloatKind.f32 1056964608)) (fofInt FloatKind.f32 (Int.ofNat pp))))) (fop BinOp.add FloatKind.f32 a2 (fop BinOp.mul FloatKind.f32 u2 (fop BinOp.quo FloatKind.f32 (fop BinOp.add FloatKind.f32 (fofInt FloatKind.f32 (Int.ofNat k)) (can FloatKind.f32 1056964608)) (fofInt FloatKind.f32 (Int.ofNat pp))))) (fop BinOp.add FloatKind.f32 a1 (fop BinOp.mul FloatKind.f32 u1 (fop BinOp.quo FloatKind.f32 (fop BinOp.add FloatKind.f32 (fofInt FloatKind.f32 (Int.ofNat k)) (can FloatKind.f32 1056964608)) (fofInt FloatKind.f32 (Int.ofNat pp)))))) m) (faZ n x y z cl cur (fop BinOp.add FloatKind.f32 a0 (fop BinOp.mul FloatKind.f32 u0 (fop BinOp.quo FloatKind.f32 (fop BinOp.add FloatKind.f32 (fofInt FloatKind.f32 (Int.ofNat k)) (can FloatKind.f32 1056964608)) (fofInt FloatKind.f32 (Int.ofNat pp))))) (fop BinOp.add FloatKind.f32 a1 (fop BinOp.mul FloatKind.f32 u1 (fop BinOp.quo FloatKind.f32 (fop BinOp.add FloatKind.f32 (fofInt FloatKind.f32 (Int.ofNat k)) (can FloatKind.f32 1056964608)) (fofInt FloatKind.f32 (Int.ofNat pp))))) (fop BinOp.add FloatKind.f32 a2 (fop BinOp.mul FloatKind.f32 u2 (fop BinOp.quo FloatKind.f32 (fop BinOp.add FloatKind.f32 (fofInt FloatKind.f32 (Int.ofNat k)) (can FloatKind.f32 1056964608)) (fofInt FloatKind.f32 (Int.ofNat pp))))) (st0 (fop BinOp.add FloatKind.f32 a0 (fop BinOp.mul FloatKind.f32 u0 (fop BinOp.quo FloatKind.f32 (fop BinOp.add FloatKind.f32 (fofInt FloatKind.f32 (Int.ofNat k)) (can FloatKind.f32 1056964608)) (fofInt FloatKind.f32 (Int.ofNat pp))))) (fop BinOp.add FloatKind.f32 a1 (fop BinOp.mul FloatKind.f32 u1 (fop BinOp.quo FloatKind.f32 (fop BinOp.add FloatKind.f32 (fofInt FloatKind.f32 (Int.ofNat k)) (can FloatKind.f32 1056964608)) (fofInt FloatKind.f32 (Int.ofNat pp))))) (fop BinOp.add FloatKind.f32 a2 (fop BinOp.mul FloatKind.f32 u2 (fop BinOp.quo FloatKind.f32 (fop BinOp.add FloatKind.f32 (fofInt FloatKind.f32 (Int.ofNat k)) (can FloatKind.f32 1056964608)) (fofInt FloatKind.f32 (Int.ofNat pp))))) (fop BinOp.add FloatKind.f32 a2 (fop BinOp.mul FloatKind.f32 u2 (fop BinOp.quo FloatKind.f32 (fop BinOp.add FloatKind.f32 (fofInt FloatKind.f32 (Int.ofNat k)) (can FloatKind.f32 1056964608)) (fofInt FloatKind.f32 (Int.ofNat pp)))))) m) v0 v1 v2)), A.int IntKind.i64 (Int.ofNat i), A.ptr 0 0]) ([some (O.var [A.flt FloatKind.f32 a0, A.flt FloatKind.f32 a1, A.flt FloatKind.f32 a2]), some (O.var [A.flt FloatKind.f32 u0, A.flt FloatKind.f32 u1, A.flt FloatKind.f32 u2]), some (O.var [A.flt FloatKind.f32 v0, A.flt FloatKind.f32 v1, A.flt FloatKind.f32 v2]), some (O.var [A.ro 3 n2 (Row.vecs FloatKind.f32 x2 y2 z2), A.bool cl2, A.flt FloatKind.f32 cur2])])
      else
        False
    else
      L (XK.exit 2) ([A.ro 3 m (Row.wires n x y z cl cur), A.int IntKind.i64 (Int.ofNat pp), A.ptr 400 0, A.ptr 512 0, A.ptr 624 0, A.int IntKind.i64 (Int.ofNat k), A.flt FloatKind.f32 (awS m n x y z cl cur a0 a1 a2 u0 u1 u2 v0 v1 v2 pp s k), A.int IntKind.i64 (Int.ofNat i), A.ptr 0 0]) ([some (O.var [A.flt FloatKind.f32 a0, A.flt FloatKind.f32 a1, A.flt FloatKind.f32 a2]), some (O.var [A.flt FloatKind.f32 u0, A.flt FloatKind.f32 u1, A.flt FloatKind.f32 u2]), some (O.var [A.flt FloatKind.f32 v0, A.flt FloatKind.f32 v1, A.flt FloatKind.f32 v2]), some (O.var [A.ro 3 n2 (Row.vecs FloatKind.f32 x2 y2 z2), A.bool cl2, A.flt FloatKind.f32 cur2])]) := by kernel_rfl
noncomputable def F59k : List A → List (Option O) → Option R3
  | [.ro 3 m (.wires n x y z cl cur), .int .i64 (.ofNat pp), .ptr 400 0, .ptr 512 0, .ptr 624 0, .int .i64 0, .flt .f32 s, .int .i64 (.ofNat i), .ptr 0 0], [some (.var [.flt .f32 a0, .flt .f32 a1, .flt .f32 a2]), some (.var [.flt .f32 u0, .flt .f32 u1, .flt .f32 u2]), some (.var [.flt .f32 v0, .flt .f32 v1, .flt .f32 v2]), some (.var [.ro 3 n2 (.vecs .f32 x2 y2 z2), .bool cl2, .flt .f32 cur2])] => some (.ite (Nat.ble m 1048576 && allUpTo (smallW n) m && Nat.ble pp 32) (.leaf .normal (I59k m n x y z cl cur n2 cur2 x2 y2 z2 cl2 a0 a1 a2 u0 u1 u2 v0 v1 v2 pp s i (pp)) (J59k m n x y z cl cur n2 cur2 x2 y2 z2 cl2 a0 a1 a2 u0 u1 u2 v0 v1 v2 pp s i (pp))) .fail)
  | _, _ => none
theorem loop59k : CodeOK Try.prog (fun _ σ => sumAt Try.f59.ntmps 672 [0, 2, 10, 12, 13, 14, 8, 9, 4] [400, 512, 624, 0] F59k σ) (.block 2 (.loop (loopOf Try.f59 2))) := by
  refine block_ok (own := fun _ => true) (lp := (fun _ => none)) (un := 0) (fuel := 1000) cfg31v_ok (lp_none _) fun az os R hF hok => ?_
  unfold F59k at hF
  split at hF
  · rename_i m n x y z cl cur pp s i a0 a1 a2 u0 u1 u2 v0 v1 v2 n2 x2 y2 z2 cl2 cur2
    injection hF with hF
    subst hF
    have hg := hok.guard
    have hg' := hg
    simp only [Bool.and_eq_true, Nat.ble_eq, Nat.beq_eq, decide_eq_true_eq] at hg'
    obtain ⟨⟨hm, hsm⟩, hpp⟩ := hg'
    refine for_fact (ids := [400, 512, 624, 0]) (fun _ => true) (pp) (I59k m n x y z cl cur n2 cur2 x2 y2 z2 cl2 a0 a1 a2 u0 u1 u2 v0 v1 v2 pp s i) (J59k m n x y z cl cur n2 cur2 x2 y2 z2 cl2 a0 a1 a2 u0 u1 u2 v0 v1 v2 pp s i) _ (.ret) (I59k m n x y z cl cur n2 cur2 x2 y2 z2 cl2 a0 a1 a2 u0 u1 u2 v0 v1 v2 pp s i) (I59k m n x y z cl cur n2 cur2 x2 y2 z2 cl2 a0 a1 a2 u0 u1 u2 v0 v1 v2 pp s i) (I59k m n x y z cl cur n2 cur2 x2 y2 z2 cl2 a0 a1 a2 u0 u1 u2 v0 v1 v2 pp s i (pp)) (J59k m n x y z cl cur n2 cur2 x2 y2 z2 cl2 a0 a1 a2 u0 u1 u2 v0 v1 v2 pp s i (pp)) rfl (OSims.self _) (fun _ => rfl) (fun _ => rfl) (fun _ => ALe.self _) (fun _ => rfl) (ALe.self _) (OSims.self _) rfl (fun h => by cases h) (fun k hk L h1 h2 h3 => ?_) fun L hL => ?_
    · rw [round59k]

      by_cases hkm : k < pp
      · refine condT (lt_dec hkm) ?_
        rw [wrap_succ (by omega)]
        refine condT (by rw [ble_of hm, hsm]; rfl) ?_
        exact h1 hkm rfl _ (OSims.self (J59k m n x y z cl cur n2 cur2 x2 y2 z2 cl2 a0 a1 a2 u0 u1 u2 v0 v1 v2 pp s i (k + 1)))
      · refine condE (ge_dec (by omega)) ?_
        obtain rfl : k = pp := by omega
        exact h3 rfl
    · exact ⟨fun _ => hL.1 hg, fun N _ h => by cases h⟩
  · cases hF

noncomputable def I60k (m : Nat) (n : Nat → Nat) (x y z : Nat → Nat → Nat) (cl : Nat → Bool) (cur : Nat → Nat) (gg : Nat → Nat → Nat) (l a b c u v w pp s i e6 : Nat) (k : Nat) : List A := [.ro 3 m (.wires n x y z cl cur), .int .i64 (.ofNat pp), .ptr 384 0, .int .i64 (Int.ofNat pp), .int .i64 (Int.ofNat k), .flt .f32 (apS m n x y z cl cur a b c (fop .sub .f32 u a) (fop .sub .f32 v b) (fop .sub .f32 w c) (fop .mul .f32 (fop .sub .f32 u a) (inv pp)) (fop .mul .f32 (fop .sub .f32 v b) (inv pp)) (fop .mul .f32 (fop .sub .f32 w c) (inv pp)) pp s k), .sl 288 l, .int .i64 (Int.ofNat l), .int .i64 (.ofNat i), .flt .f32 e6, .bool false]
noncomputable def J60k (m : Nat) (n : Nat → Nat) (x y z : Nat → Nat → Nat) (cl : Nat → Bool) (cur : Nat → Nat) (gg : Nat → Nat → Nat) (l a b c u v w pp s i e6 : Nat) (k : Nat) : List O := [.var [.flt .f32 a, .flt .f32 b, .flt .f32 c, .flt .f32 u, .flt .f32 v, .flt .f32 w], .row 0 6 l (.flns .f32 6 gg)]
theorem round60k (m : Nat) (n : Nat → Nat) (x y z : Nat → Nat → Nat) (cl : Nat → Bool) (cur : Nat → Nat) (gg : Nat → Nat → Nat) (l a b c u v w pp s i e6 : Nat) (k : Nat) (L : XK → List A → List (Option O) → Prop) :
    ((exec cfg31v (fun _ => true) (fun _ => none) 0 1000 (loopOf Try.f60 2) (litSt Try.f60.ntmps 448 [0, 2, 10, 34, 35, 8, 28, 29, 30, 6, 7] [384, 288] (I60k m n x y z cl cur gg l a b c u v w pp s i e6 k) (J60k m n x y z cl cur gg l a b c u v w pp s i e6 k))).rt [0, 2, 10, 34, 35, 8, 28, 29, 30, 6, 7] [384, 288]).Ok L =
    bif decide (Int.ofNat k < Int.ofNat pp) then
      bif m.ble 1048576 && allUpTo (smallW n) m then
        bif !bif vfin (pcS a b c u v w pp k 3) (pcS a b c u v w pp k 4) (pcS a b c u v w pp k 5) then fOkA m n x y z cl cur (pcS a b c u v w pp k 3) (pcS a b c u v w pp k 4) (pcS a b c u v w pp k 5) else false then
          L (XK.ret) ([A.ro 3 m (Row.wires n x y z cl cur), A.int IntKind.i64 (Int.ofNat pp), A.ptr 384 0, A.int IntKind.i64 (Int.ofNat pp), A.int IntKind.i64 (Int.ofNat k), A.flt FloatKind.f32 (apS m n x y z cl cur a b c (fop BinOp.sub FloatKind.f32 u a) (fop BinOp.sub FloatKind.f32 v b) (fop BinOp.sub FloatKind.f32 w c) (fop BinOp.mul FloatKind.f32 (fop BinOp.sub FloatKind.f32 u a) (inv pp)) (fop BinOp.mul FloatKind.f32 (fop BinOp.sub FloatKind.f32 v b) (inv pp)) (fop BinOp.mul FloatKind.f32 (fop BinOp.sub FloatKind.f32 w c) (inv pp)) pp s k), A.sl 288 l, A.int IntKind.i64 (Int.ofNat l), A.int IntKind.i64 (Int.ofNat i), A.flt FloatKind.f32 (can FloatKind.f32 0), A.bool false]) ([some (O.var [A.flt FloatKind.f32 a, A.flt FloatKind.f32 b, A.flt FloatKind.f32 c, A.flt FloatKind.f32 u, A.flt FloatKind.f32 v, A.flt FloatKind.f32 w]), some (O.row 0 6 l (Row.flns FloatKind.f32 6 gg))])
        else
          L (XK.normal) ([A.ro 3 m (Row.wires n x y z cl cur), A.int IntKind.i64 (Int.ofNat pp), A.ptr 384 0, A.int IntKind.i64 (Int.ofNat pp), A.int IntKind.i64 (IntKind.i64.wrap (Int.ofNat k + Int.ofNat 1)), A.flt FloatKind.f32 (fop BinOp.add FloatKind.f32 (apS m n x y z cl cur a b c (fop BinOp.sub FloatKind.f32 u a) (fop BinOp.sub FloatKind.f32 v b) (fop BinOp.sub FloatKind.f32 w c) (fop BinOp.mul FloatKind.f32 (fop BinOp.sub FloatKind.f32 u a) (inv pp)) (fop BinOp.mul FloatKind.f32 (fop BinOp.sub FloatKind.f32 v b) (inv pp)) (fop BinOp.mul FloatKind.f32 (fop BinOp.sub FloatKind.f32 w c) (inv pp)) pp s k) (inn (faX n x y z cl cur (pcS a b c u v w pp k 3) (pcS a b c u v w pp k 4) (pcS a b c u v w pp k 5) 0 m) (faY n x y z cl cur (pcS a b c u v w pp k 3) (pcS a b c u v w pp k 4) (pcS a b c u v w pp k 5) 0 m) (faZ n x y z cl cur (pcS a b c u v w pp k 3) (pcS a b c u v w pp k 4) (pcS a b c u v w pp k 5) 0 m) (pcS a b c u v w pp 0 0) (pcS a b c u v w pp 0 1) (pcS a b c u v w pp 0 2))), A.sl 288 l, A.int IntKind.i64 (Int.ofNat l), A.int IntKind.i64 (Int.ofNat i), A.flt FloatKind.f32 e6, A.bool false]) ([some (O.var [A.flt FloatKind.f32 a, A.flt FloatKind.f32 b, A.flt FloatKind.f32 c, A.flt FloatKind.f32 u, A.flt FloatKind.f32 v, A.flt FloatKind.f32 w]), some (O.row 0 6 l (Row.flns FloatKind.f32 6 gg))])
      else
        False
    else
      L (XK.exit 2) ([A.ro 3 m (Row.wires n x y z cl cur), A.int IntKind.i64 (Int.ofNat pp), A.ptr 384 0, A.int IntKind.i64 (Int.ofNat pp), A.int IntKind.i64 (Int.ofNat k), A.flt FloatKind.f32 (apS m n x y z cl cur a b c (fop BinOp.sub FloatKind.f32 u a) (fop BinOp.sub FloatKind.f32 v b) (fop BinOp.sub FloatKind.f32 w c) (fop BinOp.mul FloatKind.f32 (fop BinOp.sub FloatKind.f32 u a) (inv pp)) (fop BinOp.mul FloatKind.f32 (fop BinOp.sub FloatKind.f32 v b) (inv pp)) (fop BinOp.mul FloatKind.f32 (fop BinOp.sub FloatKind.f32 w c) (inv pp)) pp s k), A.sl 288 l, A.int IntKind.i64 (Int.ofNat l), A.int IntKind.i64 (Int.ofNat i), A.flt FloatKind.f32 e6, A.bool false]) ([some (O.var [A.flt FloatKind.f32 a, A.flt FloatKind.f32 b, A.flt FloatKind.f32 c, A.flt FloatKind.f32 u, A.flt FloatKind.f32 v, A.flt FloatKind.f32 w]), some (O.row 0 6 l (Row.flns FloatKind.f32 6 gg))]) := by kernel_rfl
noncomputable def F60k : List A → List (Option O) → Option R3
  | [.ro 3 m (.wires n x y z cl cur), .int .i64 (.ofNat pp), .ptr 384 0, .int .i64 q, .int .i64 0, .flt .f32 s, .sl 288 l, .int .i64 l2, .int .i64 (.ofNat i), .flt .f32 e6, .bool false], [some (.var [.flt .f32 a, .flt .f32 b, .flt .f32 c, .flt .f32 u, .flt .f32 v, .flt .f32 w]), some (.row 0 6 l3 (.flns .f32 6 gg))] => some (.ite (decide (q = Int.ofNat pp) && decide (l2 = Int.ofNat l) && Nat.beq l l3 && Nat.ble m 1048576 && allUpTo (smallW n) m && Nat.ble pp 32) (.ite (allUpTo (okP m n x y z cl cur a b c (fop .sub .f32 u a) (fop .sub .f32 v b) (fop .sub .f32 w c) pp) (pp)) (.leaf .normal (I60k m n x y z cl cur gg l a b c u v w pp s i e6 (pp)) (J60k m n x y z cl cur gg l a b c u v w pp s i e6 (pp))) (.leaf (.ret) ((fun k => [.ro 3 m (.wires n x y z cl cur), .int .i64 (.ofNat pp), .ptr 384 0, .int .i64 (Int.ofNat pp), .int .i64 (Int.ofNat k), .flt .f32 (apS m n x y z cl cur a b c (fop .sub .f32 u a) (fop .sub .f32 v b) (fop .sub .f32 w c) (fop .mul .f32 (fop .sub .f32 u a) (inv pp)) (fop .mul .f32 (fop .sub .f32 v b) (inv pp)) (fop .mul .f32 (fop .sub .f32 w c) (inv pp)) pp s k), .sl 288 l, .int .i64 (Int.ofNat l), .int .i64 (.ofNat i), .flt .f32 (can .f32 0), .bool false]) (firstIdx (okP m n x y z cl cur a b c (fop .sub .f32 u a) (fop .sub .f32 v b) (fop .sub .f32 w c) pp) (pp))) (J60k m n x y z cl cur gg l a b c u v w pp s i e6 (firstIdx (okP m n x y z cl cur a b c (fop .sub .f32 u a) (fop .sub .f32 v b) (fop .sub .f32 w c) pp) (pp))))) .fail)
  | _, _ => none
theorem loop60k : CodeOK Try.prog (fun _ σ => sumAt Try.f60.ntmps 448 [0, 2, 10, 34, 35, 8, 28, 29, 30, 6, 7] [384, 288] F60k σ) (.block 2 (.loop (loopOf Try.f60 2))) := by
  refine block_ok (own := fun _ => true) (lp := (fun _ => none)) (un := 0) (fuel := 1000) cfg31v_ok (lp_none _) fun az os R hF hok => ?_
  unfold F60k at hF
  split at hF
  · rename_i m n x y z cl cur pp q s l l2 i e6 a b c u v w l3 gg
    injection hF with hF
    subst hF
    have hg := hok.guard
    have hg' := hg
    simp only [Bool.and_eq_true, Nat.ble_eq, Nat.beq_eq, decide_eq_true_eq] at hg'
    obtain ⟨⟨⟨⟨⟨rfl, rfl⟩, rfl⟩, hm⟩, hsm⟩, hpp⟩ := hg'
    refine for_fact (ids := [384, 288]) (okP m n x y z cl cur a b c (fop .sub .f32 u a) (fop .sub .f32 v b) (fop .sub .f32 w c) pp) (pp) (I60k m n x y z cl cur gg l a b c u v w pp s i e6) (J60k m n x y z cl cur gg l a b c u v w pp s i e6) _ (.ret) (fun k => [.ro 3 m (.wires n x y z cl cur), .int .i64 (.ofNat pp), .ptr 384 0, .int .i64 (Int.ofNat pp), .int .i64 (Int.ofNat k), .flt .f32 (apS m n x y z cl cur a b c (fop .sub .f32 u a) (fop .sub .f32 v b) (fop .sub .f32 w c) (fop .mul .f32 (fop .sub .f32 u a) (inv pp)) (fop .mul .f32 (fop .sub .f32 v b) (inv pp)) (fop .mul .f32 (fop .sub .f32 w c) (inv pp)) pp s k), .sl 288 l, .int .i64 (Int.ofNat l), .int .i64 (.ofNat i), .flt .f32 (can .f32 0), .bool false]) (fun k => [.ro 3 m (.wires n x y z cl cur), .int .i64 (.ofNat pp), .ptr 384 0, .int .i64 (Int.ofNat pp), .int .i64 (Int.ofNat k), .flt .f32 (apS m n x y z cl cur a b c (fop .sub .f32 u a) (fop .sub .f32 v b) (fop .sub .f32 w c) (fop .mul .f32 (fop .sub .f32 u a) (inv pp)) (fop .mul .f32 (fop .sub .f32 v b) (inv pp)) (fop .mul .f32 (fop .sub .f32 w c) (inv pp)) pp s k), .sl 288 l, .int .i64 (Int.ofNat l), .int .i64 (.ofNat i), .flt .f32 (can .f32 0), .bool false]) (I60k m n x y z cl cur gg l a b c u v w pp s i e6 (pp)) (J60k m n x y z cl cur gg l a b c u v w pp s i e6 (pp)) rfl (OSims.self _) (fun _ => rfl) (fun _ => rfl) (fun _ => ALe.self _) (fun _ => rfl) (ALe.self _) (OSims.self _) rfl (fun h => by cases h) (fun k hk L h1 h2 h3 => ?_) fun L hL => ?_
    · rw [round60k]

      by_cases hkm : k < pp
      · refine condT (lt_dec hkm) ?_
        rw [wrap_succ (by omega)]
        refine condT (by rw [ble_of hm, hsm]; rfl) ?_
        show cond (!(okP m n x y z cl cur a b c (fop .sub .f32 u a) (fop .sub .f32 v b) (fop .sub .f32 w c) pp k)) _ _
        cases hs : okP m n x y z cl cur a b c (fop .sub .f32 u a) (fop .sub .f32 v b) (fop .sub .f32 w c) pp k
        · exact h2 hkm hs
        · exact h1 hkm hs _ (OSims.self (J60k m n x y z cl cur gg l a b c u v w pp s i e6 (k + 1)))
      · refine condE (ge_dec (by omega)) ?_
        obtain rfl : k = pp := by omega
        exact h3 rfl
    · exact ⟨fun h => (hL.1 hg).1 h, fun N hN hf hall => by
        have := (hL.1 hg).2 (allUpTo_false hN hf)
        rw [firstIdx_eq hN hf hall] at this
        exact this⟩
  · cases hF

end Go.Fw.W1

/-
  Along paths: the outer loops.
-/
namespace Go.Fw.W1
open Go.Proofs
noncomputable def arR (m : Nat) (n : Nat → Nat) (x y z : Nat → Nat → Nat) (cl : Nat → Bool) (cur : Nat → Nat) (gg : Nat → Nat → Nat) (pp s : Nat) : Nat → Nat
  | 0 => s
  | i + 1 => awS m n x y z cl cur (gg i 0) (gg i 1) (gg i 2) (fop .sub .f32 (gg i 3) (gg i 0)) (fop .sub .f32 (gg i 4) (gg i 1)) (fop .sub .f32 (gg i 5) (gg i 2)) (fop .mul .f32 (fop .sub .f32 (gg i 3) (gg i 0)) (inv pp)) (fop .mul .f32 (fop .sub .f32 (gg i 4) (gg i 1)) (inv pp)) (fop .mul .f32 (fop .sub .f32 (gg i 5) (gg i 2)) (inv pp)) pp (arR m n x y z cl cur gg pp s i) pp
noncomputable def apR (m : Nat) (n : Nat → Nat) (x y z : Nat → Nat → Nat) (cl : Nat → Bool) (cur : Nat → Nat) (gg : Nat → Nat → Nat) (pp s : Nat) : Nat → Nat
  | 0 => s
  | i + 1 => apS m n x y z cl cur (gg i 0) (gg i 1) (gg i 2) (fop .sub .f32 (gg i 3) (gg i 0)) (fop .sub .f32 (gg i 4) (gg i 1)) (fop .sub .f32 (gg i 5) (gg i 2)) (fop .mul .f32 (fop .sub .f32 (gg i 3) (gg i 0)) (inv pp)) (fop .mul .f32 (fop .sub .f32 (gg i 4) (gg i 1)) (inv pp)) (fop .mul .f32 (fop .sub .f32 (gg i 5) (gg i 2)) (inv pp)) pp (apR m n x y z cl cur gg pp s i) pp

noncomputable def okI (m : Nat) (n : Nat → Nat) (x y z : Nat → Nat → Nat) (cl : Nat → Bool) (cur : Nat → Nat) (gg : Nat → Nat → Nat) (pp i : Nat) : Bool := allUpTo (okP m n x y z cl cur (gg i 0) (gg i 1) (gg i 2) (fop .sub .f32 (gg i 3) (gg i 0)) (fop .sub .f32 (gg i 4) (gg i 1)) (fop .sub .f32 (gg i 5) (gg i 2)) pp) pp
noncomputable def lpi59i : List (Nat × (St → T)) := [(2, sumAt Try.f59.ntmps 672 [0, 2, 10, 12, 13, 14, 8, 9, 4] [400, 512, 624, 0] F59k)]
theorem lpi59i_ok : LpOK Try.prog (look lpi59i) (loopOf Try.f59 0) := lp_in (lp_loops (by kernel_rfl) (by kernel_rfl) fun p hp => by
  simp only [lpi59i, List.mem_cons, List.not_mem_nil, or_false] at hp
  rcases hp with rfl
  · exact loop59k) _
noncomputable def I59i (m : Nat) (n : Nat → Nat) (x y z : Nat → Nat → Nat) (cl : Nat → Bool) (cur : Nat → Nat) (n2 cur2 : Nat) (x2 y2 z2 : Nat → Nat) (cl2 : Bool) (pp s : Nat) (k : Nat) : List A := [.ro 3 m (.wires n x y z cl cur), .int .i64 (.ofNat pp), .ptr 0 0, .flt .f32 (arR m n x y z cl cur (sg n2 x2 y2 z2) pp s k), .int .i64 (Int.ofNat k)]
noncomputable def J59i (m : Nat) (n : Nat → Nat) (x y z : Nat → Nat → Nat) (cl : Nat → Bool) (cur : Nat → Nat) (n2 cur2 : Nat) (x2 y2 z2 : Nat → Nat) (cl2 : Bool) (pp s : Nat) (k : Nat) : List O := [.var [.ro 3 n2 (.vecs .f32 x2 y2 z2), .bool cl2, .flt .f32 cur2]]
theorem round59i (m : Nat) (n : Nat → Nat) (x y z : Nat → Nat → Nat) (cl : Nat → Bool) (cur : Nat → Nat) (n2 cur2 : Nat) (x2 y2 z2 : Nat → Nat) (cl2 : Bool) (pp s : Nat) (k : Nat) (L : XK → List A → List (Option O) → Prop) :
    ((exec cfg31v (fun _ => true) (look lpi59i) 0 1000 (loopOf Try.f59 0) (litSt Try.f59.ntmps 272 [0, 2, 4, 8, 9] [0] (I59i m n x y z cl cur n2 cur2 x2 y2 z2 cl2 pp s k) (J59i m n x y z cl cur n2 cur2 x2 y2 z2 cl2 pp s k))).rt [0, 2, 4, 8, 9] [0]).Ok L =
    bif Nat.ble 1 n2 && n2.ble 4611686018427387000 then
      bif decide (Int.ofNat k < Int.ofNat (cnt n2 cl2)) then
        bif k.blt n2 && n2.ble 4611686018427387000 then
          bif m.ble 1048576 && allUpTo (smallW n) m && pp.ble 32 then
            L (XK.normal) ([A.ro 3 m (Row.wires n x y z cl cur), A.int IntKind.i64 (Int.ofNat pp), A.ptr 0 0, A.flt FloatKind.f32 (awS m n x y z cl cur (x2 k) (y2 k) (z2 k) (fop BinOp.sub FloatKind.f32 (x2 (nx n2 k)) (x2 k)) (fop BinOp.sub FloatKind.f32 (y2 (nx n2 k)) (y2 k)) (fop BinOp.sub FloatKind.f32 (z2 (nx n2 k)) (z2 k)) (fop BinOp.mul FloatKind.f32 (fop BinOp.sub FloatKind.f32 (x2 (nx n2 k)) (x2 k)) (fop BinOp.quo FloatKind.f32 (can FloatKind.f32 1065353216) (fofInt FloatKind.f32 (Int.ofNat pp)))) (fop BinOp.mul FloatKind.f32 (fop BinOp.sub FloatKind.f32 (y2 (nx n2 k)) (y2 k)) (fop BinOp.quo FloatKind.f32 (can FloatKind.f32 1065353216) (fofInt FloatKind.f32 (Int.ofNat pp)))) (fop BinOp.mul FloatKind.f32 (fop BinOp.sub FloatKind.f32 (z2 (nx n2 k)) (z2 k)) (fop BinOp.quo FloatKind.f32 (can FloatKind.f32 1065353216) (fofInt FloatKind.f32 (Int.ofNat pp)))) pp (arR m n x y z cl cur (sg n2 x2 y2 z2) pp s k) pp), A.int IntKind.i64 (IntKind.i64.wrap (Int.ofNat k + Int.ofNat 1))]) ([some (O.var [A.ro 3 n2 (Row.vecs FloatKind.f32 x2 y2 z2), A.bool cl2, A.flt FloatKind.f32 cur2])])
          else
            False
        else
          False
      else
        L (XK.exit 0) ([A.ro 3 m (Row.wires n x y z cl cur), A.int IntKind.i64 (Int.ofNat pp), A.ptr 0 0, A.flt FloatKind.f32 (arR m n x y z cl cur (sg n2 x2 y2 z2) pp s k), A.int IntKind.i64 (Int.ofNat k)]) ([some (O.var [A.ro 3 n2 (Row.vecs FloatKind.f32 x2 y2 z2), A.bool cl2, A.flt FloatKind.f32 cur2])])
    else
      False := by kernel_rfl
noncomputable def F59i : List A → List (Option O) → Option R3
  | [.ro 3 m (.wires n x y z cl cur), .int .i64 (.ofNat pp), .ptr 0 0, .flt .f32 s, .int .i64 0], [some (.var [.ro 3 n2 (.vecs .f32 x2 y2 z2), .bool cl2, .flt .f32 cur2])] => some (.ite (Nat.ble m 1048576 && allUpTo (smallW n) m && Nat.ble pp 32 && (Nat.ble 1 n2 && Nat.ble n2 1000)) (.leaf .normal (I59i m n x y z cl cur n2 cur2 x2 y2 z2 cl2 pp s (cnt n2 cl2)) (J59i m n x y z cl cur n2 cur2 x2 y2 z2 cl2 pp s (cnt n2 cl2))) .fail)
  | _, _ => none
theorem loop59i : CodeOK Try.prog (fun _ σ => sumAt Try.f59.ntmps 272 [0, 2, 4, 8, 9] [0] F59i σ) (.block 0 (.loop (loopOf Try.f59 0))) := by
  refine block_ok (own := fun _ => true) (lp := (look lpi59i)) (un := 0) (fuel := 1000) cfg31v_ok lpi59i_ok fun az os R hF hok => ?_
  unfold F59i at hF
  split at hF
  · rename_i m n x y z cl cur pp s n2 x2 y2 z2 cl2 cur2
    injection hF with hF
    subst hF
    have hg := hok.guard
    have hg' := hg
    simp only [Bool.and_eq_true, Nat.ble_eq, Nat.beq_eq, decide_eq_true_eq] at hg'
    obtain ⟨⟨⟨hm, hsm⟩, hpp⟩, hn1, hn⟩ := hg'
    refine for_fact (ids := [0]) (fun _ => true) (cnt n2 cl2) (I59i m n x y z cl cur n2 cur2 x2 y2 z2 cl2 pp s) (J59i m n x y z cl cur n2 cur2 x2 y2 z2 cl2 pp s) _ (.ret) (I59i m n x y z cl cur n2 cur2 x2 y2 z2 cl2 pp s) (I59i m n x y z cl cur n2 cur2 x2 y2 z2 cl2 pp s) (I59i m n x y z cl cur n2 cur2 x2 y2 z2 cl2 pp s (cnt n2 cl2)) (J59i m n x y z cl cur n2 cur2 x2 y2 z2 cl2 pp s (cnt n2 cl2)) rfl (OSims.self _) (fun _ => rfl) (fun _ => rfl) (fun _ => ALe.self _) (fun _ => rfl) (ALe.self _) (OSims.self _) rfl (fun h => by cases h) (fun k hk L h1 h2 h3 => ?_) fun L hL => ?_
    · rw [round59i]
      refine condT (by rw [ble_of hn1, ble_of (show n2 ≤ 4611686018427387000 by omega)]; rfl) ?_
      by_cases hkm : k < cnt n2 cl2
      · refine condT (lt_dec hkm) ?_
        have hkn := cnt_lt hkm
        rw [wrap_succ (by omega)]
        refine condT (by rw [lt_blt hkn, ble_of (show n2 ≤ 4611686018427387000 by omega)]; rfl) ?_
        refine condT (by rw [ble_of hm, ble_of hpp, hsm]; rfl) ?_
        exact h1 hkm rfl _ (OSims.self (J59i m n x y z cl cur n2 cur2 x2 y2 z2 cl2 pp s (k + 1)))
      · refine condE (ge_dec (by omega)) ?_
        obtain rfl : k = cnt n2 cl2 := by omega
        exact h3 rfl
    · exact ⟨fun _ => hL.1 hg, fun N _ h => by cases h⟩
  · cases hF

noncomputable def lpi60i : List (Nat × (St → T)) := [(2, sumAt Try.f60.ntmps 448 [0, 2, 10, 34, 35, 8, 28, 29, 30, 6, 7] [384, 288] F60k)]
theorem lpi60i_ok : LpOK Try.prog (look lpi60i) (loopOf Try.f60 0) := lp_in (lp_loops (by kernel_rfl) (by kernel_rfl) fun p hp => by
  simp only [lpi60i, List.mem_cons, List.not_mem_nil, or_false] at hp
  rcases hp with rfl
  · exact loop60k) _
noncomputable def I60i (m : Nat) (n : Nat → Nat) (x y z : Nat → Nat → Nat) (cl : Nat → Bool) (cur : Nat → Nat) (gg : Nat → Nat → Nat) (l pp s e6 : Nat) (k : Nat) : List A := [.ro 3 m (.wires n x y z cl cur), .int .i64 (.ofNat pp), .sl 288 l, .int .i64 (Int.ofNat l), .int .i64 (Int.ofNat k), .flt .f32 (apR m n x y z cl cur gg pp s k), .flt .f32 e6, .bool false]
noncomputable def J60i (m : Nat) (n : Nat → Nat) (x y z : Nat → Nat → Nat) (cl : Nat → Bool) (cur : Nat → Nat) (gg : Nat → Nat → Nat) (l pp s e6 : Nat) (k : Nat) : List O := [.row 0 6 l (.flns .f32 6 gg)]
theorem round60i (m : Nat) (n : Nat → Nat) (x y z : Nat → Nat → Nat) (cl : Nat → Bool) (cur : Nat → Nat) (gg : Nat → Nat → Nat) (l pp s e6 : Nat) (k : Nat) (L : XK → List A → List (Option O) → Prop) :
    ((exec cfg31v (fun _ => true) (look lpi60i) 0 1000 (loopOf Try.f60 0) (litSt Try.f60.ntmps 336 [0, 2, 28, 29, 30, 8, 6, 7] [288] (I60i m n x y z cl cur gg l pp s e6 k) (J60i m n x y z cl cur gg l pp s e6 k))).rt [0, 2, 28, 29, 30, 8, 6, 7] [288]).Ok L =
    bif decide (Int.ofNat k < Int.ofNat l) then
      bif decide (Int.ofNat k < Int.ofNat l) then
        bif decide (Int.ofNat pp = Int.ofNat pp) && decide (Int.ofNat l = Int.ofNat l) && l.beq l && m.ble 1048576 && allUpTo (smallW n) m && pp.ble 32 then
          bif allUpTo (okP m n x y z cl cur (gg (Int.ofNat k).toNat 0) (gg (Int.ofNat k).toNat 1) (gg (Int.ofNat k).toNat 2) (fop BinOp.sub FloatKind.f32 (gg (Int.ofNat k).toNat 3) (gg (Int.ofNat k).toNat 0)) (fop BinOp.sub FloatKind.f32 (gg (Int.ofNat k).toNat 4) (gg (Int.ofNat k).toNat 1)) (fop BinOp.sub FloatKind.f32 (gg (Int.ofNat k).toNat 5) (gg (Int.ofNat k).toNat 2)) pp) pp then
            L (XK.normal) ([A.ro 3 m (Row.wires n x y z cl cur), A.int IntKind.i64 (Int.ofNat pp), A.sl 288 l, A.int IntKind.i64 (Int.ofNat l), A.int IntKind.i64 (IntKind.i64.wrap (Int.ofNat k + Int.ofNat 1)), A.flt FloatKind.f32 (apS m n x y z cl cur (gg k 0) (gg k 1) (gg k 2) (fop BinOp.sub FloatKind.f32 (gg k 3) (gg k 0)) (fop BinOp.sub FloatKind.f32 (gg k 4) (gg k 1)) (fop BinOp.sub FloatKind.f32 (gg k 5) (gg k 2)) (fop BinOp.mul FloatKind.f32 (fop BinOp.sub FloatKind.f32 (gg k 3) (gg k 0)) (inv pp)) (fop BinOp.mul FloatKind.f32 (fop BinOp.sub FloatKind.f32 (gg k 4) (gg k 1)) (inv pp)) (fop BinOp.mul FloatKind.f32 (fop BinOp.sub FloatKind.f32 (gg k 5) (gg k 2)) (inv pp)) pp (apR m n x y z cl cur gg pp s k) pp), A.flt FloatKind.f32 e6, A.bool false]) ([some (O.row 0 6 l (Row.flns FloatKind.f32 6 gg))])
          else
            L (XK.ret) ([A.ro 3 m (Row.wires n x y z cl cur), A.int IntKind.i64 (Int.ofNat pp), A.sl 288 l, A.int IntKind.i64 (Int.ofNat l), A.int IntKind.i64 (Int.ofNat k), A.flt FloatKind.f32 (apS m n x y z cl cur (gg k 0) (gg k 1) (gg k 2) (fop BinOp.sub FloatKind.f32 (gg k 3) (gg k 0)) (fop BinOp.sub FloatKind.f32 (gg k 4) (gg k 1)) (fop BinOp.sub FloatKind.f32 (gg k 5) (gg k 2)) (fop BinOp.mul FloatKind.f32 (fop BinOp.sub FloatKind.f32 (gg k 3) (gg k 0)) (inv pp)) (fop BinOp.mul FloatKind.f32 (fop BinOp.sub FloatKind.f32 (gg k 4) (gg k 1)) (inv pp)) (fop BinOp.mul FloatKind.f32 (fop BinOp.sub FloatKind.f32 (gg k 5) (gg k 2)) (inv pp)) pp (apR m n x y z cl cur gg pp s k) (Fw.firstIdx (okP m n x y z cl cur (gg (Int.ofNat k).toNat 0) (gg (Int.ofNat k).toNat 1) (gg (Int.ofNat k).toNat 2) (fop BinOp.sub FloatKind.f32 (gg (Int.ofNat k).toNat 3) (gg (Int.ofNat k).toNat 0)) (fop BinOp.sub FloatKind.f32 (gg (Int.ofNat k).toNat 4) (gg (Int.ofNat k).toNat 1)) (fop BinOp.sub FloatKind.f32 (gg (Int.ofNat k).toNat 5) (gg (Int.ofNat k).toNat 2)) pp) pp)), A.flt FloatKind.f32 (can FloatKind.f32 0), A.bool false]) ([some (O.row 0 6 l (Row.flns FloatKind.f32 6 gg))])
        else
          False
      else
        False
    else
      L (XK.exit 0) ([A.ro 3 m (Row.wires n x y z cl cur), A.int IntKind.i64 (Int.ofNat pp), A.sl 288 l, A.int IntKind.i64 (Int.ofNat l), A.int IntKind.i64 (Int.ofNat k), A.flt FloatKind.f32 (apR m n x y z cl cur gg pp s k), A.flt FloatKind.f32 e6, A.bool false]) ([some (O.row 0 6 l (Row.flns FloatKind.f32 6 gg))]) := by kernel_rfl
noncomputable def F60i : List A → List (Option O) → Option R3
  | [.ro 3 m (.wires n x y z cl cur), .int .i64 (.ofNat pp), .sl 288 l, .int .i64 l2, .int .i64 0, .flt .f32 s, .flt .f32 e6, .bool false], [some (.row 0 6 l3 (.flns .f32 6 gg))] => some (.ite (decide (l2 = Int.ofNat l) && Nat.beq l l3 && Nat.ble m 1048576 && allUpTo (smallW n) m && Nat.ble pp 32 && Nat.ble l 1000) (.ite (allUpTo (okI m n x y z cl cur gg pp) (l)) (.leaf .normal (I60i m n x y z cl cur gg l pp s e6 (l)) (J60i m n x y z cl cur gg l pp s e6 (l))) (.leaf (.ret) ((fun i => [.ro 3 m (.wires n x y z cl cur), .int .i64 (.ofNat pp), .sl 288 l, .int .i64 (Int.ofNat l), .int .i64 (Int.ofNat i), .flt .f32 (apS m n x y z cl cur (gg i 0) (gg i 1) (gg i 2) (fop .sub .f32 (gg i 3) (gg i 0)) (fop .sub .f32 (gg i 4) (gg i 1)) (fop .sub .f32 (gg i 5) (gg i 2)) (fop .mul .f32 (fop .sub .f32 (gg i 3) (gg i 0)) (inv pp)) (fop .mul .f32 (fop .sub .f32 (gg i 4) (gg i 1)) (inv pp)) (fop .mul .f32 (fop .sub .f32 (gg i 5) (gg i 2)) (inv pp)) pp (apR m n x y z cl cur gg pp s i) (firstIdx (okP m n x y z cl cur (gg i 0) (gg i 1) (gg i 2) (fop .sub .f32 (gg i 3) (gg i 0)) (fop .sub .f32 (gg i 4) (gg i 1)) (fop .sub .f32 (gg i 5) (gg i 2)) pp) pp)), .flt .f32 (can .f32 0), .bool false]) (firstIdx (okI m n x y z cl cur gg pp) (l))) (J60i m n x y z cl cur gg l pp s e6 (firstIdx (okI m n x y z cl cur gg pp) (l))))) .fail)
  | _, _ => none
theorem loop60i : CodeOK Try.prog (fun _ σ => sumAt Try.f60.ntmps 336 [0, 2, 28, 29, 30, 8, 6, 7] [288] F60i σ) (.block 0 (.loop (loopOf Try.f60 0))) := by
  refine block_ok (own := fun _ => true) (lp := (look lpi60i)) (un := 0) (fuel := 1000) cfg31v_ok lpi60i_ok fun az os R hF hok => ?_
  unfold F60i at hF
  split at hF
  · rename_i m n x y z cl cur pp l l2 s e6 l3 gg
    injection hF with hF
    subst hF
    have hg := hok.guard
    have hg' := hg
    simp only [Bool.and_eq_true, Nat.ble_eq, Nat.beq_eq, decide_eq_true_eq] at hg'
    obtain ⟨⟨⟨⟨⟨rfl, rfl⟩, hm⟩, hsm⟩, hpp⟩, hl⟩ := hg'
    refine for_fact (ids := [288]) (okI m n x y z cl cur gg pp) (l) (I60i m n x y z cl cur gg l pp s e6) (J60i m n x y z cl cur gg l pp s e6) _ (.ret) (fun i => [.ro 3 m (.wires n x y z cl cur), .int .i64 (.ofNat pp), .sl 288 l, .int .i64 (Int.ofNat l), .int .i64 (Int.ofNat i), .flt .f32 (apS m n x y z cl cur (gg i 0) (gg i 1) (gg i 2) (fop .sub .f32 (gg i 3) (gg i 0)) (fop .sub .f32 (gg i 4) (gg i 1)) (fop .sub .f32 (gg i 5) (gg i 2)) (fop .mul .f32 (fop .sub .f32 (gg i 3) (gg i 0)) (inv pp)) (fop .mul .f32 (fop .sub .f32 (gg i 4) (gg i 1)) (inv pp)) (fop .mul .f32 (fop .sub .f32 (gg i 5) (gg i 2)) (inv pp)) pp (apR m n x y z cl cur gg pp s i) (firstIdx (okP m n x y z cl cur (gg i 0) (gg i 1) (gg i 2) (fop .sub .f32 (gg i 3) (gg i 0)) (fop .sub .f32 (gg i 4) (gg i 1)) (fop .sub .f32 (gg i 5) (gg i 2)) pp) pp)), .flt .f32 (can .f32 0), .bool false]) (fun i => [.ro 3 m (.wires n x y z cl cur), .int .i64 (.ofNat pp), .sl 288 l, .int .i64 (Int.ofNat l), .int .i64 (Int.ofNat i), .flt .f32 (apS m n x y z cl cur (gg i 0) (gg i 1) (gg i 2) (fop .sub .f32 (gg i 3) (gg i 0)) (fop .sub .f32 (gg i 4) (gg i 1)) (fop .sub .f32 (gg i 5) (gg i 2)) (fop .mul .f32 (fop .sub .f32 (gg i 3) (gg i 0)) (inv pp)) (fop .mul .f32 (fop .sub .f32 (gg i 4) (gg i 1)) (inv pp)) (fop .mul .f32 (fop .sub .f32 (gg i 5) (gg i 2)) (inv pp)) pp (apR m n x y z cl cur gg pp s i) (firstIdx (okP m n x y z cl cur (gg i 0) (gg i 1) (gg i 2) (fop .sub .f32 (gg i 3) (gg i 0)) (fop .sub .f32 (gg i 4) (gg i 1)) (fop .sub .f32 (gg i 5) (gg i 2)) pp) pp)), .flt .f32 (can .f32 0), .bool false]) (I60i m n x y z cl cur gg l pp s e6 (l)) (J60i m n x y z cl cur gg l pp s e6 (l)) rfl (OSims.self _) (fun _ => rfl) (fun _ => rfl) (fun _ => ALe.self _) (fun _ => rfl) (ALe.self _) (OSims.self _) rfl (fun h => by cases h) (fun k hk L h1 h2 h3 => ?_) fun L hL => ?_
    · rw [round60i]

      by_cases hkm : k < l
      · refine condT (lt_dec hkm) ?_
        rw [wrap_succ (by omega)]
        refine condT (lt_dec hkm) ?_
        refine condT (by rw [ble_of hm, ble_of hpp, hsm, decide_eq_true rfl, decide_eq_true rfl, Nat.beq_refl]; rfl) ?_
        show cond (okI m n x y z cl cur gg pp k) _ _
        cases hs : okI m n x y z cl cur gg pp k
        · exact h2 hkm hs
        · exact h1 hkm hs _ (OSims.self (J60i m n x y z cl cur gg l pp s e6 (k + 1)))
      · refine condE (ge_dec (by omega)) ?_
        obtain rfl : k = l := by omega
        exact h3 rfl
    · exact ⟨fun h => (hL.1 hg).1 h, fun N hN hf hall => by
        have := (hL.1 hg).2 (allUpTo_false hN hf)
        rw [firstIdx_eq hN hf hall] at this
        exact this⟩
  · cases hF

end Go.Fw.W1

/-
  Along paths: what is no number stays none.
-/
namespace Go.Fw.W1
open Go.Proofs
theorem can0' : can .f32 0 = 0 := by decide +kernel
theorem fin_num (x : Nat) : fin x = num .f32 x := by
  unfold fin
  rw [can0', num_sub]
  cases num .f32 x <;> rfl
theorem not_num {k : FloatKind} {x : Nat} (h : num k x = false) : (∃ s t, k.format.read x = .nan s t) ∨ ∃ s, k.format.read x = .infinity s := by
  cases hx : k.format.read x with
  | number s m i =>
    have := num_iff.2 ⟨_, _, _, hx⟩
    rw [this] at h; cases h
  | nan s t => exact .inl ⟨s, t, rfl⟩
  | infinity s => exact .inr ⟨s, rfl⟩
theorem num_nan (k : FloatKind) : num k (qnan k) = false := by cases k <;> decide +kernel
theorem num_inf (k : FloatKind) (g : Bool) : num k (k.format.word g k.format.infRung) = false := by cases k <;> cases g <;> decide +kernel
theorem add_eq (k : FloatKind) (x y : Nat) : floatBits .add k x y = ((k.format.read x).sum (k.format.read y)).map k.format.write := rfl
theorem mul_eq (k : FloatKind) (x y : Nat) : floatBits .mul k x y = ((k.format.read x).product (k.format.read y)).map k.format.write := rfl
theorem fop_none {op : BinOp} {k : FloatKind} {x y : Nat} {D : Option Ieee.Datum} (he : floatBits op k x y = D.map k.format.write) (hD : D = none ∨ ∃ g, D = some (.infinity g)) : num k (fop op k x y) = false := by
  unfold fop
  rw [he]
  rcases hD with h | ⟨g, h⟩
  · rw [h]; exact num_nan k
  · rw [h]; exact num_inf k g
theorem sum_infR (s : Bool) (d : Ieee.Datum) : d.sum (.infinity s) = none ∨ ∃ g, d.sum (.infinity s) = some (.infinity g) := by
  cases d with
  | nan a b => exact .inl rfl
  | infinity a => cases a <;> cases s <;> first | exact .inl rfl | exact .inr ⟨_, rfl⟩
  | number a n j => exact .inr ⟨_, rfl⟩
theorem sum_infL (s : Bool) (d : Ieee.Datum) : (Ieee.Datum.infinity s).sum d = none ∨ ∃ g, (Ieee.Datum.infinity s).sum d = some (.infinity g) := by
  cases d with
  | nan a b => exact .inl rfl
  | infinity a => cases a <;> cases s <;> first | exact .inl rfl | exact .inr ⟨_, rfl⟩
  | number a n j => exact .inr ⟨_, rfl⟩
theorem product_infR (s : Bool) (d : Ieee.Datum) : d.product (.infinity s) = none ∨ ∃ g, d.product (.infinity s) = some (.infinity g) := by
  cases d with
  | nan a b => exact .inl rfl
  | infinity a => exact .inr ⟨_, rfl⟩
  | number a n j =>
    simp only [Ieee.Datum.product]
    split
    · exact .inl rfl
    · exact .inr ⟨_, rfl⟩
theorem product_infL (s : Bool) (d : Ieee.Datum) : (Ieee.Datum.infinity s).product d = none ∨ ∃ g, (Ieee.Datum.infinity s).product d = some (.infinity g) := by
  cases d with
  | nan a b => exact .inl rfl
  | infinity a => exact .inr ⟨_, rfl⟩
  | number a n j =>
    simp only [Ieee.Datum.product]
    split
    · exact .inl rfl
    · exact .inr ⟨_, rfl⟩
theorem num_addR {k : FloatKind} {x y : Nat} (h : num k (fop .add k x y) = true) : num k y = true := by
  cases hy : num k y
  · rw [fop_none (add_eq k x y) ?_] at h
    · exact h
    · rcases not_num hy with ⟨s, t, e⟩ | ⟨s, e⟩
      · rw [e]; exact .inl (sum_nan_right _ _ _)
      · rw [e]; exact sum_infR _ _
  · rfl
theorem num_addL {k : FloatKind} {x y : Nat} (h : num k (fop .add k x y) = true) : num k x = true := by
  cases hy : num k x
  · rw [fop_none (add_eq k x y) ?_] at h
    · exact h
    · rcases not_num hy with ⟨s, t, e⟩ | ⟨s, e⟩
      · rw [e]; exact .inl (sum_nan_left _ _ _)
      · rw [e]; exact sum_infL _ _
  · rfl
theorem num_mulL {k : FloatKind} {x y : Nat} (h : num k (fop .mul k x y) = true) : num k x = true := by
  cases hy : num k x
  · rw [fop_none (mul_eq k x y) ?_] at h
    · exact h
    · rcases not_num hy with ⟨s, t, e⟩ | ⟨s, e⟩
      · rw [e]; exact .inl (product_nan_left _ _ _)
      · rw [e]; exact product_infL _ _
  · rfl
theorem sub_eq (k : FloatKind) (x y : Nat) : floatBits .sub k x y = ((k.format.read x).sum (k.format.read y).opposite).map k.format.write := rfl
theorem num_subL {k : FloatKind} {x y : Nat} (h : num k (fop .sub k x y) = true) : num k x = true := by
  cases hy : num k x
  · rw [fop_none (sub_eq k x y) ?_] at h
    · exact h
    · rcases not_num hy with ⟨s, t, e⟩ | ⟨s, e⟩
      · rw [e]; exact .inl (sum_nan_left _ _ _)
      · rw [e]; exact sum_infL _ _
  · rfl
theorem fin_addL {x y : Nat} (h : fin (fop .add .f32 x y) = true) : fin x = true := by rw [fin_num] at h ⊢; exact num_addL h
theorem fin_addR {x y : Nat} (h : fin (fop .add .f32 x y) = true) : fin y = true := by rw [fin_num] at h ⊢; exact num_addR h
theorem fin_mulL {x y : Nat} (h : fin (fop .mul .f32 x y) = true) : fin x = true := by rw [fin_num] at h ⊢; exact num_mulL h
theorem fin_subL {x y : Nat} (h : fin (fop .sub .f32 x y) = true) : fin x = true := by rw [fin_num] at h ⊢; exact num_subL h
end Go.Fw.W1

/-
  Along paths: where a field is none, the sum is none.
-/
namespace Go.Fw.W1
open Go.Proofs
theorem vfin_iff {a b c : Nat} : vfin a b c = true ↔ fin a = true ∧ fin b = true ∧ fin c = true := by
  unfold vfin
  cases fin a <;> cases fin b <;> cases fin c <;> simp
theorem fin_inn {a b c x y z : Nat} (h : fin (inn a b c x y z) = true) : vfin a b c = true := by
  unfold inn at h
  have h1 := fin_addL h
  exact vfin_iff.2 ⟨fin_mulL (fin_addL h1), fin_mulL (fin_addR h1), fin_mulL (fin_addR h)⟩
section
variable {m : Nat} {n : Nat → Nat} {x y z : Nat → Nat → Nat} {cl : Nat → Bool} {cur : Nat → Nat}
theorem faX_fin {p q r s : Nat} : ∀ k, fin (faX n x y z cl cur p q r s k) = true → fin s = true
  | 0, h => h
  | k + 1, h => faX_fin k (fin_addL h)
theorem faY_fin {p q r s : Nat} : ∀ k, fin (faY n x y z cl cur p q r s k) = true → fin s = true
  | 0, h => h
  | k + 1, h => faY_fin k (fin_addL h)
theorem faZ_fin {p q r s : Nat} : ∀ k, fin (faZ n x y z cl cur p q r s k) = true → fin s = true
  | 0, h => h
  | k + 1, h => faZ_fin k (fin_addL h)
theorem st0_yes {p q r c : Nat} (h : vfin p q r = true) : st0 p q r c = 0 := by unfold st0; rw [h]; rfl
theorem st0_fin {p q r c : Nat} (hc : vfin p q r = true → fin c = true) (h : fin (st0 p q r c) = true) : fin c = true := by
  unfold st0 at h
  cases hv : vfin p q r
  · rw [hv] at h; exact fin_subL h
  · exact hc hv
theorem innR_ok {p q r v0 v1 v2 : Nat} (h : fin (innR m n x y z cl cur p q r v0 v1 v2) = true) : (bif vfin p q r then fOkA m n x y z cl cur p q r else false) = true := by
  unfold innR at h
  have h1 := fin_inn h
  obtain ⟨a, b, c⟩ := vfin_iff.1 h1
  have hv : vfin p q r = true := vfin_iff.2 ⟨st0_fin (fun h => (vfin_iff.1 h).1) (faX_fin _ a), st0_fin (fun h => (vfin_iff.1 h).2.1) (faY_fin _ b), st0_fin (fun h => (vfin_iff.1 h).2.2) (faZ_fin _ c)⟩
  rw [st0_yes hv, st0_yes hv, st0_yes hv] at h1
  rw [hv]
  exact h1
theorem innR_eq {p q r v0 v1 v2 : Nat} (h : (bif vfin p q r then fOkA m n x y z cl cur p q r else false) = true) : innP m n x y z cl cur p q r v0 v1 v2 = innR m n x y z cl cur p q r v0 v1 v2 := by
  cases hv : vfin p q r
  · rw [hv] at h; cases h
  · unfold innP innR
    rw [st0_yes hv, st0_yes hv, st0_yes hv]
theorem awS_fin {a0 a1 a2 u0 u1 u2 v0 v1 v2 pp s : Nat} : ∀ K, fin (awS m n x y z cl cur a0 a1 a2 u0 u1 u2 v0 v1 v2 pp s K) = true → fin s = true ∧ ∀ k, k < K → okP m n x y z cl cur a0 a1 a2 u0 u1 u2 pp k = true
  | 0, h => ⟨h, fun k hk => absurd hk (by omega)⟩
  | K + 1, h => by
    have ih := awS_fin K (fin_addL h)
    have h2 := innR_ok (fin_addR h)
    refine ⟨ih.1, fun k hk => ?_⟩
    by_cases e : k = K
    · subst e; exact h2
    · exact ih.2 k (by omega)
theorem apS_eq {a0 a1 a2 u0 u1 u2 v0 v1 v2 pp s : Nat} : ∀ K, (∀ k, k < K → okP m n x y z cl cur a0 a1 a2 u0 u1 u2 pp k = true) → apS m n x y z cl cur a0 a1 a2 u0 u1 u2 v0 v1 v2 pp s K = awS m n x y z cl cur a0 a1 a2 u0 u1 u2 v0 v1 v2 pp s K
  | 0, _ => rfl
  | K + 1, h => by
    have ih := apS_eq (v0 := v0) (v1 := v1) (v2 := v2) (s := s) K (fun k hk => h k (by omega))
    have h2 := innR_eq (v0 := v0) (v1 := v1) (v2 := v2) (h K (by omega))
    show fop .add .f32 (apS m n x y z cl cur a0 a1 a2 u0 u1 u2 v0 v1 v2 pp s K) (innP m n x y z cl cur (atC a0 u0 pp K) (atC a1 u1 pp K) (atC a2 u2 pp K) v0 v1 v2) = fop .add .f32 (awS m n x y z cl cur a0 a1 a2 u0 u1 u2 v0 v1 v2 pp s K) (innR m n x y z cl cur (atC a0 u0 pp K) (atC a1 u1 pp K) (atC a2 u2 pp K) v0 v1 v2)
    rw [ih, h2]
theorem arR_fin {gg : Nat → Nat → Nat} {pp s : Nat} : ∀ N, fin (arR m n x y z cl cur gg pp s N) = true → allUpTo (okI m n x y z cl cur gg pp) N = true := by
  intro N h
  refine allUpTo_iff.2 ?_
  induction N with
  | zero => exact fun i hi => absurd hi (by omega)
  | succ N ih =>
    have h2 := awS_fin _ h
    intro i hi
    by_cases e : i = N
    · subst e; exact allUpTo_iff.2 h2.2
    · exact ih h2.1 i (by omega)
theorem apR_eq {gg : Nat → Nat → Nat} {pp s : Nat} : ∀ N, allUpTo (okI m n x y z cl cur gg pp) N = true → apR m n x y z cl cur gg pp s N = arR m n x y z cl cur gg pp s N := by
  intro N h0
  have h := allUpTo_iff.1 h0
  clear h0
  induction N with
  | zero => rfl
  | succ N ih =>
    have h1 := ih fun i hi => h i (by omega)
    have h2 := allUpTo_iff.1 (h N (by omega))
    show apS _ _ _ _ _ _ _ _ _ _ _ _ _ _ _ _ _ (apR m n x y z cl cur gg pp s N) _ = awS _ _ _ _ _ _ _ _ _ _ _ _ _ _ _ _ _ (arR m n x y z cl cur gg pp s N) _
    rw [h1]
    exact apS_eq _ h2
end
end Go.Fw.W1

/-
  Along paths: contracts of the reference and the program.
-/
namespace Go.Fw.W1
open Go.Proofs
def in32 (p : Int) : Bool := bif decide (p ≥ 1) then decide (p ≤ 32) else false
theorem in32_ok {pp : Nat} (h : in32 (Int.ofNat pp) = true) : pp ≤ 32 := by
  unfold in32 at h
  cases h1 : decide (Int.ofNat pp ≥ 1)
  · rw [h1] at h; cases h
  · rw [h1] at h
    have := of_decide_eq_true h
    simp at this
    omega
theorem in32_neg (pp : Nat) : in32 (Int.negSucc pp) = false := by
  unfold in32
  rw [decide_eq_false (show ¬ (Int.negSucc pp ≥ 1) by omega)]; rfl
noncomputable def arOk (m : Nat) (n : Nat → Nat) (x y z : Nat → Nat → Nat) (cur : Nat → Nat) (n2 cur2 : Nat) (x2 y2 z2 : Nat → Nat) (p : Int) : Bool := areW m n x y z cur && okW n2 cur2 x2 y2 z2 && in32 p
noncomputable def lp59a : List (Nat × (St → T)) := [(0, sumAt Try.f59.ntmps 272 [0, 2, 4, 8, 9] [0] F59i)]
theorem lp59a_ok : LpOK Try.prog (look lp59a) (bodyOf Try.f59) := lp_loops (by kernel_rfl) (by kernel_rfl) fun p hp => by
  simp only [lp59a, List.mem_cons, List.not_mem_nil, or_false] at hp
  rcases hp with rfl
  · exact loop59i
theorem auto59a (m : Nat) (n : Nat → Nat) (x y z : Nat → Nat → Nat) (cl : Nat → Bool) (cur : Nat → Nat) (n2 cur2 : Nat) (x2 y2 z2 : Nat → Nat) (cl2 : Bool) (pp : Nat) : autoLp cfg31v (look lp59a) Try.f59 [.ro 3 m (.wires n x y z cl cur), .agg [.ro 3 n2 (.vecs .f32 x2 y2 z2), .bool cl2, .flt .f32 cur2], .int .i64 (.ofNat pp)] =
    some (m.ble 1048576 && allUpTo (shortW n) m && ((n2.ble 4611686018427387000 || !(!areW m n x y z cur) == false) && bif bif bif !areW m n x y z cur then true else !okW n2 cur2 x2 y2 z2 then true else !bif decide (Int.ofNat pp ≥ 1) then decide (Int.ofNat pp ≤ 32) else false then true else m.ble 1048576 && allUpTo (smallW n) m && pp.ble 32 && (Nat.ble 1 n2 && n2.ble 1000) && true), A.tup [A.flt FloatKind.f32 (bif bif bif !areW m n x y z cur then true else !okW n2 cur2 x2 y2 z2 then true else !bif decide (Int.ofNat pp ≥ 1) then decide (Int.ofNat pp ≤ 32) else false then can FloatKind.f32 0 else bif fin (arR m n x y z cl cur (sg n2 x2 y2 z2) pp (can FloatKind.f32 0) (cnt n2 cl2)) then arR m n x y z cl cur (sg n2 x2 y2 z2) pp (can FloatKind.f32 0) (cnt n2 cl2) else can FloatKind.f32 0), A.bool (bif bif bif !areW m n x y z cur then true else !okW n2 cur2 x2 y2 z2 then true else !bif decide (Int.ofNat pp ≥ 1) then decide (Int.ofNat pp ≤ 32) else false then false else fin (arR m n x y z cl cur (sg n2 x2 y2 z2) pp (can FloatKind.f32 0) (cnt n2 cl2)))]) := by kernel_rfl
noncomputable def s59a : List A → Option (Bool × A)
  | [.ro 3 m (.wires n x y z cl cur), .agg [.ro 3 n2 (.vecs .f32 x2 y2 z2), .bool cl2, .flt .f32 cur2], .int .i64 (.ofNat pp)] => some (Nat.ble m 1048576 && allUpTo (shortW n) m && Nat.ble n2 1048576, .tup [.flt .f32 (bif arOk m n x y z cur n2 cur2 x2 y2 z2 (Int.ofNat pp) && fin (arR m n x y z cl cur (sg n2 x2 y2 z2) pp (can .f32 0) (cnt n2 cl2)) then arR m n x y z cl cur (sg n2 x2 y2 z2) pp (can .f32 0) (cnt n2 cl2) else can .f32 0), .bool (arOk m n x y z cur n2 cur2 x2 y2 z2 (Int.ofNat pp) && fin (arR m n x y z cl cur (sg n2 x2 y2 z2) pp (can .f32 0) (cnt n2 cl2)))])
  | _ => none
theorem s59a_at : EnvAt Try.prog 59 s59a := of_auto cfg31v_ok lp59a_ok Try.func59 (by kernel_rfl) (by kernel_rfl) fun ds cc rr h hc => by
  unfold s59a at h
  split at h
  · rename_i m n x y z cl cur n2 x2 y2 z2 cl2 cur2 pp
    simp only [Option.some.injEq, Prod.mk.injEq] at h
    obtain ⟨rfl, rfl⟩ := h
    refine auto_fit (auto59a m n x y z cl cur n2 cur2 x2 y2 z2 cl2 pp) ?_ ?_
    · unfold arOk in32
      cases areW m n x y z cur
      · rfl
      · cases okW n2 cur2 x2 y2 z2
        · rfl
        · cases (bif decide (Int.ofNat pp ≥ 1) then decide (Int.ofNat pp ≤ 32) else false) <;> rfl
    · simp only [Bool.and_eq_true, Nat.ble_eq] at hc
      obtain ⟨⟨hm, hsh⟩, hn2⟩ := hc
      rw [ble_of hm, hsh, ble_of (show n2 ≤ 4611686018427387000 by omega)]
      cases hA : areW m n x y z cur
      · rfl
      · cases hB : okW n2 cur2 x2 y2 z2
        · rfl
        · have k4 := okW_n hB
          cases hI : (bif decide (Int.ofNat pp ≥ 1) then decide (Int.ofNat pp ≤ 32) else false)
          · rfl
          · have k5 := in32_ok hI
            rw [(areW_ok hA).2, ble_of k5, ble_of (show 1 ≤ n2 by omega), ble_of (show n2 ≤ 1000 by omega)]; rfl
  · cases h

noncomputable def lp60a : List (Nat × (St → T)) := [(0, sumAt Try.f60.ntmps 336 [0, 2, 28, 29, 30, 8, 6, 7] [288] F60i)]
theorem lp60a_ok : LpOK Try.prog (look lp60a) (bodyOf Try.f60) := lp_loops (by kernel_rfl) (by kernel_rfl) fun p hp => by
  simp only [lp60a, List.mem_cons, List.not_mem_nil, or_false] at hp
  rcases hp with rfl
  · exact loop60i
theorem auto60a (m : Nat) (n : Nat → Nat) (x y z : Nat → Nat → Nat) (cl : Nat → Bool) (cur : Nat → Nat) (n2 cur2 : Nat) (x2 y2 z2 : Nat → Nat) (cl2 : Bool) (pp : Nat) : autoLp cfg31v (look lp60a) Try.f60 [.ro 3 m (.wires n x y z cl cur), .agg [.ro 3 n2 (.vecs .f32 x2 y2 z2), .bool cl2, .flt .f32 cur2], .int .i64 (.ofNat pp)] =
    some (m.ble 1048576 && allUpTo (shortW n) m && ((n2.ble 4611686018427387000 || !(!areW m n x y z cur) == false) && bif bif bif !areW m n x y z cur then true else !okW n2 cur2 x2 y2 z2 then true else !bif decide (Int.ofNat pp ≥ 1) then decide (Int.ofNat pp ≤ 32) else false then true else Nat.ble 1 n2 && n2.ble 1073741824 && (decide (Int.ofNat (cnt n2 cl2) = Int.ofNat (cnt n2 cl2)) && (cnt n2 cl2).beq (cnt n2 cl2) && m.ble 1048576 && allUpTo (smallW n) m && pp.ble 32 && (cnt n2 cl2).ble 1000 && bif allUpTo (okI m n x y z cl cur (sg n2 x2 y2 z2) pp) (cnt n2 cl2) then true else true)), A.tup [A.flt FloatKind.f32 (bif bif bif !areW m n x y z cur then true else !okW n2 cur2 x2 y2 z2 then true else !bif decide (Int.ofNat pp ≥ 1) then decide (Int.ofNat pp ≤ 32) else false then can FloatKind.f32 0 else bif allUpTo (okI m n x y z cl cur (sg n2 x2 y2 z2) pp) (cnt n2 cl2) then bif fin (apR m n x y z cl cur (sg n2 x2 y2 z2) pp (can FloatKind.f32 0) (cnt n2 cl2)) then apR m n x y z cl cur (sg n2 x2 y2 z2) pp (can FloatKind.f32 0) (cnt n2 cl2) else can FloatKind.f32 0 else can FloatKind.f32 0), A.bool (bif bif bif !areW m n x y z cur then true else !okW n2 cur2 x2 y2 z2 then true else !bif decide (Int.ofNat pp ≥ 1) then decide (Int.ofNat pp ≤ 32) else false then false else bif allUpTo (okI m n x y z cl cur (sg n2 x2 y2 z2) pp) (cnt n2 cl2) then fin (apR m n x y z cl cur (sg n2 x2 y2 z2) pp (can FloatKind.f32 0) (cnt n2 cl2)) else false)]) := by kernel_rfl
noncomputable def s60a : List A → Option (Bool × A)
  | [.ro 3 m (.wires n x y z cl cur), .agg [.ro 3 n2 (.vecs .f32 x2 y2 z2), .bool cl2, .flt .f32 cur2], .int .i64 (.ofNat pp)] => some (Nat.ble m 1048576 && allUpTo (shortW n) m && Nat.ble n2 1048576, .tup [.flt .f32 (bif arOk m n x y z cur n2 cur2 x2 y2 z2 (Int.ofNat pp) && fin (arR m n x y z cl cur (sg n2 x2 y2 z2) pp (can .f32 0) (cnt n2 cl2)) then arR m n x y z cl cur (sg n2 x2 y2 z2) pp (can .f32 0) (cnt n2 cl2) else can .f32 0), .bool (arOk m n x y z cur n2 cur2 x2 y2 z2 (Int.ofNat pp) && fin (arR m n x y z cl cur (sg n2 x2 y2 z2) pp (can .f32 0) (cnt n2 cl2)))])
  | _ => none
theorem s60a_at : EnvAt Try.prog 60 s60a := of_auto cfg31v_ok lp60a_ok Try.func60 (by kernel_rfl) (by kernel_rfl) fun ds cc rr h hc => by
  unfold s60a at h
  split at h
  · rename_i m n x y z cl cur n2 x2 y2 z2 cl2 cur2 pp
    simp only [Option.some.injEq, Prod.mk.injEq] at h
    obtain ⟨rfl, rfl⟩ := h
    refine auto_fit (auto60a m n x y z cl cur n2 cur2 x2 y2 z2 cl2 pp) ?_ ?_
    · unfold arOk in32
      cases areW m n x y z cur
      · rfl
      · cases okW n2 cur2 x2 y2 z2
        · rfl
        · cases (bif decide (Int.ofNat pp ≥ 1) then decide (Int.ofNat pp ≤ 32) else false)
          · rfl
          · cases hall : allUpTo (okI m n x y z cl cur (sg n2 x2 y2 z2) pp) (cnt n2 cl2)
            · cases hf : fin (arR m n x y z cl cur (sg n2 x2 y2 z2) pp (can .f32 0) (cnt n2 cl2))
              · rfl
              · rw [arR_fin _ hf] at hall; cases hall
            · rw [apR_eq _ hall]; rfl
    · simp only [Bool.and_eq_true, Nat.ble_eq] at hc
      obtain ⟨⟨hm, hsh⟩, hn2⟩ := hc
      rw [ble_of hm, hsh, ble_of (show n2 ≤ 4611686018427387000 by omega)]
      cases hA : areW m n x y z cur
      · rfl
      · cases hB : okW n2 cur2 x2 y2 z2
        · rfl
        · have k4 := okW_n hB
          cases hI : (bif decide (Int.ofNat pp ≥ 1) then decide (Int.ofNat pp ≤ 32) else false)
          · rfl
          · have k5 := in32_ok hI
            rw [(areW_ok hA).2, ble_of k5, ble_of (show 1 ≤ n2 by omega), ble_of (show n2 ≤ 1073741824 by omega), ble_of (show cnt n2 cl2 ≤ 1000 by have := cnt_le n2 cl2; omega), Nat.beq_refl, decide_eq_true rfl, Bool.cond_self]; rfl
  · cases h

theorem auto59b (m : Nat) (n : Nat → Nat) (x y z : Nat → Nat → Nat) (cl : Nat → Bool) (cur : Nat → Nat) (n2 cur2 : Nat) (x2 y2 z2 : Nat → Nat) (cl2 : Bool) (pp : Nat) : autoS cfg31v (fun _ => none) true Try.f59 [.ro 3 m (.wires n x y z cl cur), .agg [.ro 3 n2 (.vecs .f32 x2 y2 z2), .bool cl2, .flt .f32 cur2], .int .i64 (.negSucc pp)] =
    some (m.ble 1048576 && allUpTo (shortW n) m && ((n2.ble 4611686018427387000 || !(!areW m n x y z cur) == false) && ((bif bif !areW m n x y z cur then true else !okW n2 cur2 x2 y2 z2 then true else !false) && true)), A.tup [A.flt FloatKind.f32 (can FloatKind.f32 0), A.bool false]) := by kernel_rfl
noncomputable def s59b : List A → Option (Bool × A)
  | [.ro 3 m (.wires n x y z cl cur), .agg [.ro 3 n2 (.vecs .f32 x2 y2 z2), .bool cl2, .flt .f32 cur2], .int .i64 (.negSucc pp)] => some (Nat.ble m 1048576 && allUpTo (shortW n) m && Nat.ble n2 1048576, .tup [.flt .f32 (can .f32 0), .bool false])
  | _ => none
theorem s59b_at : EnvAt Try.prog 59 s59b := of_autoS cfg31v_ok (lp_none _) Try.func59 (by kernel_rfl) (by kernel_rfl) fun ds cc rr h hc => by
  unfold s59b at h
  split at h
  · rename_i m n x y z cl cur n2 x2 y2 z2 cl2 cur2 pp
    simp only [Option.some.injEq, Prod.mk.injEq] at h
    obtain ⟨rfl, rfl⟩ := h
    refine auto_fit (auto59b m n x y z cl cur n2 cur2 x2 y2 z2 cl2 pp) ?_ ?_
    · simp only [Bool.cond_self]
    · simp only [Bool.and_eq_true, Nat.ble_eq] at hc
      obtain ⟨⟨hm, hsh⟩, hn2⟩ := hc
      rw [ble_of hm, hsh, ble_of (show n2 ≤ 4611686018427387000 by omega)]
      cases areW m n x y z cur <;> cases okW n2 cur2 x2 y2 z2 <;> rfl
  · cases h

theorem auto60b (m : Nat) (n : Nat → Nat) (x y z : Nat → Nat → Nat) (cl : Nat → Bool) (cur : Nat → Nat) (n2 cur2 : Nat) (x2 y2 z2 : Nat → Nat) (cl2 : Bool) (pp : Nat) : autoS cfg31v (fun _ => none) true Try.f60 [.ro 3 m (.wires n x y z cl cur), .agg [.ro 3 n2 (.vecs .f32 x2 y2 z2), .bool cl2, .flt .f32 cur2], .int .i64 (.negSucc pp)] =
    some (m.ble 1048576 && allUpTo (shortW n) m && ((n2.ble 4611686018427387000 || !(!areW m n x y z cur) == false) && ((bif bif !areW m n x y z cur then true else !okW n2 cur2 x2 y2 z2 then true else !false) && true)), A.tup [A.flt FloatKind.f32 (can FloatKind.f32 0), A.bool false]) := by kernel_rfl
noncomputable def s60b : List A → Option (Bool × A)
  | [.ro 3 m (.wires n x y z cl cur), .agg [.ro 3 n2 (.vecs .f32 x2 y2 z2), .bool cl2, .flt .f32 cur2], .int .i64 (.negSucc pp)] => some (Nat.ble m 1048576 && allUpTo (shortW n) m && Nat.ble n2 1048576, .tup [.flt .f32 (can .f32 0), .bool false])
  | _ => none
theorem s60b_at : EnvAt Try.prog 60 s60b := of_autoS cfg31v_ok (lp_none _) Try.func60 (by kernel_rfl) (by kernel_rfl) fun ds cc rr h hc => by
  unfold s60b at h
  split at h
  · rename_i m n x y z cl cur n2 x2 y2 z2 cl2 cur2 pp
    simp only [Option.some.injEq, Prod.mk.injEq] at h
    obtain ⟨rfl, rfl⟩ := h
    refine auto_fit (auto60b m n x y z cl cur n2 cur2 x2 y2 z2 cl2 pp) ?_ ?_
    · simp only [Bool.cond_self]
    · simp only [Bool.and_eq_true, Nat.ble_eq] at hc
      obtain ⟨⟨hm, hsh⟩, hn2⟩ := hc
      rw [ble_of hm, hsh, ble_of (show n2 ≤ 4611686018427387000 by omega)]
      cases areW m n x y z cur <;> cases okW n2 cur2 x2 y2 z2 <;> rfl
  · cases h

noncomputable def s59 : List A → Option (Bool × A)
  | [u, v, .int .i64 (.ofNat pp)] => s59a [u, v, .int .i64 (.ofNat pp)]
  | ds => s59b ds
theorem s59_at : EnvAt Try.prog 59 s59 := by
  refine ⟨s59a_at.1, fun ds c r h hc => ?_⟩
  unfold s59 at h
  split at h
  · exact s59a_at.2 _ _ _ h hc
  · exact s59b_at.2 _ _ _ h hc
noncomputable def s60 : List A → Option (Bool × A)
  | [u, v, .int .i64 (.ofNat pp)] => s60a [u, v, .int .i64 (.ofNat pp)]
  | ds => s60b ds
theorem s60_at : EnvAt Try.prog 60 s60 := by
  refine ⟨s60a_at.1, fun ds c r h hc => ?_⟩
  unfold s60 at h
  split at h
  · exact s60a_at.2 _ _ _ h hc
  · exact s60b_at.2 _ _ _ h hc
noncomputable def env33v : List (Nat × (List A → Option (Bool × A))) := (59, s59) :: (60, s60) :: env31v
theorem env33v_ok : EnvOK Try.prog (look env33v) := (env_cons s59_at (env_cons s60_at env31v_ok))
noncomputable def cfg33v : Cfg := mkCfg tab [] xts (look env33v)
theorem cfg33v_ok : CfgOK Try.prog cfg33v := cfg_ok tab_eq (no_fts _) xts_ok env33v_ok mixed
theorem pathP (m : Nat) (n : Nat → Nat) (x y z : Nat → Nat → Nat) (cl : Nat → Bool) (cur : Nat → Nat) (n2 cur2 : Nat) (x2 y2 z2 : Nat → Nat) (cl2 : Bool) (pp : Nat) : autoLp cfg33v (fun _ => none) Try.f16 [.ro 3 m (.wires n x y z cl cur), .agg [.ro 3 n2 (.vecs .f32 x2 y2 z2), .bool cl2, .flt .f32 cur2], .int .i64 (.ofNat pp)] =
    some ((bif decide (IntKind.i64.wrap (1048576 - Int.ofNat m) < 0) then true else m.ble 4611686018427387000) && bif decide (szWs 1048576 m n < 0) then true else bif decide (sz1 (szWs 1048576 m n) n2 < 0) then true else m.ble 1048576 && allUpTo (shortW n) m && n2.ble 1048576 && (n2.ble 1073741824 && (m.ble 1048576 && allUpTo (shortW n) m && true)) && (m.ble 1048576 && allUpTo (shortW n) m && (n2.ble 1073741824 && (m.ble 1048576 && allUpTo (shortW n) m && n2.ble 1048576 && bif bif !sameF (fcvt FloatKind.f32 FloatKind.f64 (bif arOk m n x y z cur n2 cur2 x2 y2 z2 (Int.ofNat pp) && fin (arR m n x y z cl cur (sg n2 x2 y2 z2) pp (can FloatKind.f32 0) (cnt n2 cl2)) then arR m n x y z cl cur (sg n2 x2 y2 z2) pp (can FloatKind.f32 0) (cnt n2 cl2) else can FloatKind.f32 0)) (fcvt FloatKind.f32 FloatKind.f64 (bif arOk m n x y z cur n2 cur2 x2 y2 z2 (Int.ofNat pp) && fin (arR m n x y z cl cur (sg n2 x2 y2 z2) pp (can FloatKind.f32 0) (cnt n2 cl2)) then arR m n x y z cl cur (sg n2 x2 y2 z2) pp (can FloatKind.f32 0) (cnt n2 cl2) else can FloatKind.f32 0)) then true else !(arOk m n x y z cur n2 cur2 x2 y2 z2 (Int.ofNat pp) && fin (arR m n x y z cl cur (sg n2 x2 y2 z2) pp (can FloatKind.f32 0) (cnt n2 cl2))) == (arOk m n x y z cur n2 cur2 x2 y2 z2 (Int.ofNat pp) && fin (arR m n x y z cl cur (sg n2 x2 y2 z2) pp (can FloatKind.f32 0) (cnt n2 cl2))) then true else m.ble 1048576 && allUpTo (shortW n) m && (m.beq m && m.ble 1048576 && allUpTo (eqWAt n x y z cl cur n x y z cl cur) m && (n2.ble 1073741824 && true && (n2.beq n2 && n2.ble 1048576 && allUpTo (sameVAt x2 y2 z2 x2 y2 z2) n2 && cl2 == cl2 && sameF (fcvt FloatKind.f32 FloatKind.f64 cur2) (fcvt FloatKind.f32 FloatKind.f64 cur2) && true)))))), A.bool (bif decide (szWs 1048576 m n < 0) then true else bif decide (sz1 (szWs 1048576 m n) n2 < 0) then true else bif bif !sameF (fcvt FloatKind.f32 FloatKind.f64 (bif arOk m n x y z cur n2 cur2 x2 y2 z2 (Int.ofNat pp) && fin (arR m n x y z cl cur (sg n2 x2 y2 z2) pp (can FloatKind.f32 0) (cnt n2 cl2)) then arR m n x y z cl cur (sg n2 x2 y2 z2) pp (can FloatKind.f32 0) (cnt n2 cl2) else can FloatKind.f32 0)) (fcvt FloatKind.f32 FloatKind.f64 (bif arOk m n x y z cur n2 cur2 x2 y2 z2 (Int.ofNat pp) && fin (arR m n x y z cl cur (sg n2 x2 y2 z2) pp (can FloatKind.f32 0) (cnt n2 cl2)) then arR m n x y z cl cur (sg n2 x2 y2 z2) pp (can FloatKind.f32 0) (cnt n2 cl2) else can FloatKind.f32 0)) then true else !(arOk m n x y z cur n2 cur2 x2 y2 z2 (Int.ofNat pp) && fin (arR m n x y z cl cur (sg n2 x2 y2 z2) pp (can FloatKind.f32 0) (cnt n2 cl2))) == (arOk m n x y z cur n2 cur2 x2 y2 z2 (Int.ofNat pp) && fin (arR m n x y z cl cur (sg n2 x2 y2 z2) pp (can FloatKind.f32 0) (cnt n2 cl2))) then false else true)) := by kernel_rfl
theorem pathN (m : Nat) (n : Nat → Nat) (x y z : Nat → Nat → Nat) (cl : Nat → Bool) (cur : Nat → Nat) (n2 cur2 : Nat) (x2 y2 z2 : Nat → Nat) (cl2 : Bool) (pp : Nat) : autoLp cfg33v (fun _ => none) Try.f16 [.ro 3 m (.wires n x y z cl cur), .agg [.ro 3 n2 (.vecs .f32 x2 y2 z2), .bool cl2, .flt .f32 cur2], .int .i64 (.negSucc pp)] =
    some ((bif decide (IntKind.i64.wrap (1048576 - Int.ofNat m) < 0) then true else m.ble 4611686018427387000) && bif decide (szWs 1048576 m n < 0) then true else bif decide (sz1 (szWs 1048576 m n) n2 < 0) then true else m.ble 1048576 && allUpTo (shortW n) m && n2.ble 1048576 && (n2.ble 1073741824 && (m.ble 1048576 && allUpTo (shortW n) m && true)) && (m.ble 1048576 && allUpTo (shortW n) m && (n2.ble 1073741824 && (m.ble 1048576 && allUpTo (shortW n) m && n2.ble 1048576 && bif bif !sameF (fcvt FloatKind.f32 FloatKind.f64 (can FloatKind.f32 0)) (fcvt FloatKind.f32 FloatKind.f64 (can FloatKind.f32 0)) then true else false then true else m.ble 1048576 && allUpTo (shortW n) m && (m.beq m && m.ble 1048576 && allUpTo (eqWAt n x y z cl cur n x y z cl cur) m && (n2.ble 1073741824 && true && (n2.beq n2 && n2.ble 1048576 && allUpTo (sameVAt x2 y2 z2 x2 y2 z2) n2 && cl2 == cl2 && sameF (fcvt FloatKind.f32 FloatKind.f64 cur2) (fcvt FloatKind.f32 FloatKind.f64 cur2) && true)))))), A.bool (bif decide (szWs 1048576 m n < 0) then true else bif decide (sz1 (szWs 1048576 m n) n2 < 0) then true else bif bif !sameF (fcvt FloatKind.f32 FloatKind.f64 (can FloatKind.f32 0)) (fcvt FloatKind.f32 FloatKind.f64 (can FloatKind.f32 0)) then true else false then false else true)) := by kernel_rfl
end Go.Fw.W1

/-
  Along paths: the law.
-/
namespace Go.Fw.W1
open Go.Proofs
theorem law16 {a b : A} {p : Int} (ha : WiresA a) (hb : WireA b) (_hp : IntA p) : PureCall Try.prog 16 [a, b, .int .i64 p] (.bool true) := by
  obtain ⟨m, n, x, y, z, cl, cur, hm, hn, rfl⟩ := ha
  obtain ⟨n2, x2, y2, z2, cl2, cur2, hn2, rfl⟩ := hb
  have key : ∀ pp, PureCall Try.prog 16 [.ro 3 m (.wires n x y z cl cur), .agg [.ro 3 n2 (.vecs .f32 x2 y2 z2), .bool cl2, .flt .f32 cur2], .int .i64 (.ofNat pp)] (.bool true) ∧ PureCall Try.prog 16 [.ro 3 m (.wires n x y z cl cur), .agg [.ro 3 n2 (.vecs .f32 x2 y2 z2), .bool cl2, .flt .f32 cur2], .int .i64 (.negSucc pp)] (.bool true) := fun pp => by
    have kP := (auto_at cfg33v_ok Try.func16 (by kernel_rfl) (by kernel_rfl)).2 _ _ _ (pathP m n x y z cl cur n2 cur2 x2 y2 z2 cl2 pp)
    have kN := (auto_at cfg33v_ok Try.func16 (by kernel_rfl) (by kernel_rfl)).2 _ _ _ (pathN m n x y z cl cur n2 cur2 x2 y2 z2 cl2 pp)
    rcases szWs_le (left := 1048576) (m := m) (n := n) (by omega) (by omega) hm hn with e | ⟨h0, h1, h2, h3⟩
    · have hg : (bif decide (IntKind.i64.wrap (1048576 - Int.ofNat m) < 0) then true else m.ble 4611686018427387000) = true := by
        by_cases hw : IntKind.i64.wrap (1048576 - Int.ofNat m) < 0
        · rw [decide_eq_true hw]; rfl
        · have e2 : IntKind.i64.wrap (1048576 - Int.ofNat m) = 1048576 - m := by
            simp [IntKind.wrap, IntKind.bits, IntKind.signed]
            omega
          rw [e2] at hw
          rw [ble_of (show m ≤ 4611686018427387000 by omega), Bool.cond_self]
      rw [e, hg] at kP kN
      exact ⟨kP rfl, kN rfl⟩
    have hm2 : m ≤ 1048576 := by omega
    have hs := short_of h3
    rw [decide_eq_false (p := szWs 1048576 m n < 0) (by omega), ble_of (show m ≤ 4611686018427387000 by omega), Bool.cond_self] at kP kN
    rcases sz1_le (left := szWs 1048576 m n) (n := n2) (by omega) (by omega) hn2 with ⟨e', h1'⟩ | ⟨e', h1'⟩
    · rw [e'] at kP kN; exact ⟨kP rfl, kN rfl⟩
    rw [e', decide_eq_false (p := szWs 1048576 m n - (n2 : Int) < 0) (by omega)] at kP kN
    have h4 : n2 ≤ 1048576 := by omega
    simp only [hs, eqWAt_self x y z cl cur hs, sameVs_self, sameV_self, sameF_self, bne_self_eq_false, Bool.cond_self, beq_self_eq_true, Nat.beq_refl, Bool.not_true, cond_false, Bool.and_true, Bool.true_and, ble_of hm2, ble_of h4, ble_of (show n2 ≤ 1073741824 by omega)] at kP kN
    exact ⟨kP (by simp), kN (by simp)⟩
  cases p with
  | ofNat pp => exact (key pp).1
  | negSucc pp => exact (key pp).2
end Go.Fw.W1

/-
  Vectors and wires that come in.
-/
namespace Go.Fw.W1
open Go.Proofs
open Go.RowKit (Below)

theorem own : ownKnob Try.prog.godebug = none := by kernel_rfl
theorem laidOut : laidOutB Try.prog = true := by kernel_rfl

theorem vec58 : VecT Try.prog 58 := by
  refine ⟨_, Try.underlying58, by kernel_rfl, by kernel_rfl, fun i hi => ?_⟩
  match i, hi with
  | 0, _ => exact ⟨_, rfl, rfl, by kernel_rfl, Try.underlying24⟩
  | 1, _ => exact ⟨_, rfl, rfl, by kernel_rfl, Try.underlying24⟩
  | 2, _ => exact ⟨_, rfl, rfl, by kernel_rfl, Try.underlying24⟩
  | i + 3, hi => omega
theorem wire45 : WireT Try.prog 45 :=
  ⟨_, _, _, _, 58, Try.underlying45, by kernel_rfl, by kernel_rfl, rfl, rfl, rfl, ⟨rfl, rfl, rfl⟩, ⟨by kernel_rfl, by kernel_rfl, by kernel_rfl⟩, Try.underlying22, vec58, Try.underlying4, Try.underlying24⟩

section
variable {H : Type} {enc : TypeId × Value → H} {w : World} {spare : Nat → Bool} {held : Bool}
set_option maxRecDepth 100000 in
theorem slice_cells {t e : TypeId} {r : Reach} {base : Nat} {v : Value} (ht : Try.prog.underlying t = some (.slice e)) (h : Value.okWide Try.prog w r base t v) : v.cells.toList = [v] := by
  obtain ⟨a, l, c, rfl⟩ := Go.WideShapes.okWide_slice ht h
  rfl
set_option maxRecDepth 100000 in
theorem in_vecsA {r : Reach} {base : Nat} {v : Value} {x : DataW H × List MemPlace} (hv : Value.okWide Try.prog w r base 22 v) (h : ∃ fuel, DataW.trod enc Try.prog w 0 spare held fuel 22 v.cells.toList = some x) :
    ∃ a, VecsA a ∧ RelD w (fun b => b < w.heap.size) v a := by
  obtain ⟨fuel, h⟩ := h
  rw [slice_cells Try.underlying22 hv] at h
  obtain ⟨u, n, xs, ys, zs, e, hn, _, hr⟩ := in_vecs Try.underlying22 vec58 h
  simp only [List.cons.injEq, and_true] at e
  subst e
  exact ⟨_, ⟨n, xs, ys, zs, hn, rfl⟩, hr⟩
set_option maxRecDepth 100000 in
theorem in_wiresA {r : Reach} {base : Nat} {v : Value} {x : DataW H × List MemPlace} (hv : Value.okWide Try.prog w r base 69 v) (h : ∃ fuel, DataW.trod enc Try.prog w 0 spare held fuel 69 v.cells.toList = some x) :
    ∃ a, WiresA a ∧ RelD w (fun b => b < w.heap.size) v a := by
  obtain ⟨fuel, h⟩ := h
  rw [slice_cells Try.underlying69 hv] at h
  obtain ⟨u, n, d, e, hn, hc, hr⟩ := in_wires Try.underlying69 wire45 h
  simp only [List.cons.injEq, and_true] at e
  subst e
  exact ⟨_, ⟨n, _, _, _, _, _, _, hn, fun i => (hc i).1, rfl⟩, hr⟩
theorem in_wireA {v : Value} {x : DataW H × List MemPlace} (h : ∃ fuel, DataW.trod enc Try.prog w 0 spare held fuel 45 v.cells.toList = some x) : ∃ a, WireA a ∧ RelD w (fun b => b < w.heap.size) v a := by
  obtain ⟨a, hc, hr⟩ := in_wire wire45 h
  exact ⟨_, ⟨_, _, _, _, _, _, hc.1, rfl⟩, hr⟩
theorem in_vecA {v : Value} {x : DataW H × List MemPlace} (h : ∃ fuel, DataW.trod enc Try.prog w 0 spare held fuel 58 v.cells.toList = some x) : ∃ a, VecA a ∧ RelD w (fun b => b < w.heap.size) v a := by
  obtain ⟨a, hc, hr⟩ := in_vec vec58 h
  exact ⟨_, ⟨_, _, _, hc.1, hc.2.1, hc.2.2, rfl⟩, hr⟩
theorem int_fits {n : Int} (h : (Lit.int .i64 n).wf = true) : IntA n := by
  simp only [Lit.wf, Bool.and_eq_true, decide_eq_true_eq] at h
  exact ⟨by have := h.1; simpa [IntKind.min, IntKind.bits, IntKind.signed] using this, by have := h.2; simpa [IntKind.max, IntKind.bits, IntKind.signed] using this⟩
end
end Go.Fw.W1
