/-
  The pieces of wires, as the reference has them; sums of pairs.
-/
import Derived.Test.YtbfoochpinkpgaaLpA
import Derived.Test.YtbfoochpinkpgaaFwC

namespace Go.Fw.W1
open Go.Proofs

noncomputable def lpi135i : List (Nat × (St → T)) := [(2, sumAt Try.f135.ntmps 192 [0, 1, 6, 7, 8, 9] [32, 64] F135k)]
theorem lpi135i_ok : LpOK Try.prog (look lpi135i) (loopOf Try.f135 0) := lp_in (lp_loops (by kernel_rfl) (by kernel_rfl) fun p hp => by
  simp only [lpi135i, List.mem_cons, List.not_mem_nil, or_false] at hp
  rcases hp with rfl
  · exact loop135k) _
noncomputable def I135i (n cur pp : Nat) (x y z : Nat → Nat) (cl : Bool) (k : Nat) : List A := [.rop (.agg [.ro 3 n (.vecs .f32 x y z), .bool cl, .flt .f32 cur]) 0, .int .i64 (.ofNat pp), .sl 32 (pp * k), .sl 64 (pp * k), .int .i64 (Int.ofNat k)]
noncomputable def J135i (n cur pp : Nat) (x y z : Nat → Nat) (cl : Bool) (k : Nat) : List O := [.row 59 3 (pp * k) (.vecs .f32 (fun j => pc (sg n x y z) pp j 0) (fun j => pc (sg n x y z) pp j 1) (fun j => pc (sg n x y z) pp j 2)), .row 59 3 (pp * k) (.vecs .f32 (fun j => pc (sg n x y z) pp j 3) (fun j => pc (sg n x y z) pp j 4) (fun j => pc (sg n x y z) pp j 5))]
theorem round135i (n cur pp : Nat) (x y z : Nat → Nat) (cl : Bool) (k : Nat) (L : XK → List A → List (Option O) → Prop) :
    ((exec cfg18 (fun _ => true) (look lpi135i) 0 1000 (loopOf Try.f135 0) (litSt Try.f135.ntmps 112 [0, 1, 6, 7, 8] [32, 64] (I135i n cur pp x y z cl k) (J135i n cur pp x y z cl k))).rt [0, 1, 6, 7, 8] [32, 64]).Ok L =
    bif Nat.ble 1 n && n.ble 4611686018427387000 then
      bif decide (Int.ofNat k < Int.ofNat (cnt n cl)) then
        bif (pp * k).beq (pp * k) && (pp * k).beq (pp * k) && (pp * k).beq (pp * k) && k.blt n && n.ble 1000 && pp.ble 32 && (pp * k).ble 100000 then
          L (XK.normal) ([(A.agg [A.ro 3 n (Row.vecs FloatKind.f32 x y z), A.bool cl, A.flt FloatKind.f32 cur]).rop 0, A.int IntKind.i64 (Int.ofNat pp), A.sl 32 (pp * k + pp), A.sl 64 (pp * k + pp), A.int IntKind.i64 (IntKind.i64.wrap (Int.ofNat k + Int.ofNat 1))]) ([some (O.row 59 3 (pp * k + pp) (Row.vecs FloatKind.f32 (fun p => jn (pp * k) (fun j => pc (sg n x y z) pp j 0) (fun t => pcS (x k) (y k) (z k) (x (nx n k)) (y (nx n k)) (z (nx n k)) pp t 0) p) (fun p => jn (pp * k) (fun j => pc (sg n x y z) pp j 1) (fun t => pcS (x k) (y k) (z k) (x (nx n k)) (y (nx n k)) (z (nx n k)) pp t 1) p) fun p => jn (pp * k) (fun j => pc (sg n x y z) pp j 2) (fun t => pcS (x k) (y k) (z k) (x (nx n k)) (y (nx n k)) (z (nx n k)) pp t 2) p)), some (O.row 59 3 (pp * k + pp) (Row.vecs FloatKind.f32 (fun p => jn (pp * k) (fun j => pc (sg n x y z) pp j 3) (fun t => pcS (x k) (y k) (z k) (x (nx n k)) (y (nx n k)) (z (nx n k)) pp t 3) p) (fun p => jn (pp * k) (fun j => pc (sg n x y z) pp j 4) (fun t => pcS (x k) (y k) (z k) (x (nx n k)) (y (nx n k)) (z (nx n k)) pp t 4) p) fun p => jn (pp * k) (fun j => pc (sg n x y z) pp j 5) (fun t => pcS (x k) (y k) (z k) (x (nx n k)) (y (nx n k)) (z (nx n k)) pp t 5) p))])
        else
          False
      else
        L (XK.exit 0) ([(A.agg [A.ro 3 n (Row.vecs FloatKind.f32 x y z), A.bool cl, A.flt FloatKind.f32 cur]).rop 0, A.int IntKind.i64 (Int.ofNat pp), A.sl 32 (pp * k), A.sl 64 (pp * k), A.int IntKind.i64 (Int.ofNat k)]) ([some (O.row 59 3 (pp * k) (Row.vecs FloatKind.f32 (fun j => pc (sg n x y z) pp j 0) (fun j => pc (sg n x y z) pp j 1) fun j => pc (sg n x y z) pp j 2)), some (O.row 59 3 (pp * k) (Row.vecs FloatKind.f32 (fun j => pc (sg n x y z) pp j 3) (fun j => pc (sg n x y z) pp j 4) fun j => pc (sg n x y z) pp j 5))])
    else
      False := by kernel_rfl
noncomputable def F135i : List A → List (Option O) → Option R3
  | [.rop (.agg [.ro 3 n (.vecs .f32 x y z), .bool cl, .flt .f32 cur]) 0, .int .i64 (.ofNat pp), .sl 32 0, .sl 64 0, .int .i64 0], [some (.row 59 3 0 g1), some (.row 59 3 0 g2)] => some (.ite (Nat.ble 1 n && Nat.ble n 1000 && Nat.ble pp 32) (.leaf .normal (I135i n cur pp x y z cl (cnt n cl)) (J135i n cur pp x y z cl (cnt n cl))) .fail)
  | _, _ => none
theorem loop135i : CodeOK Try.prog (fun _ σ => sumAt Try.f135.ntmps 112 [0, 1, 6, 7, 8] [32, 64] F135i σ) (.block 0 (.loop (loopOf Try.f135 0))) := by
  refine block_ok (own := fun _ => true) (lp := (look lpi135i)) (un := 0) (fuel := 1000) cfg18_ok lpi135i_ok fun az os R hF hok => ?_
  unfold F135i at hF
  split at hF
  · rename_i n x y z cl cur pp g1 g2
    injection hF with hF
    subst hF
    have hg := hok.guard
    have hg' := hg
    simp only [Bool.and_eq_true, Nat.ble_eq, Nat.beq_eq, decide_eq_true_eq] at hg'
    obtain ⟨⟨hn1, hn⟩, hpp⟩ := hg'
    refine for_fact (ids := [32, 64]) (fun _ => true) (cnt n cl) (I135i n cur pp x y z cl) (J135i n cur pp x y z cl) _ (.ret) (I135i n cur pp x y z cl) (I135i n cur pp x y z cl) (I135i n cur pp x y z cl (cnt n cl)) (J135i n cur pp x y z cl (cnt n cl)) rfl (by unfold J135i; exact ⟨⟨59, _, rfl, .inr rfl, fun p hp => absurd hp (by omega)⟩, ⟨59, _, rfl, .inr rfl, fun p hp => absurd hp (by omega)⟩, trivial⟩) (fun _ => rfl) (fun _ => rfl) (fun _ => ALe.self _) (fun _ => rfl) (ALe.self _) (OSims.self _) rfl (fun h => by cases h) (fun k hk L h1 h2 h3 => ?_) fun L hL => ?_
    · rw [round135i]
      refine condT (by rw [ble_of hn1, ble_of (show n ≤ 4611686018427387000 by omega)]; rfl) ?_
      by_cases hkm : k < cnt n cl
      · refine condT (lt_dec hkm) ?_
        have hkn := cnt_lt hkm
        have hmul : pp * k ≤ 32 * 1000 := Nat.mul_le_mul hpp (by omega)
        rw [wrap_succ (by omega)]
        refine condT (by rw [Nat.beq_refl, lt_blt hkn, ble_of hn, ble_of hpp, ble_of (show pp * k ≤ 100000 by omega)]; rfl) ?_
        exact h1 hkm rfl _ ⟨⟨59, _, rfl, .inr rfl, fun p hp => vec_at (pc_stepV (g := sg n x y z) hp) (pc_stepV (g := sg n x y z) hp) (pc_stepV (g := sg n x y z) hp)⟩, ⟨59, _, rfl, .inr rfl, fun p hp => vec_at (pc_stepV (g := sg n x y z) hp) (pc_stepV (g := sg n x y z) hp) (pc_stepV (g := sg n x y z) hp)⟩, trivial⟩
      · refine condE (ge_dec (by omega)) ?_
        obtain rfl : k = cnt n cl := by omega
        exact h3 rfl
    · exact ⟨fun _ => hL.1 hg, fun N _ h => by cases h⟩
  · cases hF

noncomputable def lp135 : List (Nat × (St → T)) := [(0, sumAt Try.f135.ntmps 112 [0, 1, 6, 7, 8] [32, 64] F135i)]
theorem lp135_ok : LpOK Try.prog (look lp135) (bodyOf Try.f135) := lp_loops (by kernel_rfl) (by kernel_rfl) fun p hp => by
  simp only [lp135, List.mem_cons, List.not_mem_nil, or_false] at hp
  rcases hp with rfl
  · exact loop135i
theorem auto135 (n cur pp : Nat) (x y z : Nat → Nat) (cl : Bool) : autoLp cfg18 (look lp135) Try.f135 [.rop (.agg [.ro 3 n (.vecs .f32 x y z), .bool cl, .flt .f32 cur]) 0, .int .i64 (.ofNat pp)] =
    some (Nat.ble 1 n && n.ble 1000 && pp.ble 32 && true, A.tup [A.ro 3 (pp * cnt n cl) (Row.vecs FloatKind.f32 (fun j => pc (sg n x y z) pp j 0) (fun j => pc (sg n x y z) pp j 1) fun j => pc (sg n x y z) pp j 2), A.ro 3 (pp * cnt n cl) (Row.vecs FloatKind.f32 (fun j => pc (sg n x y z) pp j 3) (fun j => pc (sg n x y z) pp j 4) fun j => pc (sg n x y z) pp j 5)]) := by kernel_rfl
noncomputable def s135 : List A → Option (Bool × A)
  | [.rop (.agg [.ro 3 n (.vecs .f32 x y z), .bool cl, .flt .f32 cur]) 0, .int .i64 (.ofNat pp)] => some (Nat.ble 1 n && Nat.ble n 1000 && Nat.ble pp 32, .tup [.ro 3 (pp * cnt n cl) (.vecs .f32 (fun j => pc (sg n x y z) pp j 0) (fun j => pc (sg n x y z) pp j 1) (fun j => pc (sg n x y z) pp j 2)), .ro 3 (pp * cnt n cl) (.vecs .f32 (fun j => pc (sg n x y z) pp j 3) (fun j => pc (sg n x y z) pp j 4) (fun j => pc (sg n x y z) pp j 5))])
  | _ => none
theorem s135_at : EnvAt Try.prog 135 s135 := of_auto cfg18_ok lp135_ok Try.func135 (by kernel_rfl) (by kernel_rfl) fun ds cc rr h hc => by
  unfold s135 at h
  split at h
  · rename_i n x y z cl cur pp
    simp only [Option.some.injEq, Prod.mk.injEq] at h
    obtain ⟨rfl, rfl⟩ := h
    refine auto_fit (auto135 n cur pp x y z cl) ?_ ?_
    · rfl
    · rw [hc]; rfl
  · cases h

noncomputable def env19 : List (Nat × (List A → Option (Bool × A))) := (106, s106) :: (135, s135) :: env18
theorem env19_ok : EnvOK Try.prog (look env19) := (env_cons s106_at (env_cons s135_at env18_ok))
noncomputable def cfg19 : Cfg := mkCfg tab [] xts (look env19)
theorem cfg19_ok : CfgOK Try.prog cfg19 := cfg_ok tab_eq (no_fts _) xts_ok env19_ok mixed
end Go.Fw.W1

/-
  Sums over all pairs of pieces.
-/
namespace Go.Fw.W1
open Go.Proofs

def psR (u v w : Nat) (q : Nat → Nat → Nat) (th j : Nat) : Nat := root32 (fop .add .f32 (inn (fop .sub .f32 u (q j 3)) (fop .sub .f32 v (q j 4)) (fop .sub .f32 w (q j 5)) (fop .sub .f32 u (q j 3)) (fop .sub .f32 v (q j 4)) (fop .sub .f32 w (q j 5))) (fop .mul .f32 th th))
def psC (u v w : Nat) (q : Nat → Nat → Nat) (th j : Nat) : Bool := forder .f32 (psR u v w q th j) (can .f32 0) == some .gt
def psA (a b c u v w : Nat) (q : Nat → Nat → Nat) (th j s : Nat) : Nat := fop .add .f32 s (fop .quo .f32 (inn a b c (q j 0) (q j 1) (q j 2)) (psR u v w q th j))
/-- One piece against all others. -/
def psIn (a b c u v w : Nat) (q : Nat → Nat → Nat) (th s : Nat) : Nat → Nat
  | 0 => s
  | k + 1 => bif psC u v w q th k then psA a b c u v w q th k (psIn a b c u v w q th s k) else psIn a b c u v w q th s k
theorem psIn_t {a b c u v w : Nat} {q : Nat → Nat → Nat} {th s k : Nat} (h : psC u v w q th k = true) : psIn a b c u v w q th s (k + 1) = psA a b c u v w q th k (psIn a b c u v w q th s k) := by simp only [psIn, h, cond_true]
theorem psIn_f {a b c u v w : Nat} {q : Nat → Nat → Nat} {th s k : Nat} (h : psC u v w q th k = false) : psIn a b c u v w q th s (k + 1) = psIn a b c u v w q th s k := by simp only [psIn, h, cond_false]
def psOut (p q : Nat → Nat → Nat) (th lq s : Nat) : Nat → Nat
  | 0 => s
  | k + 1 => psIn (p k 0) (p k 1) (p k 2) (p k 3) (p k 4) (p k 5) q th (psOut p q th lq s k) lq
def six (a b c u v w : Nat → Nat) (j d : Nat) : Nat :=
  match d with
  | 0 => a j | 1 => b j | 2 => c j | 3 => u j | 4 => v j | _ => w j
theorem six_pc (g : Nat → Nat → Nat) (pp : Nat) : six (fun j => pc g pp j 0) (fun j => pc g pp j 1) (fun j => pc g pp j 2) (fun j => pc g pp j 3) (fun j => pc g pp j 4) (fun j => pc g pp j 5) = pc g pp := by
  funext j d
  match d with
  | 0 | 1 | 2 | 3 | 4 | 5 => rfl
  | d + 6 => rfl

noncomputable def I114j (lp lq th s a b c u v w : Nat) (p1 p2 : Int) (gg hh : Nat → Nat → Nat) (k : Nat) : List A := [.flt .f32 th, .flt .f32 (psIn a b c u v w hh th s k), .sl 96 lq, .ptr 256 0, .sl 160 lp, .int .i64 p1, .int .i64 p2, .sl 96 lq, .int .i64 (Int.ofNat lq), .int .i64 (Int.ofNat k)]
noncomputable def J114j (lp lq th s a b c u v w : Nat) (p1 p2 : Int) (gg hh : Nat → Nat → Nat) (k : Nat) : List O := [.var [.flt .f32 a, .flt .f32 b, .flt .f32 c, .flt .f32 u, .flt .f32 v, .flt .f32 w], .row 0 6 lp (.flns .f32 6 gg), .row 0 6 lq (.flns .f32 6 hh)]
theorem round114j (lp lq th s a b c u v w : Nat) (p1 p2 : Int) (gg hh : Nat → Nat → Nat) (k : Nat) (L : XK → List A → List (Option O) → Prop) :
    ((exec cfg19 (fun _ => true) (fun _ => none) 0 1000 (loopOf Try.f114 2) (litSt Try.f114.ntmps 336 [2, 9, 10, 12, 22, 23, 24, 28, 29, 30] [256, 160, 96] (I114j lp lq th s a b c u v w p1 p2 gg hh k) (J114j lp lq th s a b c u v w p1 p2 gg hh k))).rt [2, 9, 10, 12, 22, 23, 24, 28, 29, 30] [256, 160, 96]).Ok L =
    bif decide (Int.ofNat k < Int.ofNat lq) then
      bif decide (Int.ofNat k < Int.ofNat lq) then
        bif forder FloatKind.f32 (root32 (fop BinOp.add FloatKind.f32 (inn (fop BinOp.sub FloatKind.f32 u (hh k 3)) (fop BinOp.sub FloatKind.f32 v (hh k 4)) (fop BinOp.sub FloatKind.f32 w (hh k 5)) (fop BinOp.sub FloatKind.f32 u (hh k 3)) (fop BinOp.sub FloatKind.f32 v (hh k 4)) (fop BinOp.sub FloatKind.f32 w (hh k 5))) (fop BinOp.mul FloatKind.f32 th th))) (can FloatKind.f32 0) == some Ordering.gt then
          L (XK.normal) ([A.flt FloatKind.f32 th, A.flt FloatKind.f32 (fop BinOp.add FloatKind.f32 (psIn a b c u v w hh th s k) (fop BinOp.quo FloatKind.f32 (inn a b c (hh k 0) (hh k 1) (hh k 2)) (root32 (fop BinOp.add FloatKind.f32 (inn (fop BinOp.sub FloatKind.f32 u (hh k 3)) (fop BinOp.sub FloatKind.f32 v (hh k 4)) (fop BinOp.sub FloatKind.f32 w (hh k 5)) (fop BinOp.sub FloatKind.f32 u (hh k 3)) (fop BinOp.sub FloatKind.f32 v (hh k 4)) (fop BinOp.sub FloatKind.f32 w (hh k 5))) (fop BinOp.mul FloatKind.f32 th th))))), A.sl 96 lq, A.ptr 256 0, A.sl 160 lp, A.int IntKind.i64 p1, A.int IntKind.i64 p2, A.sl 96 lq, A.int IntKind.i64 (Int.ofNat lq), A.int IntKind.i64 (IntKind.i64.wrap (Int.ofNat k + Int.ofNat 1))]) ([some (O.var [A.flt FloatKind.f32 a, A.flt FloatKind.f32 b, A.flt FloatKind.f32 c, A.flt FloatKind.f32 u, A.flt FloatKind.f32 v, A.flt FloatKind.f32 w]), some (O.row 0 6 lp (Row.flns FloatKind.f32 6 gg)), some (O.row 0 6 lq (Row.flns FloatKind.f32 6 hh))])
        else
          L (XK.normal) ([A.flt FloatKind.f32 th, A.flt FloatKind.f32 (psIn a b c u v w hh th s k), A.sl 96 lq, A.ptr 256 0, A.sl 160 lp, A.int IntKind.i64 p1, A.int IntKind.i64 p2, A.sl 96 lq, A.int IntKind.i64 (Int.ofNat lq), A.int IntKind.i64 (IntKind.i64.wrap (Int.ofNat k + Int.ofNat 1))]) ([some (O.var [A.flt FloatKind.f32 a, A.flt FloatKind.f32 b, A.flt FloatKind.f32 c, A.flt FloatKind.f32 u, A.flt FloatKind.f32 v, A.flt FloatKind.f32 w]), some (O.row 0 6 lp (Row.flns FloatKind.f32 6 gg)), some (O.row 0 6 lq (Row.flns FloatKind.f32 6 hh))])
      else
        False
    else
      L (XK.exit 2) ([A.flt FloatKind.f32 th, A.flt FloatKind.f32 (psIn a b c u v w hh th s k), A.sl 96 lq, A.ptr 256 0, A.sl 160 lp, A.int IntKind.i64 p1, A.int IntKind.i64 p2, A.sl 96 lq, A.int IntKind.i64 (Int.ofNat lq), A.int IntKind.i64 (Int.ofNat k)]) ([some (O.var [A.flt FloatKind.f32 a, A.flt FloatKind.f32 b, A.flt FloatKind.f32 c, A.flt FloatKind.f32 u, A.flt FloatKind.f32 v, A.flt FloatKind.f32 w]), some (O.row 0 6 lp (Row.flns FloatKind.f32 6 gg)), some (O.row 0 6 lq (Row.flns FloatKind.f32 6 hh))]) := by kernel_rfl
noncomputable def F114j : List A → List (Option O) → Option R3
  | [.flt .f32 th, .flt .f32 s, .sl 96 lq, .ptr 256 0, .sl 160 lp, .int .i64 p1, .int .i64 p2, .sl 96 lq3, .int .i64 q, .int .i64 0], [some (.var [.flt .f32 a, .flt .f32 b, .flt .f32 c, .flt .f32 u, .flt .f32 v, .flt .f32 w]), some (.row 0 6 lp2 (.flns .f32 6 gg)), some (.row 0 6 lq2 (.flns .f32 6 hh))] => some (.ite (decide (q = Int.ofNat lq) && Nat.beq lp lp2 && Nat.beq lq lq2 && Nat.beq lq lq3 && Nat.ble lq 100000) (.leaf .normal (I114j lp lq th s a b c u v w p1 p2 gg hh (lq)) (J114j lp lq th s a b c u v w p1 p2 gg hh (lq))) .fail)
  | _, _ => none
theorem loop114j : CodeOK Try.prog (fun _ σ => sumAt Try.f114.ntmps 336 [2, 9, 10, 12, 22, 23, 24, 28, 29, 30] [256, 160, 96] F114j σ) (.block 2 (.loop (loopOf Try.f114 2))) := by
  refine block_ok (own := fun _ => true) (lp := (fun _ => none)) (un := 0) (fuel := 1000) cfg19_ok (lp_none _) fun az os R hF hok => ?_
  unfold F114j at hF
  split at hF
  · rename_i th s lq lp p1 p2 lq3 q a b c u v w lp2 gg lq2 hh
    injection hF with hF
    subst hF
    have hg := hok.guard
    have hg' := hg
    simp only [Bool.and_eq_true, Nat.ble_eq, Nat.beq_eq, decide_eq_true_eq] at hg'
    obtain ⟨⟨⟨⟨rfl, rfl⟩, rfl⟩, rfl⟩, hlq⟩ := hg'
    refine for_fact (ids := [256, 160, 96]) (fun _ => true) (lq) (I114j lp lq th s a b c u v w p1 p2 gg hh) (J114j lp lq th s a b c u v w p1 p2 gg hh) _ (.ret) (I114j lp lq th s a b c u v w p1 p2 gg hh) (I114j lp lq th s a b c u v w p1 p2 gg hh) (I114j lp lq th s a b c u v w p1 p2 gg hh (lq)) (J114j lp lq th s a b c u v w p1 p2 gg hh (lq)) rfl (OSims.self _) (fun _ => rfl) (fun _ => rfl) (fun _ => ALe.self _) (fun _ => rfl) (ALe.self _) (OSims.self _) rfl (fun h => by cases h) (fun k hk L h1 h2 h3 => ?_) fun L hL => ?_
    · rw [round114j]

      by_cases hkm : k < lq
      · refine condT (lt_dec hkm) ?_
        rw [wrap_succ (by omega)]
        refine condT (lt_dec hkm) ?_
        show cond (psC u v w hh th k) _ _
        have h := h1 hkm rfl _ (OSims.self (J114j lp lq th s a b c u v w p1 p2 gg hh (k + 1)))
        cases hs : psC u v w hh th k
        · simp only [I114j, psIn_f hs] at h; exact h
        · simp only [I114j, psIn_t hs] at h; exact h
      · refine condE (ge_dec (by omega)) ?_
        obtain rfl : k = lq := by omega
        exact h3 rfl
    · exact ⟨fun _ => hL.1 hg, fun N _ h => by cases h⟩
  · cases hF

noncomputable def I112j (lp lq i th s : Nat) (a0 a1 a2 b0 b1 b2 c0 c1 c2 d0 d1 d2 : Nat → Nat) (k : Nat) : List A := [.flt .f32 th, .sl 48 lp, .sl 49 lp, .sl 176 lq, .sl 177 lq, .flt .f32 (psIn (a0 i) (a1 i) (a2 i) (b0 i) (b1 i) (b2 i) (six c0 c1 c2 d0 d1 d2) th s k), .int .i64 (Int.ofNat i), .int .i64 (Int.ofNat k)]
noncomputable def J112j (lp lq i th s : Nat) (a0 a1 a2 b0 b1 b2 c0 c1 c2 d0 d1 d2 : Nat → Nat) (k : Nat) : List O := [.row 0 3 lp (.vecs .f32 a0 a1 a2), .row 0 3 lp (.vecs .f32 b0 b1 b2), .row 0 3 lq (.vecs .f32 c0 c1 c2), .row 0 3 lq (.vecs .f32 d0 d1 d2)]
theorem round112j (lp lq i th s : Nat) (a0 a1 a2 b0 b1 b2 c0 c1 c2 d0 d1 d2 : Nat → Nat) (k : Nat) (L : XK → List A → List (Option O) → Prop) :
    ((exec cfg19 (fun _ => true) (fun _ => none) 0 1000 (loopOf Try.f112 2) (litSt Try.f112.ntmps 384 [2, 9, 10, 11, 12, 13, 14, 15] [48, 49, 176, 177] (I112j lp lq i th s a0 a1 a2 b0 b1 b2 c0 c1 c2 d0 d1 d2 k) (J112j lp lq i th s a0 a1 a2 b0 b1 b2 c0 c1 c2 d0 d1 d2 k))).rt [2, 9, 10, 11, 12, 13, 14, 15] [48, 49, 176, 177]).Ok L =
    bif decide (Int.ofNat k < Int.ofNat lq) then
      bif decide (Int.ofNat k < Int.ofNat lq) && (decide (Int.ofNat i < Int.ofNat lp) && true) then
        bif forder FloatKind.f32 (root32 (fop BinOp.add FloatKind.f32 (inn (fop BinOp.sub FloatKind.f32 (b0 i) (d0 k)) (fop BinOp.sub FloatKind.f32 (b1 i) (d1 k)) (fop BinOp.sub FloatKind.f32 (b2 i) (d2 k)) (fop BinOp.sub FloatKind.f32 (b0 i) (d0 k)) (fop BinOp.sub FloatKind.f32 (b1 i) (d1 k)) (fop BinOp.sub FloatKind.f32 (b2 i) (d2 k))) (fop BinOp.mul FloatKind.f32 th th))) (can FloatKind.f32 0) == some Ordering.gt then
          bif decide (Int.ofNat k < Int.ofNat lq) && (decide (Int.ofNat i < Int.ofNat lp) && true) then
            L (XK.normal) ([A.flt FloatKind.f32 th, A.sl 48 lp, A.sl 49 lp, A.sl 176 lq, A.sl 177 lq, A.flt FloatKind.f32 (fop BinOp.add FloatKind.f32 (psIn (a0 i) (a1 i) (a2 i) (b0 i) (b1 i) (b2 i) (six c0 c1 c2 d0 d1 d2) th s k) (fop BinOp.quo FloatKind.f32 (inn (a0 i) (a1 i) (a2 i) (c0 k) (c1 k) (c2 k)) (root32 (fop BinOp.add FloatKind.f32 (inn (fop BinOp.sub FloatKind.f32 (b0 i) (d0 k)) (fop BinOp.sub FloatKind.f32 (b1 i) (d1 k)) (fop BinOp.sub FloatKind.f32 (b2 i) (d2 k)) (fop BinOp.sub FloatKind.f32 (b0 i) (d0 k)) (fop BinOp.sub FloatKind.f32 (b1 i) (d1 k)) (fop BinOp.sub FloatKind.f32 (b2 i) (d2 k))) (fop BinOp.mul FloatKind.f32 th th))))), A.int IntKind.i64 (Int.ofNat i), A.int IntKind.i64 (IntKind.i64.wrap (Int.ofNat k + Int.ofNat 1))]) ([some (O.row 0 3 lp (Row.vecs FloatKind.f32 a0 a1 a2)), some (O.row 0 3 lp (Row.vecs FloatKind.f32 b0 b1 b2)), some (O.row 0 3 lq (Row.vecs FloatKind.f32 c0 c1 c2)), some (O.row 0 3 lq (Row.vecs FloatKind.f32 d0 d1 d2))])
          else
            False
        else
          L (XK.normal) ([A.flt FloatKind.f32 th, A.sl 48 lp, A.sl 49 lp, A.sl 176 lq, A.sl 177 lq, A.flt FloatKind.f32 (psIn (a0 i) (a1 i) (a2 i) (b0 i) (b1 i) (b2 i) (six c0 c1 c2 d0 d1 d2) th s k), A.int IntKind.i64 (Int.ofNat i), A.int IntKind.i64 (IntKind.i64.wrap (Int.ofNat k + Int.ofNat 1))]) ([some (O.row 0 3 lp (Row.vecs FloatKind.f32 a0 a1 a2)), some (O.row 0 3 lp (Row.vecs FloatKind.f32 b0 b1 b2)), some (O.row 0 3 lq (Row.vecs FloatKind.f32 c0 c1 c2)), some (O.row 0 3 lq (Row.vecs FloatKind.f32 d0 d1 d2))])
      else
        False
    else
      L (XK.exit 2) ([A.flt FloatKind.f32 th, A.sl 48 lp, A.sl 49 lp, A.sl 176 lq, A.sl 177 lq, A.flt FloatKind.f32 (psIn (a0 i) (a1 i) (a2 i) (b0 i) (b1 i) (b2 i) (six c0 c1 c2 d0 d1 d2) th s k), A.int IntKind.i64 (Int.ofNat i), A.int IntKind.i64 (Int.ofNat k)]) ([some (O.row 0 3 lp (Row.vecs FloatKind.f32 a0 a1 a2)), some (O.row 0 3 lp (Row.vecs FloatKind.f32 b0 b1 b2)), some (O.row 0 3 lq (Row.vecs FloatKind.f32 c0 c1 c2)), some (O.row 0 3 lq (Row.vecs FloatKind.f32 d0 d1 d2))]) := by kernel_rfl
noncomputable def F112j : List A → List (Option O) → Option R3
  | [.flt .f32 th, .sl 48 lp, .sl 49 lp2, .sl 176 lq, .sl 177 lq2, .flt .f32 s, .int .i64 (.ofNat i), .int .i64 0], [some (.row 0 3 lp3 (.vecs .f32 a0 a1 a2)), some (.row 0 3 lp4 (.vecs .f32 b0 b1 b2)), some (.row 0 3 lq3 (.vecs .f32 c0 c1 c2)), some (.row 0 3 lq4 (.vecs .f32 d0 d1 d2))] => some (.ite (Nat.beq lp lp2 && Nat.beq lp lp3 && Nat.beq lp lp4 && Nat.beq lq lq2 && Nat.beq lq lq3 && Nat.beq lq lq4 && Nat.ble lq 100000 && Nat.blt i lp) (.leaf .normal (I112j lp lq i th s a0 a1 a2 b0 b1 b2 c0 c1 c2 d0 d1 d2 (lq)) (J112j lp lq i th s a0 a1 a2 b0 b1 b2 c0 c1 c2 d0 d1 d2 (lq))) .fail)
  | _, _ => none
theorem loop112j : CodeOK Try.prog (fun _ σ => sumAt Try.f112.ntmps 384 [2, 9, 10, 11, 12, 13, 14, 15] [48, 49, 176, 177] F112j σ) (.block 2 (.loop (loopOf Try.f112 2))) := by
  refine block_ok (own := fun _ => true) (lp := (fun _ => none)) (un := 0) (fuel := 1000) cfg19_ok (lp_none _) fun az os R hF hok => ?_
  unfold F112j at hF
  split at hF
  · rename_i th lp lp2 lq lq2 s i lp3 a0 a1 a2 lp4 b0 b1 b2 lq3 c0 c1 c2 lq4 d0 d1 d2
    injection hF with hF
    subst hF
    have hg := hok.guard
    have hg' := hg
    simp only [Bool.and_eq_true, Nat.ble_eq, Nat.beq_eq, decide_eq_true_eq] at hg'
    obtain ⟨⟨⟨⟨⟨⟨⟨rfl, rfl⟩, rfl⟩, rfl⟩, rfl⟩, rfl⟩, hlq⟩, hi⟩ := hg'
    have hi := blt_lt' hi
    refine for_fact (ids := [48, 49, 176, 177]) (fun _ => true) (lq) (I112j lp lq i th s a0 a1 a2 b0 b1 b2 c0 c1 c2 d0 d1 d2) (J112j lp lq i th s a0 a1 a2 b0 b1 b2 c0 c1 c2 d0 d1 d2) _ (.ret) (I112j lp lq i th s a0 a1 a2 b0 b1 b2 c0 c1 c2 d0 d1 d2) (I112j lp lq i th s a0 a1 a2 b0 b1 b2 c0 c1 c2 d0 d1 d2) (I112j lp lq i th s a0 a1 a2 b0 b1 b2 c0 c1 c2 d0 d1 d2 (lq)) (J112j lp lq i th s a0 a1 a2 b0 b1 b2 c0 c1 c2 d0 d1 d2 (lq)) rfl (OSims.self _) (fun _ => rfl) (fun _ => rfl) (fun _ => ALe.self _) (fun _ => rfl) (ALe.self _) (OSims.self _) rfl (fun h => by cases h) (fun k hk L h1 h2 h3 => ?_) fun L hL => ?_
    · rw [round112j]

      by_cases hkm : k < lq
      · refine condT (lt_dec hkm) ?_
        rw [wrap_succ (by omega)]
        refine condT (by rw [lt_dec hkm, lt_dec hi]; rfl) ?_
        show cond (psC (b0 i) (b1 i) (b2 i) (six c0 c1 c2 d0 d1 d2) th k) _ _
        have h := h1 hkm rfl _ (OSims.self (J112j lp lq i th s a0 a1 a2 b0 b1 b2 c0 c1 c2 d0 d1 d2 (k + 1)))
        cases hs : psC (b0 i) (b1 i) (b2 i) (six c0 c1 c2 d0 d1 d2) th k
        · simp only [I112j, psIn_f hs] at h; exact h
        · refine condT rfl ?_
          refine condT (by rw [lt_dec hkm, lt_dec hi]; rfl) ?_
          simp only [I112j, psIn_t hs] at h; exact h
      · refine condE (ge_dec (by omega)) ?_
        obtain rfl : k = lq := by omega
        exact h3 rfl
    · exact ⟨fun _ => hL.1 hg, fun N _ h => by cases h⟩
  · cases hF

noncomputable def lpi114i : List (Nat × (St → T)) := [(2, sumAt Try.f114.ntmps 336 [2, 9, 10, 12, 22, 23, 24, 28, 29, 30] [256, 160, 96] F114j)]
theorem lpi114i_ok : LpOK Try.prog (look lpi114i) (loopOf Try.f114 0) := lp_in (lp_loops (by kernel_rfl) (by kernel_rfl) fun p hp => by
  simp only [lpi114i, List.mem_cons, List.not_mem_nil, or_false] at hp
  rcases hp with rfl
  · exact loop114j) _
noncomputable def I114i (lp lq th s : Nat) (gg hh : Nat → Nat → Nat) (k : Nat) : List A := [.flt .f32 th, .flt .f32 (psOut gg hh th lq s k), .sl 96 lq, .sl 160 lp, .int .i64 (Int.ofNat lp), .int .i64 (Int.ofNat k)]
noncomputable def J114i (lp lq th s : Nat) (gg hh : Nat → Nat → Nat) (k : Nat) : List O := [.row 0 6 lp (.flns .f32 6 gg), .row 0 6 lq (.flns .f32 6 hh)]
theorem round114i (lp lq th s : Nat) (gg hh : Nat → Nat → Nat) (k : Nat) (L : XK → List A → List (Option O) → Prop) :
    ((exec cfg19 (fun _ => true) (look lpi114i) 0 1000 (loopOf Try.f114 0) (litSt Try.f114.ntmps 208 [2, 9, 10, 22, 23, 24] [160, 96] (I114i lp lq th s gg hh k) (J114i lp lq th s gg hh k))).rt [2, 9, 10, 22, 23, 24] [160, 96]).Ok L =
    bif decide (Int.ofNat k < Int.ofNat lp) then
      bif decide (Int.ofNat k < Int.ofNat lp) then
        bif decide (Int.ofNat lq = Int.ofNat lq) && lp.beq lp && lq.beq lq && lq.beq lq && lq.ble 100000 then
          L (XK.normal) ([A.flt FloatKind.f32 th, A.flt FloatKind.f32 (psIn (gg k 0) (gg k 1) (gg k 2) (gg k 3) (gg k 4) (gg k 5) hh th (psOut gg hh th lq s k) lq), A.sl 96 lq, A.sl 160 lp, A.int IntKind.i64 (Int.ofNat lp), A.int IntKind.i64 (IntKind.i64.wrap (Int.ofNat k + Int.ofNat 1))]) ([some (O.row 0 6 lp (Row.flns FloatKind.f32 6 gg)), some (O.row 0 6 lq (Row.flns FloatKind.f32 6 hh))])
        else
          False
      else
        False
    else
      L (XK.exit 0) ([A.flt FloatKind.f32 th, A.flt FloatKind.f32 (psOut gg hh th lq s k), A.sl 96 lq, A.sl 160 lp, A.int IntKind.i64 (Int.ofNat lp), A.int IntKind.i64 (Int.ofNat k)]) ([some (O.row 0 6 lp (Row.flns FloatKind.f32 6 gg)), some (O.row 0 6 lq (Row.flns FloatKind.f32 6 hh))]) := by kernel_rfl
noncomputable def F114i : List A → List (Option O) → Option R3
  | [.flt .f32 th, .flt .f32 s, .sl 96 lq, .sl 160 lp, .int .i64 q, .int .i64 0], [some (.row 0 6 lp2 (.flns .f32 6 gg)), some (.row 0 6 lq2 (.flns .f32 6 hh))] => some (.ite (decide (q = Int.ofNat lp) && Nat.beq lp lp2 && Nat.beq lq lq2 && Nat.ble lp 100000 && Nat.ble lq 100000) (.leaf .normal (I114i lp lq th s gg hh (lp)) (J114i lp lq th s gg hh (lp))) .fail)
  | _, _ => none
theorem loop114i : CodeOK Try.prog (fun _ σ => sumAt Try.f114.ntmps 208 [2, 9, 10, 22, 23, 24] [160, 96] F114i σ) (.block 0 (.loop (loopOf Try.f114 0))) := by
  refine block_ok (own := fun _ => true) (lp := (look lpi114i)) (un := 0) (fuel := 1000) cfg19_ok lpi114i_ok fun az os R hF hok => ?_
  unfold F114i at hF
  split at hF
  · rename_i th s lq lp q lp2 gg lq2 hh
    injection hF with hF
    subst hF
    have hg := hok.guard
    have hg' := hg
    simp only [Bool.and_eq_true, Nat.ble_eq, Nat.beq_eq, decide_eq_true_eq] at hg'
    obtain ⟨⟨⟨⟨rfl, rfl⟩, rfl⟩, hlp⟩, hlq⟩ := hg'
    refine for_fact (ids := [160, 96]) (fun _ => true) (lp) (I114i lp lq th s gg hh) (J114i lp lq th s gg hh) _ (.ret) (I114i lp lq th s gg hh) (I114i lp lq th s gg hh) (I114i lp lq th s gg hh (lp)) (J114i lp lq th s gg hh (lp)) rfl (OSims.self _) (fun _ => rfl) (fun _ => rfl) (fun _ => ALe.self _) (fun _ => rfl) (ALe.self _) (OSims.self _) rfl (fun h => by cases h) (fun k hk L h1 h2 h3 => ?_) fun L hL => ?_
    · rw [round114i]

      by_cases hkm : k < lp
      · refine condT (lt_dec hkm) ?_
        rw [wrap_succ (by omega)]
        refine condT (lt_dec hkm) ?_
        refine condT (by rw [decide_eq_true rfl, Nat.beq_refl, Nat.beq_refl, ble_of hlq]; rfl) ?_
        exact h1 hkm rfl _ (OSims.self (J114i lp lq th s gg hh (k + 1)))
      · refine condE (ge_dec (by omega)) ?_
        obtain rfl : k = lp := by omega
        exact h3 rfl
    · exact ⟨fun _ => hL.1 hg, fun N _ h => by cases h⟩
  · cases hF

noncomputable def lpi112i : List (Nat × (St → T)) := [(2, sumAt Try.f112.ntmps 384 [2, 9, 10, 11, 12, 13, 14, 15] [48, 49, 176, 177] F112j)]
theorem lpi112i_ok : LpOK Try.prog (look lpi112i) (loopOf Try.f112 0) := lp_in (lp_loops (by kernel_rfl) (by kernel_rfl) fun p hp => by
  simp only [lpi112i, List.mem_cons, List.not_mem_nil, or_false] at hp
  rcases hp with rfl
  · exact loop112j) _
noncomputable def I112i (lp lq th s : Nat) (a0 a1 a2 b0 b1 b2 c0 c1 c2 d0 d1 d2 : Nat → Nat) (k : Nat) : List A := [.flt .f32 th, .sl 48 lp, .sl 49 lp, .sl 176 lq, .sl 177 lq, .flt .f32 (psOut (six a0 a1 a2 b0 b1 b2) (six c0 c1 c2 d0 d1 d2) th lq s k), .int .i64 (Int.ofNat k)]
noncomputable def J112i (lp lq th s : Nat) (a0 a1 a2 b0 b1 b2 c0 c1 c2 d0 d1 d2 : Nat → Nat) (k : Nat) : List O := [.row 0 3 lp (.vecs .f32 a0 a1 a2), .row 0 3 lp (.vecs .f32 b0 b1 b2), .row 0 3 lq (.vecs .f32 c0 c1 c2), .row 0 3 lq (.vecs .f32 d0 d1 d2)]
theorem round112i (lp lq th s : Nat) (a0 a1 a2 b0 b1 b2 c0 c1 c2 d0 d1 d2 : Nat → Nat) (k : Nat) (L : XK → List A → List (Option O) → Prop) :
    ((exec cfg19 (fun _ => true) (look lpi112i) 0 1000 (loopOf Try.f112 0) (litSt Try.f112.ntmps 304 [2, 9, 10, 11, 12, 13, 14] [48, 49, 176, 177] (I112i lp lq th s a0 a1 a2 b0 b1 b2 c0 c1 c2 d0 d1 d2 k) (J112i lp lq th s a0 a1 a2 b0 b1 b2 c0 c1 c2 d0 d1 d2 k))).rt [2, 9, 10, 11, 12, 13, 14] [48, 49, 176, 177]).Ok L =
    bif decide (Int.ofNat k < Int.ofNat lp) then
      bif lp.beq lp && lp.beq lp && lp.beq lp && lq.beq lq && lq.beq lq && lq.beq lq && lq.ble 100000 && k.blt lp then
        L (XK.normal) ([A.flt FloatKind.f32 th, A.sl 48 lp, A.sl 49 lp, A.sl 176 lq, A.sl 177 lq, A.flt FloatKind.f32 (psIn (a0 k) (a1 k) (a2 k) (b0 k) (b1 k) (b2 k) (six c0 c1 c2 d0 d1 d2) th (psOut (six a0 a1 a2 b0 b1 b2) (six c0 c1 c2 d0 d1 d2) th lq s k) lq), A.int IntKind.i64 (IntKind.i64.wrap (Int.ofNat k + Int.ofNat 1))]) ([some (O.row 0 3 lp (Row.vecs FloatKind.f32 a0 a1 a2)), some (O.row 0 3 lp (Row.vecs FloatKind.f32 b0 b1 b2)), some (O.row 0 3 lq (Row.vecs FloatKind.f32 c0 c1 c2)), some (O.row 0 3 lq (Row.vecs FloatKind.f32 d0 d1 d2))])
      else
        False
    else
      L (XK.exit 0) ([A.flt FloatKind.f32 th, A.sl 48 lp, A.sl 49 lp, A.sl 176 lq, A.sl 177 lq, A.flt FloatKind.f32 (psOut (six a0 a1 a2 b0 b1 b2) (six c0 c1 c2 d0 d1 d2) th lq s k), A.int IntKind.i64 (Int.ofNat k)]) ([some (O.row 0 3 lp (Row.vecs FloatKind.f32 a0 a1 a2)), some (O.row 0 3 lp (Row.vecs FloatKind.f32 b0 b1 b2)), some (O.row 0 3 lq (Row.vecs FloatKind.f32 c0 c1 c2)), some (O.row 0 3 lq (Row.vecs FloatKind.f32 d0 d1 d2))]) := by kernel_rfl
noncomputable def F112i : List A → List (Option O) → Option R3
  | [.flt .f32 th, .sl 48 lp, .sl 49 lp2, .sl 176 lq, .sl 177 lq2, .flt .f32 s, .int .i64 0], [some (.row 0 3 lp3 (.vecs .f32 a0 a1 a2)), some (.row 0 3 lp4 (.vecs .f32 b0 b1 b2)), some (.row 0 3 lq3 (.vecs .f32 c0 c1 c2)), some (.row 0 3 lq4 (.vecs .f32 d0 d1 d2))] => some (.ite (Nat.beq lp lp2 && Nat.beq lp lp3 && Nat.beq lp lp4 && Nat.beq lq lq2 && Nat.beq lq lq3 && Nat.beq lq lq4 && Nat.ble lp 100000 && Nat.ble lq 100000) (.leaf .normal (I112i lp lq th s a0 a1 a2 b0 b1 b2 c0 c1 c2 d0 d1 d2 (lp)) (J112i lp lq th s a0 a1 a2 b0 b1 b2 c0 c1 c2 d0 d1 d2 (lp))) .fail)
  | _, _ => none
theorem loop112i : CodeOK Try.prog (fun _ σ => sumAt Try.f112.ntmps 304 [2, 9, 10, 11, 12, 13, 14] [48, 49, 176, 177] F112i σ) (.block 0 (.loop (loopOf Try.f112 0))) := by
  refine block_ok (own := fun _ => true) (lp := (look lpi112i)) (un := 0) (fuel := 1000) cfg19_ok lpi112i_ok fun az os R hF hok => ?_
  unfold F112i at hF
  split at hF
  · rename_i th lp lp2 lq lq2 s lp3 a0 a1 a2 lp4 b0 b1 b2 lq3 c0 c1 c2 lq4 d0 d1 d2
    injection hF with hF
    subst hF
    have hg := hok.guard
    have hg' := hg
    simp only [Bool.and_eq_true, Nat.ble_eq, Nat.beq_eq, decide_eq_true_eq] at hg'
    obtain ⟨⟨⟨⟨⟨⟨⟨rfl, rfl⟩, rfl⟩, rfl⟩, rfl⟩, rfl⟩, hlp⟩, hlq⟩ := hg'
    refine for_fact (ids := [48, 49, 176, 177]) (fun _ => true) (lp) (I112i lp lq th s a0 a1 a2 b0 b1 b2 c0 c1 c2 d0 d1 d2) (J112i lp lq th s a0 a1 a2 b0 b1 b2 c0 c1 c2 d0 d1 d2) _ (.ret) (I112i lp lq th s a0 a1 a2 b0 b1 b2 c0 c1 c2 d0 d1 d2) (I112i lp lq th s a0 a1 a2 b0 b1 b2 c0 c1 c2 d0 d1 d2) (I112i lp lq th s a0 a1 a2 b0 b1 b2 c0 c1 c2 d0 d1 d2 (lp)) (J112i lp lq th s a0 a1 a2 b0 b1 b2 c0 c1 c2 d0 d1 d2 (lp)) rfl (OSims.self _) (fun _ => rfl) (fun _ => rfl) (fun _ => ALe.self _) (fun _ => rfl) (ALe.self _) (OSims.self _) rfl (fun h => by cases h) (fun k hk L h1 h2 h3 => ?_) fun L hL => ?_
    · rw [round112i]

      by_cases hkm : k < lp
      · refine condT (lt_dec hkm) ?_
        rw [wrap_succ (by omega)]
        refine condT (by rw [Nat.beq_refl, Nat.beq_refl, ble_of hlq, lt_blt hkm]; rfl) ?_
        exact h1 hkm rfl _ (OSims.self (J112i lp lq th s a0 a1 a2 b0 b1 b2 c0 c1 c2 d0 d1 d2 (k + 1)))
      · refine condE (ge_dec (by omega)) ?_
        obtain rfl : k = lp := by omega
        exact h3 rfl
    · exact ⟨fun _ => hL.1 hg, fun N _ h => by cases h⟩
  · cases hF

/-- The sum over all pairs of pieces of two wires. -/
noncomputable def psW (n : Nat) (x y z : Nat → Nat) (cl : Bool) (n2 : Nat) (x2 y2 z2 : Nat → Nat) (cl2 : Bool) (th pp : Nat) : Nat := psOut (pc (sg n x y z) pp) (pc (sg n2 x2 y2 z2) pp) th (pp * cnt n2 cl2) (can .f32 0) (pp * cnt n cl)
theorem pcnt_le {n pp : Nat} {cl : Bool} (hn : n ≤ 1000) (hpp : pp ≤ 32) : pp * cnt n cl ≤ 100000 := by
  have h1 := cnt_le n cl
  have h2 : pp * cnt n cl ≤ 32 * 1000 := Nat.mul_le_mul hpp (by omega)
  omega
noncomputable def lp114 : List (Nat × (St → T)) := [(0, sumAt Try.f114.ntmps 208 [2, 9, 10, 22, 23, 24] [160, 96] F114i)]
theorem lp114_ok : LpOK Try.prog (look lp114) (bodyOf Try.f114) := lp_loops (by kernel_rfl) (by kernel_rfl) fun p hp => by
  simp only [lp114, List.mem_cons, List.not_mem_nil, or_false] at hp
  rcases hp with rfl
  · exact loop114i
theorem auto114 (n cur n2 cur2 th pp : Nat) (x y z x2 y2 z2 : Nat → Nat) (cl cl2 : Bool) : autoLp cfg19 (look lp114) Try.f114 [.agg [.ro 3 n (.vecs .f32 x y z), .bool cl, .flt .f32 cur], .agg [.ro 3 n2 (.vecs .f32 x2 y2 z2), .bool cl2, .flt .f32 cur2], .flt .f32 th, .int .i64 (.ofNat pp)] =
    some (Nat.ble 1 n2 && n2.ble 1000 && pp.ble 32 && (Nat.ble 1 n && n.ble 1000 && pp.ble 32 && (decide (Int.ofNat (pp * cnt n cl) = Int.ofNat (pp * cnt n cl)) && (pp * cnt n cl).beq (pp * cnt n cl) && (pp * cnt n2 cl2).beq (pp * cnt n2 cl2) && (pp * cnt n cl).ble 100000 && (pp * cnt n2 cl2).ble 100000 && true)), A.flt FloatKind.f32 (psOut (pc (sg n x y z) pp) (pc (sg n2 x2 y2 z2) pp) th (pp * cnt n2 cl2) (can FloatKind.f32 0) (pp * cnt n cl))) := by kernel_rfl
noncomputable def s114 : List A → Option (Bool × A)
  | [.agg [.ro 3 n (.vecs .f32 x y z), .bool cl, .flt .f32 cur], .agg [.ro 3 n2 (.vecs .f32 x2 y2 z2), .bool cl2, .flt .f32 cur2], .flt .f32 th, .int .i64 (.ofNat pp)] => some (Nat.ble 1 n && Nat.ble n 1000 && Nat.ble 1 n2 && Nat.ble n2 1000 && Nat.ble pp 32, .flt .f32 (psW n x y z cl n2 x2 y2 z2 cl2 th pp))
  | _ => none
theorem s114_at : EnvAt Try.prog 114 s114 := of_auto cfg19_ok lp114_ok Try.func114 (by kernel_rfl) (by kernel_rfl) fun ds cc rr h hc => by
  unfold s114 at h
  split at h
  · rename_i n x y z cl cur n2 x2 y2 z2 cl2 cur2 th pp
    simp only [Option.some.injEq, Prod.mk.injEq] at h
    obtain ⟨rfl, rfl⟩ := h
    refine auto_fit (auto114 n cur n2 cur2 th pp x y z x2 y2 z2 cl cl2) ?_ ?_
    · rfl
    · simp only [Bool.and_eq_true, Nat.ble_eq] at hc
      obtain ⟨⟨⟨⟨k1, k2⟩, k3⟩, k4⟩, k5⟩ := hc
      rw [ble_of k1, ble_of k2, ble_of k3, ble_of k4, ble_of k5, decide_eq_true rfl, Nat.beq_refl, Nat.beq_refl, ble_of (pcnt_le (cl := cl) k2 k5), ble_of (pcnt_le (cl := cl2) k4 k5)]; rfl
  · cases h

noncomputable def lp112 : List (Nat × (St → T)) := [(0, sumAt Try.f112.ntmps 304 [2, 9, 10, 11, 12, 13, 14] [48, 49, 176, 177] F112i)]
theorem lp112_ok : LpOK Try.prog (look lp112) (bodyOf Try.f112) := lp_loops (by kernel_rfl) (by kernel_rfl) fun p hp => by
  simp only [lp112, List.mem_cons, List.not_mem_nil, or_false] at hp
  rcases hp with rfl
  · exact loop112i
theorem auto112 (n cur n2 cur2 th pp : Nat) (x y z x2 y2 z2 : Nat → Nat) (cl cl2 : Bool) : autoLp cfg19 (look lp112) Try.f112 [.rop (.agg [.ro 3 n (.vecs .f32 x y z), .bool cl, .flt .f32 cur]) 0, .rop (.agg [.ro 3 n2 (.vecs .f32 x2 y2 z2), .bool cl2, .flt .f32 cur2]) 0, .flt .f32 th, .int .i64 (.ofNat pp)] =
    some (Nat.ble 1 n && n.ble 1000 && pp.ble 32 && (Nat.ble 1 n2 && n2.ble 1000 && pp.ble 32 && ((pp * cnt n cl).beq (pp * cnt n cl) && (pp * cnt n cl).beq (pp * cnt n cl) && (pp * cnt n cl).beq (pp * cnt n cl) && (pp * cnt n2 cl2).beq (pp * cnt n2 cl2) && (pp * cnt n2 cl2).beq (pp * cnt n2 cl2) && (pp * cnt n2 cl2).beq (pp * cnt n2 cl2) && (pp * cnt n cl).ble 100000 && (pp * cnt n2 cl2).ble 100000 && true)), A.flt FloatKind.f32 (psOut (six (fun j => pc (sg n x y z) pp j 0) (fun j => pc (sg n x y z) pp j 1) (fun j => pc (sg n x y z) pp j 2) (fun j => pc (sg n x y z) pp j 3) (fun j => pc (sg n x y z) pp j 4) fun j => pc (sg n x y z) pp j 5) (six (fun j => pc (sg n2 x2 y2 z2) pp j 0) (fun j => pc (sg n2 x2 y2 z2) pp j 1) (fun j => pc (sg n2 x2 y2 z2) pp j 2) (fun j => pc (sg n2 x2 y2 z2) pp j 3) (fun j => pc (sg n2 x2 y2 z2) pp j 4) fun j => pc (sg n2 x2 y2 z2) pp j 5) th (pp * cnt n2 cl2) (can FloatKind.f32 0) (pp * cnt n cl))) := by kernel_rfl
noncomputable def s112 : List A → Option (Bool × A)
  | [.rop (.agg [.ro 3 n (.vecs .f32 x y z), .bool cl, .flt .f32 cur]) 0, .rop (.agg [.ro 3 n2 (.vecs .f32 x2 y2 z2), .bool cl2, .flt .f32 cur2]) 0, .flt .f32 th, .int .i64 (.ofNat pp)] => some (Nat.ble 1 n && Nat.ble n 1000 && Nat.ble 1 n2 && Nat.ble n2 1000 && Nat.ble pp 32, .flt .f32 (psW n x y z cl n2 x2 y2 z2 cl2 th pp))
  | _ => none
theorem s112_at : EnvAt Try.prog 112 s112 := of_auto cfg19_ok lp112_ok Try.func112 (by kernel_rfl) (by kernel_rfl) fun ds cc rr h hc => by
  unfold s112 at h
  split at h
  · rename_i n x y z cl cur n2 x2 y2 z2 cl2 cur2 th pp
    simp only [Option.some.injEq, Prod.mk.injEq] at h
    obtain ⟨rfl, rfl⟩ := h
    refine auto_fit (auto112 n cur n2 cur2 th pp x y z x2 y2 z2 cl cl2) ?_ ?_
    · unfold psW; rw [← six_pc (sg n x y z) pp, ← six_pc (sg n2 x2 y2 z2) pp]; rfl
    · simp only [Bool.and_eq_true, Nat.ble_eq] at hc
      obtain ⟨⟨⟨⟨k1, k2⟩, k3⟩, k4⟩, k5⟩ := hc
      rw [ble_of k1, ble_of k2, ble_of k3, ble_of k4, ble_of k5, Nat.beq_refl, Nat.beq_refl, ble_of (pcnt_le (cl := cl) k2 k5), ble_of (pcnt_le (cl := cl2) k4 k5)]; rfl
  · cases h

end Go.Fw.W1

/-
  The sum over pairs of pieces of two wires: the law.
-/
namespace Go.Fw.W1
open Go.Proofs

noncomputable def env20 : List (Nat × (List A → Option (Bool × A))) := (114, s114) :: (112, s112) :: env19
theorem env20_ok : EnvOK Try.prog (look env20) := (env_cons s114_at (env_cons s112_at env19_ok))
noncomputable def cfg20 : Cfg := mkCfg tab [] xts (look env20)
theorem cfg20_ok : CfgOK Try.prog cfg20 := cfg_ok tab_eq (no_fts _) xts_ok env20_ok mixed
noncomputable def two (n cur : Nat) (x y z : Nat → Nat) (n2 cur2 : Nat) (x2 y2 z2 : Nat → Nat) (th : Nat) (p : Int) : Bool := bif bif bif okW n cur x y z then okW n2 cur2 x2 y2 z2 else false then least th else false then inI p 1 8 else false
theorem two_ok {n cur : Nat} {x y z : Nat → Nat} {n2 cur2 : Nat} {x2 y2 z2 : Nat → Nat} {th : Nat} {p : Int} (h : two n cur x y z n2 cur2 x2 y2 z2 th p = true) : (2 ≤ n ∧ n ≤ 48) ∧ (2 ≤ n2 ∧ n2 ≤ 48) ∧ 1 ≤ p ∧ p ≤ 8 := by
  unfold two at h
  cases h1 : okW n cur x y z
  · rw [h1] at h; cases h
  cases h2 : okW n2 cur2 x2 y2 z2
  · rw [h1, h2] at h; cases h
  rw [h1, h2] at h
  cases h3 : least th
  · rw [h3] at h; cases h
  rw [h3] at h
  have h4 : inI p 1 8 = true := h
  unfold inI at h4
  cases h5 : decide (p ≥ 1)
  · rw [h5] at h4; cases h4
  · rw [h5] at h4
    exact ⟨okW_n h1, okW_n h2, of_decide_eq_true h5, of_decide_eq_true h4⟩
theorem not_two (n cur : Nat) (x y z : Nat → Nat) (n2 cur2 : Nat) (x2 y2 z2 : Nat → Nat) (th : Nat) (p : Int) : (bif bif bif !okW n cur x y z then true else !okW n2 cur2 x2 y2 z2 then true else !least th then true else !inI p (Int.ofNat 1) (Int.ofNat 8)) = !two n cur x y z n2 cur2 x2 y2 z2 th p := by
  show (bif bif bif !okW n cur x y z then true else !okW n2 cur2 x2 y2 z2 then true else !least th then true else !inI p 1 8) = _
  unfold two
  cases okW n cur x y z <;> cases okW n2 cur2 x2 y2 z2 <;> cases least th <;> cases inI p 1 8 <;> rfl
theorem two_neg (n cur : Nat) (x y z : Nat → Nat) (n2 cur2 : Nat) (x2 y2 z2 : Nat → Nat) (th pp : Nat) : two n cur x y z n2 cur2 x2 y2 z2 th (Int.negSucc pp) = false := by
  cases h : two n cur x y z n2 cur2 x2 y2 z2 th (Int.negSucc pp)
  · rfl
  · have := (two_ok h).2.2.1; omega
theorem auto111 (n cur n2 cur2 th : Nat) (x y z x2 y2 z2 : Nat → Nat) (cl cl2 : Bool) (p : Int) : autoLp cfg20 (fun _ => none) Try.f111 [.rop (.agg [.ro 3 n (.vecs .f32 x y z), .bool cl, .flt .f32 cur]) 0, .rop (.agg [.ro 3 n2 (.vecs .f32 x2 y2 z2), .bool cl2, .flt .f32 cur2]) 0, .flt .f32 th, .int .i64 p] =
    some (n.ble 4611686018427387000 && ((n2.ble 4611686018427387000 || !okW n cur x y z == true) && true), A.bool (bif bif bif okW n cur x y z then okW n2 cur2 x2 y2 z2 else false then least th else false then inI p (Int.ofNat 1) (Int.ofNat 8) else false)) := by kernel_rfl
noncomputable def s111 : List A → Option (Bool × A)
  | [.rop (.agg [.ro 3 n (.vecs .f32 x y z), .bool cl, .flt .f32 cur]) 0, .rop (.agg [.ro 3 n2 (.vecs .f32 x2 y2 z2), .bool cl2, .flt .f32 cur2]) 0, .flt .f32 th, .int .i64 p] => some (Nat.ble n 1048576 && Nat.ble n2 1048576, .bool (two n cur x y z n2 cur2 x2 y2 z2 th p))
  | _ => none
theorem s111_at : EnvAt Try.prog 111 s111 := of_auto cfg20_ok (lp_none _) Try.func111 (by kernel_rfl) (by kernel_rfl) fun ds cc rr h hc => by
  unfold s111 at h
  split at h
  · rename_i n x y z cl cur n2 x2 y2 z2 cl2 cur2 th p
    simp only [Option.some.injEq, Prod.mk.injEq] at h
    obtain ⟨rfl, rfl⟩ := h
    refine auto_fit (auto111 n cur n2 cur2 th x y z x2 y2 z2 cl cl2 p) ?_ ?_
    · rfl
    · simp only [Bool.and_eq_true, Nat.ble_eq] at hc
      rw [ble_of (show n ≤ 4611686018427387000 by omega), ble_of (show n2 ≤ 4611686018427387000 by omega)]
      simp
  · cases h

noncomputable def env21 : List (Nat × (List A → Option (Bool × A))) := (111, s111) :: env20
theorem env21_ok : EnvOK Try.prog (look env21) := (env_cons s111_at env20_ok)
noncomputable def cfg21 : Cfg := mkCfg tab [] xts (look env21)
theorem cfg21_ok : CfgOK Try.prog cfg21 := cfg_ok tab_eq (no_fts _) xts_ok env21_ok mixed
noncomputable def psOk (n cur : Nat) (x y z : Nat → Nat) (cl : Bool) (n2 cur2 : Nat) (x2 y2 z2 : Nat → Nat) (cl2 : Bool) (th pp : Nat) : Bool := two n cur x y z n2 cur2 x2 y2 z2 th (Int.ofNat pp) && fin (psW n x y z cl n2 x2 y2 z2 cl2 th pp)
theorem auto49a (n cur n2 cur2 th pp : Nat) (x y z x2 y2 z2 : Nat → Nat) (cl cl2 : Bool) : autoLp cfg21 (fun _ => none) Try.f49 [.agg [.ro 3 n (.vecs .f32 x y z), .bool cl, .flt .f32 cur], .agg [.ro 3 n2 (.vecs .f32 x2 y2 z2), .bool cl2, .flt .f32 cur2], .flt .f32 th, .int .i64 (.ofNat pp)] =
    some (n.ble 1048576 && n2.ble 1048576 && bif !two n cur x y z n2 cur2 x2 y2 z2 th (Int.ofNat pp) then true else Nat.ble 1 n && n.ble 1000 && Nat.ble 1 n2 && n2.ble 1000 && pp.ble 32 && true, A.tup [A.flt FloatKind.f32 (bif !two n cur x y z n2 cur2 x2 y2 z2 th (Int.ofNat pp) then can FloatKind.f32 0 else bif fin (psW n x y z cl n2 x2 y2 z2 cl2 th pp) then psW n x y z cl n2 x2 y2 z2 cl2 th pp else can FloatKind.f32 0), A.bool (bif !two n cur x y z n2 cur2 x2 y2 z2 th (Int.ofNat pp) then false else fin (psW n x y z cl n2 x2 y2 z2 cl2 th pp))]) := by kernel_rfl
noncomputable def s49a : List A → Option (Bool × A)
  | [.agg [.ro 3 n (.vecs .f32 x y z), .bool cl, .flt .f32 cur], .agg [.ro 3 n2 (.vecs .f32 x2 y2 z2), .bool cl2, .flt .f32 cur2], .flt .f32 th, .int .i64 (.ofNat pp)] => some (Nat.ble n 1048576 && Nat.ble n2 1048576, .tup [.flt .f32 (bif psOk n cur x y z cl n2 cur2 x2 y2 z2 cl2 th pp then psW n x y z cl n2 x2 y2 z2 cl2 th pp else can .f32 0), .bool (psOk n cur x y z cl n2 cur2 x2 y2 z2 cl2 th pp)])
  | _ => none
theorem s49a_at : EnvAt Try.prog 49 s49a := of_auto cfg21_ok (lp_none _) Try.func49 (by kernel_rfl) (by kernel_rfl) fun ds cc rr h hc => by
  unfold s49a at h
  split at h
  · rename_i n x y z cl cur n2 x2 y2 z2 cl2 cur2 th pp
    simp only [Option.some.injEq, Prod.mk.injEq] at h
    obtain ⟨rfl, rfl⟩ := h
    refine auto_fit (auto49a n cur n2 cur2 th pp x y z x2 y2 z2 cl cl2) ?_ ?_
    · unfold psOk
      cases two n cur x y z n2 cur2 x2 y2 z2 th (Int.ofNat pp) <;> rfl
    · rw [hc]
      cases ht : two n cur x y z n2 cur2 x2 y2 z2 th (Int.ofNat pp)
      · rfl
      · obtain ⟨k1, k2, k3, k4⟩ := two_ok ht
        simp at k4
        rw [ble_of (show 1 ≤ n by omega), ble_of (show n ≤ 1000 by omega), ble_of (show 1 ≤ n2 by omega), ble_of (show n2 ≤ 1000 by omega), ble_of (show pp ≤ 32 by omega)]
        rfl
  · cases h

theorem auto49b (n cur n2 cur2 th pp : Nat) (x y z x2 y2 z2 : Nat → Nat) (cl cl2 : Bool) : autoLp cfg21 (fun _ => none) Try.f49 [.agg [.ro 3 n (.vecs .f32 x y z), .bool cl, .flt .f32 cur], .agg [.ro 3 n2 (.vecs .f32 x2 y2 z2), .bool cl2, .flt .f32 cur2], .flt .f32 th, .int .i64 (.negSucc pp)] =
    some (n.ble 1048576 && n2.ble 1048576 && (!two n cur x y z n2 cur2 x2 y2 z2 th (Int.negSucc pp) && true), A.tup [A.flt FloatKind.f32 (can FloatKind.f32 0), A.bool false]) := by kernel_rfl
noncomputable def s49b : List A → Option (Bool × A)
  | [.agg [.ro 3 n (.vecs .f32 x y z), .bool cl, .flt .f32 cur], .agg [.ro 3 n2 (.vecs .f32 x2 y2 z2), .bool cl2, .flt .f32 cur2], .flt .f32 th, .int .i64 (.negSucc pp)] => some (Nat.ble n 1048576 && Nat.ble n2 1048576, .tup [.flt .f32 (can .f32 0), .bool false])
  | _ => none
theorem s49b_at : EnvAt Try.prog 49 s49b := of_auto cfg21_ok (lp_none _) Try.func49 (by kernel_rfl) (by kernel_rfl) fun ds cc rr h hc => by
  unfold s49b at h
  split at h
  · rename_i n x y z cl cur n2 x2 y2 z2 cl2 cur2 th pp
    simp only [Option.some.injEq, Prod.mk.injEq] at h
    obtain ⟨rfl, rfl⟩ := h
    refine auto_fit (auto49b n cur n2 cur2 th pp x y z x2 y2 z2 cl cl2) ?_ ?_
    · rfl
    · rw [hc, two_neg]; rfl
  · cases h

theorem auto50a (n cur n2 cur2 th pp : Nat) (x y z x2 y2 z2 : Nat → Nat) (cl cl2 : Bool) : autoLp cfg21 (fun _ => none) Try.f50 [.agg [.ro 3 n (.vecs .f32 x y z), .bool cl, .flt .f32 cur], .agg [.ro 3 n2 (.vecs .f32 x2 y2 z2), .bool cl2, .flt .f32 cur2], .flt .f32 th, .int .i64 (.ofNat pp)] =
    some (n.ble 4611686018427387000 && ((n2.ble 4611686018427387000 || !(!okW n cur x y z) == false) && bif bif bif bif !okW n cur x y z then true else !okW n2 cur2 x2 y2 z2 then true else !least th then true else !inI (Int.ofNat pp) (Int.ofNat 1) (Int.ofNat 8) then true else Nat.ble 1 n && n.ble 1000 && Nat.ble 1 n2 && n2.ble 1000 && pp.ble 32 && true), A.tup [A.flt FloatKind.f32 (bif bif bif bif !okW n cur x y z then true else !okW n2 cur2 x2 y2 z2 then true else !least th then true else !inI (Int.ofNat pp) (Int.ofNat 1) (Int.ofNat 8) then can FloatKind.f32 0 else bif fin (psW n x y z cl n2 x2 y2 z2 cl2 th pp) then psW n x y z cl n2 x2 y2 z2 cl2 th pp else can FloatKind.f32 0), A.bool (bif bif bif bif !okW n cur x y z then true else !okW n2 cur2 x2 y2 z2 then true else !least th then true else !inI (Int.ofNat pp) (Int.ofNat 1) (Int.ofNat 8) then false else fin (psW n x y z cl n2 x2 y2 z2 cl2 th pp))]) := by kernel_rfl
noncomputable def s50a : List A → Option (Bool × A)
  | [.agg [.ro 3 n (.vecs .f32 x y z), .bool cl, .flt .f32 cur], .agg [.ro 3 n2 (.vecs .f32 x2 y2 z2), .bool cl2, .flt .f32 cur2], .flt .f32 th, .int .i64 (.ofNat pp)] => some (Nat.ble n 1048576 && Nat.ble n2 1048576, .tup [.flt .f32 (bif psOk n cur x y z cl n2 cur2 x2 y2 z2 cl2 th pp then psW n x y z cl n2 x2 y2 z2 cl2 th pp else can .f32 0), .bool (psOk n cur x y z cl n2 cur2 x2 y2 z2 cl2 th pp)])
  | _ => none
theorem s50a_at : EnvAt Try.prog 50 s50a := of_auto cfg21_ok (lp_none _) Try.func50 (by kernel_rfl) (by kernel_rfl) fun ds cc rr h hc => by
  unfold s50a at h
  split at h
  · rename_i n x y z cl cur n2 x2 y2 z2 cl2 cur2 th pp
    simp only [Option.some.injEq, Prod.mk.injEq] at h
    obtain ⟨rfl, rfl⟩ := h
    refine auto_fit (auto50a n cur n2 cur2 th pp x y z x2 y2 z2 cl cl2) ?_ ?_
    · rw [not_two]
      unfold psOk
      cases two n cur x y z n2 cur2 x2 y2 z2 th (Int.ofNat pp) <;> rfl
    · simp only [Bool.and_eq_true, Nat.ble_eq] at hc
      rw [ble_of (show n ≤ 4611686018427387000 by omega), ble_of (show n2 ≤ 4611686018427387000 by omega), not_two]
      cases ht : two n cur x y z n2 cur2 x2 y2 z2 th (Int.ofNat pp)
      · simp
      · obtain ⟨k1, k2, k3, k4⟩ := two_ok ht
        simp at k4
        rw [ble_of (show 1 ≤ n by omega), ble_of (show n ≤ 1000 by omega), ble_of (show 1 ≤ n2 by omega), ble_of (show n2 ≤ 1000 by omega), ble_of (show pp ≤ 32 by omega)]
        simp
  · cases h

theorem auto50b (n cur n2 cur2 th pp : Nat) (x y z x2 y2 z2 : Nat → Nat) (cl cl2 : Bool) : autoLp cfg21 (fun _ => none) Try.f50 [.agg [.ro 3 n (.vecs .f32 x y z), .bool cl, .flt .f32 cur], .agg [.ro 3 n2 (.vecs .f32 x2 y2 z2), .bool cl2, .flt .f32 cur2], .flt .f32 th, .int .i64 (.negSucc pp)] =
    some (n.ble 4611686018427387000 && ((n2.ble 4611686018427387000 || !(!okW n cur x y z) == false) && ((bif bif bif !okW n cur x y z then true else !okW n2 cur2 x2 y2 z2 then true else !least th then true else !inI (Int.negSucc pp) (Int.ofNat 1) (Int.ofNat 8)) && true)), A.tup [A.flt FloatKind.f32 (can FloatKind.f32 0), A.bool false]) := by kernel_rfl
noncomputable def s50b : List A → Option (Bool × A)
  | [.agg [.ro 3 n (.vecs .f32 x y z), .bool cl, .flt .f32 cur], .agg [.ro 3 n2 (.vecs .f32 x2 y2 z2), .bool cl2, .flt .f32 cur2], .flt .f32 th, .int .i64 (.negSucc pp)] => some (Nat.ble n 1048576 && Nat.ble n2 1048576, .tup [.flt .f32 (can .f32 0), .bool false])
  | _ => none
theorem s50b_at : EnvAt Try.prog 50 s50b := of_auto cfg21_ok (lp_none _) Try.func50 (by kernel_rfl) (by kernel_rfl) fun ds cc rr h hc => by
  unfold s50b at h
  split at h
  · rename_i n x y z cl cur n2 x2 y2 z2 cl2 cur2 th pp
    simp only [Option.some.injEq, Prod.mk.injEq] at h
    obtain ⟨rfl, rfl⟩ := h
    refine auto_fit (auto50b n cur n2 cur2 th pp x y z x2 y2 z2 cl cl2) ?_ ?_
    · rfl
    · simp only [Bool.and_eq_true, Nat.ble_eq] at hc
      rw [ble_of (show n ≤ 4611686018427387000 by omega), ble_of (show n2 ≤ 4611686018427387000 by omega), not_two, two_neg]
      simp
  · cases h

noncomputable def s49 : List A → Option (Bool × A)
  | [a, b, t, .int .i64 (.ofNat pp)] => s49a [a, b, t, .int .i64 (.ofNat pp)]
  | ds => s49b ds
theorem s49_at : EnvAt Try.prog 49 s49 := by
  refine ⟨s49a_at.1, fun ds c r h hc => ?_⟩
  unfold s49 at h
  split at h
  · exact s49a_at.2 _ _ _ h hc
  · exact s49b_at.2 _ _ _ h hc
noncomputable def s50 : List A → Option (Bool × A)
  | [a, b, t, .int .i64 (.ofNat pp)] => s50a [a, b, t, .int .i64 (.ofNat pp)]
  | ds => s50b ds
theorem s50_at : EnvAt Try.prog 50 s50 := by
  refine ⟨s50a_at.1, fun ds c r h hc => ?_⟩
  unfold s50 at h
  split at h
  · exact s50a_at.2 _ _ _ h hc
  · exact s50b_at.2 _ _ _ h hc
noncomputable def env22 : List (Nat × (List A → Option (Bool × A))) := (49, s49) :: (50, s50) :: env21
theorem env22_ok : EnvOK Try.prog (look env22) := (env_cons s49_at (env_cons s50_at env21_ok))
noncomputable def cfg22 : Cfg := mkCfg tab [] xts (look env22)
theorem cfg22_ok : CfgOK Try.prog cfg22 := cfg_ok tab_eq (no_fts _) xts_ok env22_ok mixed
theorem psP (n cur n2 cur2 th pp : Nat) (x y z x2 y2 z2 : Nat → Nat) (cl cl2 : Bool) : autoLp cfg22 (fun _ => none) Try.f12 [.agg [.ro 3 n (.vecs .f32 x y z), .bool cl, .flt .f32 cur], .agg [.ro 3 n2 (.vecs .f32 x2 y2 z2), .bool cl2, .flt .f32 cur2], .flt .f32 th, .int .i64 (.ofNat pp)] =
    some (bif decide (sz1 1048576 n < 0) then true else bif decide (sz1 (sz1 1048576 n) n2 < 0) then true else n.ble 1048576 && n2.ble 1048576 && (n2.ble 1073741824 && (n.ble 1073741824 && true)) && (n.ble 1073741824 && (n2.ble 1073741824 && (n.ble 1048576 && n2.ble 1048576 && bif bif !sameF (fcvt FloatKind.f32 FloatKind.f64 (bif psOk n cur x y z cl n2 cur2 x2 y2 z2 cl2 th pp then psW n x y z cl n2 x2 y2 z2 cl2 th pp else can FloatKind.f32 0)) (fcvt FloatKind.f32 FloatKind.f64 (bif psOk n cur x y z cl n2 cur2 x2 y2 z2 cl2 th pp then psW n x y z cl n2 x2 y2 z2 cl2 th pp else can FloatKind.f32 0)) then true else !psOk n cur x y z cl n2 cur2 x2 y2 z2 cl2 th pp == psOk n cur x y z cl n2 cur2 x2 y2 z2 cl2 th pp then true else n.ble 1073741824 && true && ((n.beq n && n.ble 4611686018427387000 && allUpTo (sameVAt x y z x y z) n && bif !cl == cl then true else bif !sameF (fcvt FloatKind.f32 FloatKind.f64 cur) (fcvt FloatKind.f32 FloatKind.f64 cur) then true else true) && bif !bif !cl == cl then false else bif !sameF (fcvt FloatKind.f32 FloatKind.f64 cur) (fcvt FloatKind.f32 FloatKind.f64 cur) then false else true then true else n2.ble 1073741824 && true && ((n2.beq n2 && n2.ble 4611686018427387000 && allUpTo (sameVAt x2 y2 z2 x2 y2 z2) n2 && bif !cl2 == cl2 then true else bif !sameF (fcvt FloatKind.f32 FloatKind.f64 cur2) (fcvt FloatKind.f32 FloatKind.f64 cur2) then true else true) && bif !bif !cl2 == cl2 then false else bif !sameF (fcvt FloatKind.f32 FloatKind.f64 cur2) (fcvt FloatKind.f32 FloatKind.f64 cur2) then false else true then true else true))))), A.bool (bif decide (sz1 1048576 n < 0) then true else bif decide (sz1 (sz1 1048576 n) n2 < 0) then true else bif bif !sameF (fcvt FloatKind.f32 FloatKind.f64 (bif psOk n cur x y z cl n2 cur2 x2 y2 z2 cl2 th pp then psW n x y z cl n2 x2 y2 z2 cl2 th pp else can FloatKind.f32 0)) (fcvt FloatKind.f32 FloatKind.f64 (bif psOk n cur x y z cl n2 cur2 x2 y2 z2 cl2 th pp then psW n x y z cl n2 x2 y2 z2 cl2 th pp else can FloatKind.f32 0)) then true else !psOk n cur x y z cl n2 cur2 x2 y2 z2 cl2 th pp == psOk n cur x y z cl n2 cur2 x2 y2 z2 cl2 th pp then false else bif !bif !cl == cl then false else bif !sameF (fcvt FloatKind.f32 FloatKind.f64 cur) (fcvt FloatKind.f32 FloatKind.f64 cur) then false else true then false else bif !bif !cl2 == cl2 then false else bif !sameF (fcvt FloatKind.f32 FloatKind.f64 cur2) (fcvt FloatKind.f32 FloatKind.f64 cur2) then false else true then false else true)) := by kernel_rfl
theorem psN (n cur n2 cur2 th pp : Nat) (x y z x2 y2 z2 : Nat → Nat) (cl cl2 : Bool) : autoLp cfg22 (fun _ => none) Try.f12 [.agg [.ro 3 n (.vecs .f32 x y z), .bool cl, .flt .f32 cur], .agg [.ro 3 n2 (.vecs .f32 x2 y2 z2), .bool cl2, .flt .f32 cur2], .flt .f32 th, .int .i64 (.negSucc pp)] =
    some (bif decide (sz1 1048576 n < 0) then true else bif decide (sz1 (sz1 1048576 n) n2 < 0) then true else n.ble 1048576 && n2.ble 1048576 && (n2.ble 1073741824 && (n.ble 1073741824 && true)) && (n.ble 1073741824 && (n2.ble 1073741824 && (n.ble 1048576 && n2.ble 1048576 && bif bif !sameF (fcvt FloatKind.f32 FloatKind.f64 (can FloatKind.f32 0)) (fcvt FloatKind.f32 FloatKind.f64 (can FloatKind.f32 0)) then true else false then true else n.ble 1073741824 && true && ((n.beq n && n.ble 4611686018427387000 && allUpTo (sameVAt x y z x y z) n && bif !cl == cl then true else bif !sameF (fcvt FloatKind.f32 FloatKind.f64 cur) (fcvt FloatKind.f32 FloatKind.f64 cur) then true else true) && bif !bif !cl == cl then false else bif !sameF (fcvt FloatKind.f32 FloatKind.f64 cur) (fcvt FloatKind.f32 FloatKind.f64 cur) then false else true then true else n2.ble 1073741824 && true && ((n2.beq n2 && n2.ble 4611686018427387000 && allUpTo (sameVAt x2 y2 z2 x2 y2 z2) n2 && bif !cl2 == cl2 then true else bif !sameF (fcvt FloatKind.f32 FloatKind.f64 cur2) (fcvt FloatKind.f32 FloatKind.f64 cur2) then true else true) && bif !bif !cl2 == cl2 then false else bif !sameF (fcvt FloatKind.f32 FloatKind.f64 cur2) (fcvt FloatKind.f32 FloatKind.f64 cur2) then false else true then true else true))))), A.bool (bif decide (sz1 1048576 n < 0) then true else bif decide (sz1 (sz1 1048576 n) n2 < 0) then true else bif bif !sameF (fcvt FloatKind.f32 FloatKind.f64 (can FloatKind.f32 0)) (fcvt FloatKind.f32 FloatKind.f64 (can FloatKind.f32 0)) then true else false then false else bif !bif !cl == cl then false else bif !sameF (fcvt FloatKind.f32 FloatKind.f64 cur) (fcvt FloatKind.f32 FloatKind.f64 cur) then false else true then false else bif !bif !cl2 == cl2 then false else bif !sameF (fcvt FloatKind.f32 FloatKind.f64 cur2) (fcvt FloatKind.f32 FloatKind.f64 cur2) then false else true then false else true)) := by kernel_rfl
theorem law12 {a b t : A} {p : Int} (ha : WireA a) (hb : WireA b) (ht : FltA t) (_hp : IntA p) : PureCall Try.prog 12 [a, b, t, .int .i64 p] (.bool true) := by
  obtain ⟨n, x, y, z, cl, cur, hn, rfl⟩ := ha
  obtain ⟨n2, x2, y2, z2, cl2, cur2, hn2, rfl⟩ := hb
  obtain ⟨th, _, rfl⟩ := ht
  have key : ∀ pp, (PureCall Try.prog 12 [.agg [.ro 3 n (.vecs .f32 x y z), .bool cl, .flt .f32 cur], .agg [.ro 3 n2 (.vecs .f32 x2 y2 z2), .bool cl2, .flt .f32 cur2], .flt .f32 th, .int .i64 (.ofNat pp)] (.bool true)) ∧ (PureCall Try.prog 12 [.agg [.ro 3 n (.vecs .f32 x y z), .bool cl, .flt .f32 cur], .agg [.ro 3 n2 (.vecs .f32 x2 y2 z2), .bool cl2, .flt .f32 cur2], .flt .f32 th, .int .i64 (.negSucc pp)] (.bool true)) := fun pp => by
    have kP := (auto_at cfg22_ok Try.func12 (by kernel_rfl) (by kernel_rfl)).2 _ _ _ (psP n cur n2 cur2 th pp x y z x2 y2 z2 cl cl2)
    have kN := (auto_at cfg22_ok Try.func12 (by kernel_rfl) (by kernel_rfl)).2 _ _ _ (psN n cur n2 cur2 th pp x y z x2 y2 z2 cl cl2)
    rcases sz1_le (left := 1048576) (n := n) (by omega) (by omega) hn with ⟨e, h1⟩ | ⟨e, h1⟩
    · rw [e] at kP kN; exact ⟨kP rfl, kN rfl⟩
    rw [e, decide_eq_false (p := (1048576 : Int) - (n : Int) < 0) (by omega)] at kP kN
    rcases sz1_le (left := (1048576 : Int) - (n : Int)) (n := n2) (by omega) (by omega) hn2 with ⟨e', h1'⟩ | ⟨e', h1'⟩
    · rw [e'] at kP kN; exact ⟨kP rfl, kN rfl⟩
    rw [e', decide_eq_false (p := (1048576 : Int) - (n : Int) - (n2 : Int) < 0) (by omega)] at kP kN
    have h2 : n ≤ 1048576 := by omega
    have h3 : n2 ≤ 1048576 := by omega
    simp only [sameVs_self, sameV_self, sameF_self, bne_self_eq_false, Bool.cond_self, beq_self_eq_true, Nat.beq_refl, Bool.not_true, cond_false, Bool.and_true, Bool.true_or, ble_of h2, ble_of h3, ble_of (show n ≤ 1073741824 by omega), ble_of (show n ≤ 4611686018427387000 by omega), ble_of (show n2 ≤ 1073741824 by omega), ble_of (show n2 ≤ 4611686018427387000 by omega)] at kP kN
    exact ⟨kP trivial, kN trivial⟩
  cases p with
  | ofNat pp => exact (key pp).1
  | negSucc pp => exact (key pp).2
end Go.Fw.W1

/-
  Forces between wires: sums over all pairs of pieces.
-/
namespace Go.Fw.W1
open Go.Proofs

def fbQ (u v w : Nat) (q : Nat → Nat → Nat) (j : Nat) : Nat := inn (fop .sub .f32 u (q j 3)) (fop .sub .f32 v (q j 4)) (fop .sub .f32 w (q j 5)) (fop .sub .f32 u (q j 3)) (fop .sub .f32 v (q j 4)) (fop .sub .f32 w (q j 5))
def fbC (u v w : Nat) (q : Nat → Nat → Nat) (j : Nat) : Bool := forder .f32 (fbQ u v w q j) (can .f32 0) == some .gt
def fbF (a b c u v w : Nat) (q : Nat → Nat → Nat) (j : Nat) : Nat := fop .quo .f32 (fneg .f32 (inn a b c (q j 0) (q j 1) (q j 2))) (fop .mul .f32 (fbQ u v w q j) (root32 (fbQ u v w q j)))
def fbX (a b c u v w : Nat) (q : Nat → Nat → Nat) (s : Nat) : Nat → Nat
  | 0 => s
  | k + 1 => bif fbC u v w q k then fop .add .f32 (fbX a b c u v w q s k) (fop .mul .f32 (fop .sub .f32 u (q k 3)) (fbF a b c u v w q k)) else fbX a b c u v w q s k
theorem fbX_t {a b c u v w : Nat} {q : Nat → Nat → Nat} {s k : Nat} (h : fbC u v w q k = true) : fbX a b c u v w q s (k + 1) = fop .add .f32 (fbX a b c u v w q s k) (fop .mul .f32 (fop .sub .f32 u (q k 3)) (fbF a b c u v w q k)) := by simp only [fbX, h, cond_true]
theorem fbX_f {a b c u v w : Nat} {q : Nat → Nat → Nat} {s k : Nat} (h : fbC u v w q k = false) : fbX a b c u v w q s (k + 1) = fbX a b c u v w q s k := by simp only [fbX, h, cond_false]
def foX (p q : Nat → Nat → Nat) (lq s : Nat) : Nat → Nat
  | 0 => s
  | k + 1 => fbX (p k 0) (p k 1) (p k 2) (p k 3) (p k 4) (p k 5) q (foX p q lq s k) lq
def fbY (a b c u v w : Nat) (q : Nat → Nat → Nat) (s : Nat) : Nat → Nat
  | 0 => s
  | k + 1 => bif fbC u v w q k then fop .add .f32 (fbY a b c u v w q s k) (fop .mul .f32 (fop .sub .f32 v (q k 4)) (fbF a b c u v w q k)) else fbY a b c u v w q s k
theorem fbY_t {a b c u v w : Nat} {q : Nat → Nat → Nat} {s k : Nat} (h : fbC u v w q k = true) : fbY a b c u v w q s (k + 1) = fop .add .f32 (fbY a b c u v w q s k) (fop .mul .f32 (fop .sub .f32 v (q k 4)) (fbF a b c u v w q k)) := by simp only [fbY, h, cond_true]
theorem fbY_f {a b c u v w : Nat} {q : Nat → Nat → Nat} {s k : Nat} (h : fbC u v w q k = false) : fbY a b c u v w q s (k + 1) = fbY a b c u v w q s k := by simp only [fbY, h, cond_false]
def foY (p q : Nat → Nat → Nat) (lq s : Nat) : Nat → Nat
  | 0 => s
  | k + 1 => fbY (p k 0) (p k 1) (p k 2) (p k 3) (p k 4) (p k 5) q (foY p q lq s k) lq
def fbZ (a b c u v w : Nat) (q : Nat → Nat → Nat) (s : Nat) : Nat → Nat
  | 0 => s
  | k + 1 => bif fbC u v w q k then fop .add .f32 (fbZ a b c u v w q s k) (fop .mul .f32 (fop .sub .f32 w (q k 5)) (fbF a b c u v w q k)) else fbZ a b c u v w q s k
theorem fbZ_t {a b c u v w : Nat} {q : Nat → Nat → Nat} {s k : Nat} (h : fbC u v w q k = true) : fbZ a b c u v w q s (k + 1) = fop .add .f32 (fbZ a b c u v w q s k) (fop .mul .f32 (fop .sub .f32 w (q k 5)) (fbF a b c u v w q k)) := by simp only [fbZ, h, cond_true]
theorem fbZ_f {a b c u v w : Nat} {q : Nat → Nat → Nat} {s k : Nat} (h : fbC u v w q k = false) : fbZ a b c u v w q s (k + 1) = fbZ a b c u v w q s k := by simp only [fbZ, h, cond_false]
def foZ (p q : Nat → Nat → Nat) (lq s : Nat) : Nat → Nat
  | 0 => s
  | k + 1 => fbZ (p k 0) (p k 1) (p k 2) (p k 3) (p k 4) (p k 5) q (foZ p q lq s k) lq
noncomputable def I48j (lp lq s t r a b c u v w : Nat) (p1 p2 : Int) (gg hh : Nat → Nat → Nat) (n cur n2 cur2 : Nat) (x y z x2 y2 z2 : Nat → Nat) (cl cl2 : Bool) (k : Nat) : List A := [.ptr 0 0, .ptr 16 0, .ptr 32 0, .bool false, .ptr 288 0, .sl 352 lq, .ptr 512 0, .sl 416 lp, .int .i64 p1, .int .i64 p2, .sl 352 lq, .int .i64 (Int.ofNat lq), .int .i64 (Int.ofNat k)]
noncomputable def J48j (lp lq s t r a b c u v w : Nat) (p1 p2 : Int) (gg hh : Nat → Nat → Nat) (n cur n2 cur2 : Nat) (x y z x2 y2 z2 : Nat → Nat) (cl cl2 : Bool) (k : Nat) : List O := [.var [.flt .f32 a, .flt .f32 b, .flt .f32 c, .flt .f32 u, .flt .f32 v, .flt .f32 w], .var [.flt .f32 (fbX a b c u v w hh s k), .flt .f32 (fbY a b c u v w hh t k), .flt .f32 (fbZ a b c u v w hh r k)], .row 0 6 lq (.flns .f32 6 hh), .row 0 6 lp (.flns .f32 6 gg), .var [.flt .f32 0, .flt .f32 0, .flt .f32 0], .var [.ro 3 n2 (.vecs .f32 x2 y2 z2), .bool cl2, .flt .f32 cur2], .var [.ro 3 n (.vecs .f32 x y z), .bool cl, .flt .f32 cur]]
theorem round48j (lp lq s t r a b c u v w : Nat) (p1 p2 : Int) (gg hh : Nat → Nat → Nat) (n cur n2 cur2 : Nat) (x y z x2 y2 z2 : Nat → Nat) (cl cl2 : Bool) (k : Nat) (L : XK → List A → List (Option O) → Prop) :
    ((exec cfg22 (fun _ => true) (fun _ => none) 0 1000 (loopOf Try.f48 2) (litSt Try.f48.ntmps 592 [3, 4, 6, 7, 8, 9, 11, 36, 37, 38, 42, 43, 44] [512, 288, 352, 416, 32, 16, 0] (I48j lp lq s t r a b c u v w p1 p2 gg hh n cur n2 cur2 x y z x2 y2 z2 cl cl2 k) (J48j lp lq s t r a b c u v w p1 p2 gg hh n cur n2 cur2 x y z x2 y2 z2 cl cl2 k))).rt [3, 4, 6, 7, 8, 9, 11, 36, 37, 38, 42, 43, 44] [512, 288, 352, 416, 32, 16, 0]).Ok L =
    bif decide (Int.ofNat k < Int.ofNat lq) then
      bif decide (Int.ofNat k < Int.ofNat lq) then
        bif forder FloatKind.f32 (inn (fop BinOp.sub FloatKind.f32 u (hh k 3)) (fop BinOp.sub FloatKind.f32 v (hh k 4)) (fop BinOp.sub FloatKind.f32 w (hh k 5)) (fop BinOp.sub FloatKind.f32 u (hh k 3)) (fop BinOp.sub FloatKind.f32 v (hh k 4)) (fop BinOp.sub FloatKind.f32 w (hh k 5))) (can FloatKind.f32 0) == some Ordering.gt then
          L (XK.normal) ([A.ptr 0 0, A.ptr 16 0, A.ptr 32 0, A.bool false, A.ptr 288 0, A.sl 352 lq, A.ptr 512 0, A.sl 416 lp, A.int IntKind.i64 p1, A.int IntKind.i64 p2, A.sl 352 lq, A.int IntKind.i64 (Int.ofNat lq), A.int IntKind.i64 (IntKind.i64.wrap (Int.ofNat k + Int.ofNat 1))]) ([some (O.var [A.flt FloatKind.f32 a, A.flt FloatKind.f32 b, A.flt FloatKind.f32 c, A.flt FloatKind.f32 u, A.flt FloatKind.f32 v, A.flt FloatKind.f32 w]), some (O.var [A.flt FloatKind.f32 (fop BinOp.add FloatKind.f32 (fbX a b c u v w hh s k) (fop BinOp.mul FloatKind.f32 (fop BinOp.sub FloatKind.f32 u (hh k 3)) (fop BinOp.quo FloatKind.f32 (fneg FloatKind.f32 (inn a b c (hh k 0) (hh k 1) (hh k 2))) (fop BinOp.mul FloatKind.f32 (inn (fop BinOp.sub FloatKind.f32 u (hh k 3)) (fop BinOp.sub FloatKind.f32 v (hh k 4)) (fop BinOp.sub FloatKind.f32 w (hh k 5)) (fop BinOp.sub FloatKind.f32 u (hh k 3)) (fop BinOp.sub FloatKind.f32 v (hh k 4)) (fop BinOp.sub FloatKind.f32 w (hh k 5))) (root32 (inn (fop BinOp.sub FloatKind.f32 u (hh k 3)) (fop BinOp.sub FloatKind.f32 v (hh k 4)) (fop BinOp.sub FloatKind.f32 w (hh k 5)) (fop BinOp.sub FloatKind.f32 u (hh k 3)) (fop BinOp.sub FloatKind.f32 v (hh k 4)) (fop BinOp.sub FloatKind.f32 w (hh k 5)))))))), A.flt FloatKind.f32 (fop BinOp.add FloatKind.f32 (fbY a b c u v w hh t k) (fop BinOp.mul FloatKind.f32 (fop BinOp.sub FloatKind.f32 v (hh k 4)) (fop BinOp.quo FloatKind.f32 (fneg FloatKind.f32 (inn a b c (hh k 0) (hh k 1) (hh k 2))) (fop BinOp.mul FloatKind.f32 (inn (fop BinOp.sub FloatKind.f32 u (hh k 3)) (fop BinOp.sub FloatKind.f32 v (hh k 4)) (fop BinOp.sub FloatKind.f32 w (hh k 5)) (fop BinOp.sub FloatKind.f32 u (hh k 3)) (fop BinOp.sub FloatKind.f32 v (hh k 4)) (fop BinOp.sub FloatKind.f32 w (hh k 5))) (root32 (inn (fop BinOp.sub FloatKind.f32 u (hh k 3)) (fop BinOp.sub FloatKind.f32 v (hh k 4)) (fop BinOp.sub FloatKind.f32 w (hh k 5)) (fop BinOp.sub FloatKind.f32 u (hh k 3)) (fop BinOp.sub FloatKind.f32 v (hh k 4)) (fop BinOp.sub FloatKind.f32 w (hh k 5)))))))), A.flt FloatKind.f32 (fop BinOp.add FloatKind.f32 (fbZ a b c u v w hh r k) (fop BinOp.mul FloatKind.f32 (fop BinOp.sub FloatKind.f32 w (hh k 5)) (fop BinOp.quo FloatKind.f32 (fneg FloatKind.f32 (inn a b c (hh k 0) (hh k 1) (hh k 2))) (fop BinOp.mul FloatKind.f32 (inn (fop BinOp.sub FloatKind.f32 u (hh k 3)) (fop BinOp.sub FloatKind.f32 v (hh k 4)) (fop BinOp.sub FloatKind.f32 w (hh k 5)) (fop BinOp.sub FloatKind.f32 u (hh k 3)) (fop BinOp.sub FloatKind.f32 v (hh k 4)) (fop BinOp.sub FloatKind.f32 w (hh k 5))) (root32 (inn (fop BinOp.sub FloatKind.f32 u (hh k 3)) (fop BinOp.sub FloatKind.f32 v (hh k 4)) (fop BinOp.sub FloatKind.f32 w (hh k 5)) (fop BinOp.sub FloatKind.f32 u (hh k 3)) (fop BinOp.sub FloatKind.f32 v (hh k 4)) (fop BinOp.sub FloatKind.f32 w (hh k 5))))))))]), some (O.row 0 6 lq (Row.flns FloatKind.f32 6 hh)), some (O.row 0 6 lp (Row.flns FloatKind.f32 6 gg)), some (O.var [A.flt FloatKind.f32 0, A.flt FloatKind.f32 0, A.flt FloatKind.f32 0]), some (O.var [A.ro 3 n2 (Row.vecs FloatKind.f32 x2 y2 z2), A.bool cl2, A.flt FloatKind.f32 cur2]), some (O.var [A.ro 3 n (Row.vecs FloatKind.f32 x y z), A.bool cl, A.flt FloatKind.f32 cur])])
        else
          L (XK.normal) ([A.ptr 0 0, A.ptr 16 0, A.ptr 32 0, A.bool false, A.ptr 288 0, A.sl 352 lq, A.ptr 512 0, A.sl 416 lp, A.int IntKind.i64 p1, A.int IntKind.i64 p2, A.sl 352 lq, A.int IntKind.i64 (Int.ofNat lq), A.int IntKind.i64 (IntKind.i64.wrap (Int.ofNat k + Int.ofNat 1))]) ([some (O.var [A.flt FloatKind.f32 a, A.flt FloatKind.f32 b, A.flt FloatKind.f32 c, A.flt FloatKind.f32 u, A.flt FloatKind.f32 v, A.flt FloatKind.f32 w]), some (O.var [A.flt FloatKind.f32 (fbX a b c u v w hh s k), A.flt FloatKind.f32 (fbY a b c u v w hh t k), A.flt FloatKind.f32 (fbZ a b c u v w hh r k)]), some (O.row 0 6 lq (Row.flns FloatKind.f32 6 hh)), some (O.row 0 6 lp (Row.flns FloatKind.f32 6 gg)), some (O.var [A.flt FloatKind.f32 0, A.flt FloatKind.f32 0, A.flt FloatKind.f32 0]), some (O.var [A.ro 3 n2 (Row.vecs FloatKind.f32 x2 y2 z2), A.bool cl2, A.flt FloatKind.f32 cur2]), some (O.var [A.ro 3 n (Row.vecs FloatKind.f32 x y z), A.bool cl, A.flt FloatKind.f32 cur])])
      else
        False
    else
      L (XK.exit 2) ([A.ptr 0 0, A.ptr 16 0, A.ptr 32 0, A.bool false, A.ptr 288 0, A.sl 352 lq, A.ptr 512 0, A.sl 416 lp, A.int IntKind.i64 p1, A.int IntKind.i64 p2, A.sl 352 lq, A.int IntKind.i64 (Int.ofNat lq), A.int IntKind.i64 (Int.ofNat k)]) ([some (O.var [A.flt FloatKind.f32 a, A.flt FloatKind.f32 b, A.flt FloatKind.f32 c, A.flt FloatKind.f32 u, A.flt FloatKind.f32 v, A.flt FloatKind.f32 w]), some (O.var [A.flt FloatKind.f32 (fbX a b c u v w hh s k), A.flt FloatKind.f32 (fbY a b c u v w hh t k), A.flt FloatKind.f32 (fbZ a b c u v w hh r k)]), some (O.row 0 6 lq (Row.flns FloatKind.f32 6 hh)), some (O.row 0 6 lp (Row.flns FloatKind.f32 6 gg)), some (O.var [A.flt FloatKind.f32 0, A.flt FloatKind.f32 0, A.flt FloatKind.f32 0]), some (O.var [A.ro 3 n2 (Row.vecs FloatKind.f32 x2 y2 z2), A.bool cl2, A.flt FloatKind.f32 cur2]), some (O.var [A.ro 3 n (Row.vecs FloatKind.f32 x y z), A.bool cl, A.flt FloatKind.f32 cur])]) := by kernel_rfl
noncomputable def F48j : List A → List (Option O) → Option R3
  | [.ptr 0 0, .ptr 16 0, .ptr 32 0, .bool false, .ptr 288 0, .sl 352 lq, .ptr 512 0, .sl 416 lp, .int .i64 p1, .int .i64 p2, .sl 352 lq3, .int .i64 q, .int .i64 0], [some (.var [.flt .f32 a, .flt .f32 b, .flt .f32 c, .flt .f32 u, .flt .f32 v, .flt .f32 w]), some (.var [.flt .f32 s, .flt .f32 t, .flt .f32 r]), some (.row 0 6 lq2 (.flns .f32 6 hh)), some (.row 0 6 lp2 (.flns .f32 6 gg)), some (.var [.flt .f32 0, .flt .f32 0, .flt .f32 0]), some (.var [.ro 3 n2 (.vecs .f32 x2 y2 z2), .bool cl2, .flt .f32 cur2]), some (.var [.ro 3 n (.vecs .f32 x y z), .bool cl, .flt .f32 cur])] => some (.ite (decide (q = Int.ofNat lq) && Nat.beq lp lp2 && Nat.beq lq lq2 && Nat.beq lq lq3 && Nat.ble lq 100000) (.leaf .normal (I48j lp lq s t r a b c u v w p1 p2 gg hh n cur n2 cur2 x y z x2 y2 z2 cl cl2 (lq)) (J48j lp lq s t r a b c u v w p1 p2 gg hh n cur n2 cur2 x y z x2 y2 z2 cl cl2 (lq))) .fail)
  | _, _ => none
theorem loop48j : CodeOK Try.prog (fun _ σ => sumAt Try.f48.ntmps 592 [3, 4, 6, 7, 8, 9, 11, 36, 37, 38, 42, 43, 44] [512, 288, 352, 416, 32, 16, 0] F48j σ) (.block 2 (.loop (loopOf Try.f48 2))) := by
  refine block_ok (own := fun _ => true) (lp := (fun _ => none)) (un := 0) (fuel := 1000) cfg22_ok (lp_none _) fun az os R hF hok => ?_
  unfold F48j at hF
  split at hF
  · rename_i lq lp p1 p2 lq3 q a b c u v w s t r lq2 hh lp2 gg n2 x2 y2 z2 cl2 cur2 n x y z cl cur
    injection hF with hF
    subst hF
    have hg := hok.guard
    have hg' := hg
    simp only [Bool.and_eq_true, Nat.ble_eq, Nat.beq_eq, decide_eq_true_eq] at hg'
    obtain ⟨⟨⟨⟨rfl, rfl⟩, rfl⟩, rfl⟩, hlq⟩ := hg'
    refine for_fact (ids := [512, 288, 352, 416, 32, 16, 0]) (fun _ => true) (lq) (I48j lp lq s t r a b c u v w p1 p2 gg hh n cur n2 cur2 x y z x2 y2 z2 cl cl2) (J48j lp lq s t r a b c u v w p1 p2 gg hh n cur n2 cur2 x y z x2 y2 z2 cl cl2) _ (.ret) (I48j lp lq s t r a b c u v w p1 p2 gg hh n cur n2 cur2 x y z x2 y2 z2 cl cl2) (I48j lp lq s t r a b c u v w p1 p2 gg hh n cur n2 cur2 x y z x2 y2 z2 cl cl2) (I48j lp lq s t r a b c u v w p1 p2 gg hh n cur n2 cur2 x y z x2 y2 z2 cl cl2 (lq)) (J48j lp lq s t r a b c u v w p1 p2 gg hh n cur n2 cur2 x y z x2 y2 z2 cl cl2 (lq)) rfl (OSims.self _) (fun _ => rfl) (fun _ => rfl) (fun _ => ALe.self _) (fun _ => rfl) (ALe.self _) (OSims.self _) rfl (fun h => by cases h) (fun k hk L h1 h2 h3 => ?_) fun L hL => ?_
    · rw [round48j]

      by_cases hkm : k < lq
      · refine condT (lt_dec hkm) ?_
        rw [wrap_succ (by omega)]
        refine condT (lt_dec hkm) ?_
        show cond (fbC u v w hh k) _ _
        cases hs : fbC u v w hh k
        · exact h1 hkm rfl _ (by unfold J48j; rw [fbX_f hs, fbY_f hs, fbZ_f hs]; exact OSims.self [_, _, _, _, _, _, _])
        · exact h1 hkm rfl _ (by unfold J48j; rw [fbX_t hs, fbY_t hs, fbZ_t hs]; exact OSims.self [_, _, _, _, _, _, _])
      · refine condE (ge_dec (by omega)) ?_
        obtain rfl : k = lq := by omega
        exact h3 rfl
    · exact ⟨fun _ => hL.1 hg, fun N _ h => by cases h⟩
  · cases hF

noncomputable def lpi48i : List (Nat × (St → T)) := [(2, sumAt Try.f48.ntmps 592 [3, 4, 6, 7, 8, 9, 11, 36, 37, 38, 42, 43, 44] [512, 288, 352, 416, 32, 16, 0] F48j)]
theorem lpi48i_ok : LpOK Try.prog (look lpi48i) (loopOf Try.f48 0) := lp_in (lp_loops (by kernel_rfl) (by kernel_rfl) fun p hp => by
  simp only [lpi48i, List.mem_cons, List.not_mem_nil, or_false] at hp
  rcases hp with rfl
  · exact loop48j) _
noncomputable def I48i (lp lq s t r : Nat) (gg hh : Nat → Nat → Nat) (n cur n2 cur2 : Nat) (x y z x2 y2 z2 : Nat → Nat) (cl cl2 : Bool) (k : Nat) : List A := [.ptr 0 0, .ptr 16 0, .ptr 32 0, .bool false, .ptr 288 0, .sl 352 lq, .sl 416 lp, .int .i64 (Int.ofNat lp), .int .i64 (Int.ofNat k)]
noncomputable def J48i (lp lq s t r : Nat) (gg hh : Nat → Nat → Nat) (n cur n2 cur2 : Nat) (x y z x2 y2 z2 : Nat → Nat) (cl cl2 : Bool) (k : Nat) : List O := [.var [.flt .f32 (foX gg hh lq s k), .flt .f32 (foY gg hh lq t k), .flt .f32 (foZ gg hh lq r k)], .row 0 6 lq (.flns .f32 6 hh), .row 0 6 lp (.flns .f32 6 gg), .var [.flt .f32 0, .flt .f32 0, .flt .f32 0], .var [.ro 3 n2 (.vecs .f32 x2 y2 z2), .bool cl2, .flt .f32 cur2], .var [.ro 3 n (.vecs .f32 x y z), .bool cl, .flt .f32 cur]]
theorem round48i (lp lq s t r : Nat) (gg hh : Nat → Nat → Nat) (n cur n2 cur2 : Nat) (x y z x2 y2 z2 : Nat → Nat) (cl cl2 : Bool) (k : Nat) (L : XK → List A → List (Option O) → Prop) :
    ((exec cfg22 (fun _ => true) (look lpi48i) 0 1000 (loopOf Try.f48 0) (litSt Try.f48.ntmps 464 [3, 4, 6, 7, 8, 9, 36, 37, 38] [288, 352, 416, 32, 16, 0] (I48i lp lq s t r gg hh n cur n2 cur2 x y z x2 y2 z2 cl cl2 k) (J48i lp lq s t r gg hh n cur n2 cur2 x y z x2 y2 z2 cl cl2 k))).rt [3, 4, 6, 7, 8, 9, 36, 37, 38] [288, 352, 416, 32, 16, 0]).Ok L =
    bif decide (Int.ofNat k < Int.ofNat lp) then
      bif decide (Int.ofNat k < Int.ofNat lp) then
        bif decide (Int.ofNat lq = Int.ofNat lq) && lp.beq lp && lq.beq lq && lq.beq lq && lq.ble 100000 then
          L (XK.normal) ([A.ptr 0 0, A.ptr 16 0, A.ptr 32 0, A.bool false, A.ptr 288 0, A.sl 352 lq, A.sl 416 lp, A.int IntKind.i64 (Int.ofNat lp), A.int IntKind.i64 (IntKind.i64.wrap (Int.ofNat k + Int.ofNat 1))]) ([some (O.var [A.flt FloatKind.f32 (fbX (gg k 0) (gg k 1) (gg k 2) (gg k 3) (gg k 4) (gg k 5) hh (foX gg hh lq s k) lq), A.flt FloatKind.f32 (fbY (gg k 0) (gg k 1) (gg k 2) (gg k 3) (gg k 4) (gg k 5) hh (foY gg hh lq t k) lq), A.flt FloatKind.f32 (fbZ (gg k 0) (gg k 1) (gg k 2) (gg k 3) (gg k 4) (gg k 5) hh (foZ gg hh lq r k) lq)]), some (O.row 0 6 lq (Row.flns FloatKind.f32 6 hh)), some (O.row 0 6 lp (Row.flns FloatKind.f32 6 gg)), some (O.var [A.flt FloatKind.f32 0, A.flt FloatKind.f32 0, A.flt FloatKind.f32 0]), some (O.var [A.ro 3 n2 (Row.vecs FloatKind.f32 x2 y2 z2), A.bool cl2, A.flt FloatKind.f32 cur2]), some (O.var [A.ro 3 n (Row.vecs FloatKind.f32 x y z), A.bool cl, A.flt FloatKind.f32 cur])])
        else
          False
      else
        False
    else
      L (XK.exit 0) ([A.ptr 0 0, A.ptr 16 0, A.ptr 32 0, A.bool false, A.ptr 288 0, A.sl 352 lq, A.sl 416 lp, A.int IntKind.i64 (Int.ofNat lp), A.int IntKind.i64 (Int.ofNat k)]) ([some (O.var [A.flt FloatKind.f32 (foX gg hh lq s k), A.flt FloatKind.f32 (foY gg hh lq t k), A.flt FloatKind.f32 (foZ gg hh lq r k)]), some (O.row 0 6 lq (Row.flns FloatKind.f32 6 hh)), some (O.row 0 6 lp (Row.flns FloatKind.f32 6 gg)), some (O.var [A.flt FloatKind.f32 0, A.flt FloatKind.f32 0, A.flt FloatKind.f32 0]), some (O.var [A.ro 3 n2 (Row.vecs FloatKind.f32 x2 y2 z2), A.bool cl2, A.flt FloatKind.f32 cur2]), some (O.var [A.ro 3 n (Row.vecs FloatKind.f32 x y z), A.bool cl, A.flt FloatKind.f32 cur])]) := by kernel_rfl
noncomputable def F48i : List A → List (Option O) → Option R3
  | [.ptr 0 0, .ptr 16 0, .ptr 32 0, .bool false, .ptr 288 0, .sl 352 lq, .sl 416 lp, .int .i64 q, .int .i64 0], [some (.var [.flt .f32 s, .flt .f32 t, .flt .f32 r]), some (.row 0 6 lq2 (.flns .f32 6 hh)), some (.row 0 6 lp2 (.flns .f32 6 gg)), some (.var [.flt .f32 0, .flt .f32 0, .flt .f32 0]), some (.var [.ro 3 n2 (.vecs .f32 x2 y2 z2), .bool cl2, .flt .f32 cur2]), some (.var [.ro 3 n (.vecs .f32 x y z), .bool cl, .flt .f32 cur])] => some (.ite (decide (q = Int.ofNat lp) && Nat.beq lp lp2 && Nat.beq lq lq2 && Nat.ble lq 100000 && Nat.ble lp 100000) (.leaf .normal (I48i lp lq s t r gg hh n cur n2 cur2 x y z x2 y2 z2 cl cl2 (lp)) (J48i lp lq s t r gg hh n cur n2 cur2 x y z x2 y2 z2 cl cl2 (lp))) .fail)
  | _, _ => none
theorem loop48i : CodeOK Try.prog (fun _ σ => sumAt Try.f48.ntmps 464 [3, 4, 6, 7, 8, 9, 36, 37, 38] [288, 352, 416, 32, 16, 0] F48i σ) (.block 0 (.loop (loopOf Try.f48 0))) := by
  refine block_ok (own := fun _ => true) (lp := (look lpi48i)) (un := 0) (fuel := 1000) cfg22_ok lpi48i_ok fun az os R hF hok => ?_
  unfold F48i at hF
  split at hF
  · rename_i lq lp q s t r lq2 hh lp2 gg n2 x2 y2 z2 cl2 cur2 n x y z cl cur
    injection hF with hF
    subst hF
    have hg := hok.guard
    have hg' := hg
    simp only [Bool.and_eq_true, Nat.ble_eq, Nat.beq_eq, decide_eq_true_eq] at hg'
    obtain ⟨⟨⟨⟨rfl, rfl⟩, rfl⟩, hlq⟩, hlp⟩ := hg'
    refine for_fact (ids := [288, 352, 416, 32, 16, 0]) (fun _ => true) (lp) (I48i lp lq s t r gg hh n cur n2 cur2 x y z x2 y2 z2 cl cl2) (J48i lp lq s t r gg hh n cur n2 cur2 x y z x2 y2 z2 cl cl2) _ (.ret) (I48i lp lq s t r gg hh n cur n2 cur2 x y z x2 y2 z2 cl cl2) (I48i lp lq s t r gg hh n cur n2 cur2 x y z x2 y2 z2 cl cl2) (I48i lp lq s t r gg hh n cur n2 cur2 x y z x2 y2 z2 cl cl2 (lp)) (J48i lp lq s t r gg hh n cur n2 cur2 x y z x2 y2 z2 cl cl2 (lp)) rfl (OSims.self _) (fun _ => rfl) (fun _ => rfl) (fun _ => ALe.self _) (fun _ => rfl) (ALe.self _) (OSims.self _) rfl (fun h => by cases h) (fun k hk L h1 h2 h3 => ?_) fun L hL => ?_
    · rw [round48i]

      by_cases hkm : k < lp
      · refine condT (lt_dec hkm) ?_
        rw [wrap_succ (by omega)]
        refine condT (lt_dec hkm) ?_
        refine condT (by rw [decide_eq_true rfl, Nat.beq_refl, Nat.beq_refl, ble_of hlq]; rfl) ?_
        exact h1 hkm rfl _ (OSims.self (J48i lp lq s t r gg hh n cur n2 cur2 x y z x2 y2 z2 cl cl2 (k + 1)))
      · refine condE (ge_dec (by omega)) ?_
        obtain rfl : k = lp := by omega
        exact h3 rfl
    · exact ⟨fun _ => hL.1 hg, fun N _ h => by cases h⟩
  · cases hF

noncomputable def I104j (lp lq i s t r : Nat) (a0 a1 a2 b0 b1 b2 c0 c1 c2 d0 d1 d2 : Nat → Nat) (n cur n2 cur2 : Nat) (x y z x2 y2 z2 : Nat → Nat) (cl cl2 : Bool) (k : Nat) : List A := [.rop (.agg [.ro 3 n (.vecs .f32 x y z), .bool cl, .flt .f32 cur]) 0, .rop (.agg [.ro 3 n2 (.vecs .f32 x2 y2 z2), .bool cl2, .flt .f32 cur2]) 0, .ptr 0 0, .sl 48 lp, .sl 49 lp, .sl 176 lq, .sl 177 lq, .ptr 288 0, .int .i64 (Int.ofNat i), .int .i64 (Int.ofNat k)]
noncomputable def J104j (lp lq i s t r : Nat) (a0 a1 a2 b0 b1 b2 c0 c1 c2 d0 d1 d2 : Nat → Nat) (n cur n2 cur2 : Nat) (x y z x2 y2 z2 : Nat → Nat) (cl cl2 : Bool) (k : Nat) : List O := [.var [.flt .f32 (fbX (a0 i) (a1 i) (a2 i) (b0 i) (b1 i) (b2 i) (six c0 c1 c2 d0 d1 d2) s k), .flt .f32 (fbY (a0 i) (a1 i) (a2 i) (b0 i) (b1 i) (b2 i) (six c0 c1 c2 d0 d1 d2) t k), .flt .f32 (fbZ (a0 i) (a1 i) (a2 i) (b0 i) (b1 i) (b2 i) (six c0 c1 c2 d0 d1 d2) r k)], .row 0 3 lp (.vecs .f32 a0 a1 a2), .row 0 3 lp (.vecs .f32 b0 b1 b2), .row 0 3 lq (.vecs .f32 c0 c1 c2), .row 0 3 lq (.vecs .f32 d0 d1 d2), .var [.flt .f32 0, .flt .f32 0, .flt .f32 0]]
theorem round104j (lp lq i s t r : Nat) (a0 a1 a2 b0 b1 b2 c0 c1 c2 d0 d1 d2 : Nat → Nat) (n cur n2 cur2 : Nat) (x y z x2 y2 z2 : Nat → Nat) (cl cl2 : Bool) (k : Nat) (L : XK → List A → List (Option O) → Prop) :
    ((exec cfg22 (fun _ => true) (fun _ => none) 0 1000 (loopOf Try.f104 2) (litSt Try.f104.ntmps 416 [0, 1, 6, 7, 8, 9, 10, 11, 12, 13] [288, 48, 49, 176, 177, 0] (I104j lp lq i s t r a0 a1 a2 b0 b1 b2 c0 c1 c2 d0 d1 d2 n cur n2 cur2 x y z x2 y2 z2 cl cl2 k) (J104j lp lq i s t r a0 a1 a2 b0 b1 b2 c0 c1 c2 d0 d1 d2 n cur n2 cur2 x y z x2 y2 z2 cl cl2 k))).rt [0, 1, 6, 7, 8, 9, 10, 11, 12, 13] [288, 48, 49, 176, 177, 0]).Ok L =
    bif decide (Int.ofNat k < Int.ofNat lq) then
      bif decide (Int.ofNat k < Int.ofNat lq) && (decide (Int.ofNat i < Int.ofNat lp) && true) then
        bif forder FloatKind.f32 (inn (fop BinOp.sub FloatKind.f32 (b0 i) (d0 k)) (fop BinOp.sub FloatKind.f32 (b1 i) (d1 k)) (fop BinOp.sub FloatKind.f32 (b2 i) (d2 k)) (fop BinOp.sub FloatKind.f32 (b0 i) (d0 k)) (fop BinOp.sub FloatKind.f32 (b1 i) (d1 k)) (fop BinOp.sub FloatKind.f32 (b2 i) (d2 k))) (can FloatKind.f32 0) == some Ordering.gt then
          bif decide (Int.ofNat k < Int.ofNat lq) && (decide (Int.ofNat i < Int.ofNat lp) && true) then
            L (XK.normal) ([(A.agg [A.ro 3 n (Row.vecs FloatKind.f32 x y z), A.bool cl, A.flt FloatKind.f32 cur]).rop 0, (A.agg [A.ro 3 n2 (Row.vecs FloatKind.f32 x2 y2 z2), A.bool cl2, A.flt FloatKind.f32 cur2]).rop 0, A.ptr 0 0, A.sl 48 lp, A.sl 49 lp, A.sl 176 lq, A.sl 177 lq, A.ptr 288 0, A.int IntKind.i64 (Int.ofNat i), A.int IntKind.i64 (IntKind.i64.wrap (Int.ofNat k + Int.ofNat 1))]) ([some (O.var [A.flt FloatKind.f32 (fop BinOp.add FloatKind.f32 (fbX (a0 i) (a1 i) (a2 i) (b0 i) (b1 i) (b2 i) (six c0 c1 c2 d0 d1 d2) s k) (fop BinOp.mul FloatKind.f32 (fop BinOp.sub FloatKind.f32 (b0 i) (d0 k)) (fop BinOp.quo FloatKind.f32 (fneg FloatKind.f32 (inn (a0 i) (a1 i) (a2 i) (c0 k) (c1 k) (c2 k))) (fop BinOp.mul FloatKind.f32 (inn (fop BinOp.sub FloatKind.f32 (b0 i) (d0 k)) (fop BinOp.sub FloatKind.f32 (b1 i) (d1 k)) (fop BinOp.sub FloatKind.f32 (b2 i) (d2 k)) (fop BinOp.sub FloatKind.f32 (b0 i) (d0 k)) (fop BinOp.sub FloatKind.f32 (b1 i) (d1 k)) (fop BinOp.sub FloatKind.f32 (b2 i) (d2 k))) (root32 (inn (fop BinOp.sub FloatKind.f32 (b0 i) (d0 k)) (fop BinOp.sub FloatKind.f32 (b1 i) (d1 k)) (fop BinOp.sub FloatKind.f32 (b2 i) (d2 k)) (fop BinOp.sub FloatKind.f32 (b0 i) (d0 k)) (fop BinOp.sub FloatKind.f32 (b1 i) (d1 k)) (fop BinOp.sub FloatKind.f32 (b2 i) (d2 k)))))))), A.flt FloatKind.f32 (fop BinOp.add FloatKind.f32 (fbY (a0 i) (a1 i) (a2 i) (b0 i) (b1 i) (b2 i) (six c0 c1 c2 d0 d1 d2) t k) (fop BinOp.mul FloatKind.f32 (fop BinOp.sub FloatKind.f32 (b1 i) (d1 k)) (fop BinOp.quo FloatKind.f32 (fneg FloatKind.f32 (inn (a0 i) (a1 i) (a2 i) (c0 k) (c1 k) (c2 k))) (fop BinOp.mul FloatKind.f32 (inn (fop BinOp.sub FloatKind.f32 (b0 i) (d0 k)) (fop BinOp.sub FloatKind.f32 (b1 i) (d1 k)) (fop BinOp.sub FloatKind.f32 (b2 i) (d2 k)) (fop BinOp.sub FloatKind.f32 (b0 i) (d0 k)) (fop BinOp.sub FloatKind.f32 (b1 i) (d1 k)) (fop BinOp.sub FloatKind.f32 (b2 i) (d2 k))) (root32 (inn (fop BinOp.sub FloatKind.f32 (b0 i) (d0 k)) (fop BinOp.sub FloatKind.f32 (b1 i) (d1 k)) (fop BinOp.sub FloatKind.f32 (b2 i) (d2 k)) (fop BinOp.sub FloatKind.f32 (b0 i) (d0 k)) (fop BinOp.sub FloatKind.f32 (b1 i) (d1 k)) (fop BinOp.sub FloatKind.f32 (b2 i) (d2 k)))))))), A.flt FloatKind.f32 (fop BinOp.add FloatKind.f32 (fbZ (a0 i) (a1 i) (a2 i) (b0 i) (b1 i) (b2 i) (six c0 c1 c2 d0 d1 d2) r k) (fop BinOp.mul FloatKind.f32 (fop BinOp.sub FloatKind.f32 (b2 i) (d2 k)) (fop BinOp.quo FloatKind.f32 (fneg FloatKind.f32 (inn (a0 i) (a1 i) (a2 i) (c0 k) (c1 k) (c2 k))) (fop BinOp.mul FloatKind.f32 (inn (fop BinOp.sub FloatKind.f32 (b0 i) (d0 k)) (fop BinOp.sub FloatKind.f32 (b1 i) (d1 k)) (fop BinOp.sub FloatKind.f32 (b2 i) (d2 k)) (fop BinOp.sub FloatKind.f32 (b0 i) (d0 k)) (fop BinOp.sub FloatKind.f32 (b1 i) (d1 k)) (fop BinOp.sub FloatKind.f32 (b2 i) (d2 k))) (root32 (inn (fop BinOp.sub FloatKind.f32 (b0 i) (d0 k)) (fop BinOp.sub FloatKind.f32 (b1 i) (d1 k)) (fop BinOp.sub FloatKind.f32 (b2 i) (d2 k)) (fop BinOp.sub FloatKind.f32 (b0 i) (d0 k)) (fop BinOp.sub FloatKind.f32 (b1 i) (d1 k)) (fop BinOp.sub FloatKind.f32 (b2 i) (d2 k))))))))]), some (O.row 0 3 lp (Row.vecs FloatKind.f32 a0 a1 a2)), some (O.row 0 3 lp (Row.vecs FloatKind.f32 b0 b1 b2)), some (O.row 0 3 lq (Row.vecs FloatKind.f32 c0 c1 c2)), some (O.row 0 3 lq (Row.vecs FloatKind.f32 d0 d1 d2)), some (O.var [A.flt FloatKind.f32 0, A.flt FloatKind.f32 0, A.flt FloatKind.f32 0])])
          else
            False
        else
          L (XK.normal) ([(A.agg [A.ro 3 n (Row.vecs FloatKind.f32 x y z), A.bool cl, A.flt FloatKind.f32 cur]).rop 0, (A.agg [A.ro 3 n2 (Row.vecs FloatKind.f32 x2 y2 z2), A.bool cl2, A.flt FloatKind.f32 cur2]).rop 0, A.ptr 0 0, A.sl 48 lp, A.sl 49 lp, A.sl 176 lq, A.sl 177 lq, A.ptr 288 0, A.int IntKind.i64 (Int.ofNat i), A.int IntKind.i64 (IntKind.i64.wrap (Int.ofNat k + Int.ofNat 1))]) ([some (O.var [A.flt FloatKind.f32 (fbX (a0 i) (a1 i) (a2 i) (b0 i) (b1 i) (b2 i) (six c0 c1 c2 d0 d1 d2) s k), A.flt FloatKind.f32 (fbY (a0 i) (a1 i) (a2 i) (b0 i) (b1 i) (b2 i) (six c0 c1 c2 d0 d1 d2) t k), A.flt FloatKind.f32 (fbZ (a0 i) (a1 i) (a2 i) (b0 i) (b1 i) (b2 i) (six c0 c1 c2 d0 d1 d2) r k)]), some (O.row 0 3 lp (Row.vecs FloatKind.f32 a0 a1 a2)), some (O.row 0 3 lp (Row.vecs FloatKind.f32 b0 b1 b2)), some (O.row 0 3 lq (Row.vecs FloatKind.f32 c0 c1 c2)), some (O.row 0 3 lq (Row.vecs FloatKind.f32 d0 d1 d2)), some (O.var [A.flt FloatKind.f32 0, A.flt FloatKind.f32 0, A.flt FloatKind.f32 0])])
      else
        False
    else
      L (XK.exit 2) ([(A.agg [A.ro 3 n (Row.vecs FloatKind.f32 x y z), A.bool cl, A.flt FloatKind.f32 cur]).rop 0, (A.agg [A.ro 3 n2 (Row.vecs FloatKind.f32 x2 y2 z2), A.bool cl2, A.flt FloatKind.f32 cur2]).rop 0, A.ptr 0 0, A.sl 48 lp, A.sl 49 lp, A.sl 176 lq, A.sl 177 lq, A.ptr 288 0, A.int IntKind.i64 (Int.ofNat i), A.int IntKind.i64 (Int.ofNat k)]) ([some (O.var [A.flt FloatKind.f32 (fbX (a0 i) (a1 i) (a2 i) (b0 i) (b1 i) (b2 i) (six c0 c1 c2 d0 d1 d2) s k), A.flt FloatKind.f32 (fbY (a0 i) (a1 i) (a2 i) (b0 i) (b1 i) (b2 i) (six c0 c1 c2 d0 d1 d2) t k), A.flt FloatKind.f32 (fbZ (a0 i) (a1 i) (a2 i) (b0 i) (b1 i) (b2 i) (six c0 c1 c2 d0 d1 d2) r k)]), some (O.row 0 3 lp (Row.vecs FloatKind.f32 a0 a1 a2)), some (O.row 0 3 lp (Row.vecs FloatKind.f32 b0 b1 b2)), some (O.row 0 3 lq (Row.vecs FloatKind.f32 c0 c1 c2)), some (O.row 0 3 lq (Row.vecs FloatKind.f32 d0 d1 d2)), some (O.var [A.flt FloatKind.f32 0, A.flt FloatKind.f32 0, A.flt FloatKind.f32 0])]) := by kernel_rfl
noncomputable def F104j : List A → List (Option O) → Option R3
  | [.rop (.agg [.ro 3 n (.vecs .f32 x y z), .bool cl, .flt .f32 cur]) 0, .rop (.agg [.ro 3 n2 (.vecs .f32 x2 y2 z2), .bool cl2, .flt .f32 cur2]) 0, .ptr 0 0, .sl 48 lp, .sl 49 lp2, .sl 176 lq, .sl 177 lq2, .ptr 288 0, .int .i64 (.ofNat i), .int .i64 0], [some (.var [.flt .f32 s, .flt .f32 t, .flt .f32 r]), some (.row 0 3 lp3 (.vecs .f32 a0 a1 a2)), some (.row 0 3 lp4 (.vecs .f32 b0 b1 b2)), some (.row 0 3 lq3 (.vecs .f32 c0 c1 c2)), some (.row 0 3 lq4 (.vecs .f32 d0 d1 d2)), some (.var [.flt .f32 0, .flt .f32 0, .flt .f32 0])] => some (.ite (Nat.beq lp lp2 && Nat.beq lp lp3 && Nat.beq lp lp4 && Nat.beq lq lq2 && Nat.beq lq lq3 && Nat.beq lq lq4 && Nat.ble lq 100000 && Nat.blt i lp) (.leaf .normal (I104j lp lq i s t r a0 a1 a2 b0 b1 b2 c0 c1 c2 d0 d1 d2 n cur n2 cur2 x y z x2 y2 z2 cl cl2 (lq)) (J104j lp lq i s t r a0 a1 a2 b0 b1 b2 c0 c1 c2 d0 d1 d2 n cur n2 cur2 x y z x2 y2 z2 cl cl2 (lq))) .fail)
  | _, _ => none
theorem loop104j : CodeOK Try.prog (fun _ σ => sumAt Try.f104.ntmps 416 [0, 1, 6, 7, 8, 9, 10, 11, 12, 13] [288, 48, 49, 176, 177, 0] F104j σ) (.block 2 (.loop (loopOf Try.f104 2))) := by
  refine block_ok (own := fun _ => true) (lp := (fun _ => none)) (un := 0) (fuel := 1000) cfg22_ok (lp_none _) fun az os R hF hok => ?_
  unfold F104j at hF
  split at hF
  · rename_i n x y z cl cur n2 x2 y2 z2 cl2 cur2 lp lp2 lq lq2 i s t r lp3 a0 a1 a2 lp4 b0 b1 b2 lq3 c0 c1 c2 lq4 d0 d1 d2
    injection hF with hF
    subst hF
    have hg := hok.guard
    have hg' := hg
    simp only [Bool.and_eq_true, Nat.ble_eq, Nat.beq_eq, decide_eq_true_eq] at hg'
    obtain ⟨⟨⟨⟨⟨⟨⟨rfl, rfl⟩, rfl⟩, rfl⟩, rfl⟩, rfl⟩, hlq⟩, hi⟩ := hg'
    have hi := blt_lt' hi
    refine for_fact (ids := [288, 48, 49, 176, 177, 0]) (fun _ => true) (lq) (I104j lp lq i s t r a0 a1 a2 b0 b1 b2 c0 c1 c2 d0 d1 d2 n cur n2 cur2 x y z x2 y2 z2 cl cl2) (J104j lp lq i s t r a0 a1 a2 b0 b1 b2 c0 c1 c2 d0 d1 d2 n cur n2 cur2 x y z x2 y2 z2 cl cl2) _ (.ret) (I104j lp lq i s t r a0 a1 a2 b0 b1 b2 c0 c1 c2 d0 d1 d2 n cur n2 cur2 x y z x2 y2 z2 cl cl2) (I104j lp lq i s t r a0 a1 a2 b0 b1 b2 c0 c1 c2 d0 d1 d2 n cur n2 cur2 x y z x2 y2 z2 cl cl2) (I104j lp lq i s t r a0 a1 a2 b0 b1 b2 c0 c1 c2 d0 d1 d2 n cur n2 cur2 x y z x2 y2 z2 cl cl2 (lq)) (J104j lp lq i s t r a0 a1 a2 b0 b1 b2 c0 c1 c2 d0 d1 d2 n cur n2 cur2 x y z x2 y2 z2 cl cl2 (lq)) rfl (OSims.self _) (fun _ => rfl) (fun _ => rfl) (fun _ => ALe.self _) (fun _ => rfl) (ALe.self _) (OSims.self _) rfl (fun h => by cases h) (fun k hk L h1 h2 h3 => ?_) fun L hL => ?_
    · rw [round104j]

      by_cases hkm : k < lq
      · refine condT (lt_dec hkm) ?_
        rw [wrap_succ (by omega)]
        refine condT (by rw [lt_dec hkm, lt_dec hi]; rfl) ?_
        show cond (fbC (b0 i) (b1 i) (b2 i) (six c0 c1 c2 d0 d1 d2) k) _ _
        cases hs : fbC (b0 i) (b1 i) (b2 i) (six c0 c1 c2 d0 d1 d2) k
        · exact h1 hkm rfl _ (by unfold J104j; rw [fbX_f hs, fbY_f hs, fbZ_f hs]; exact OSims.self [_, _, _, _, _, _])
        · refine condT rfl ?_
          refine condT (by rw [lt_dec hkm, lt_dec hi]; rfl) ?_
          exact h1 hkm rfl _ (by unfold J104j; rw [fbX_t hs, fbY_t hs, fbZ_t hs]; exact OSims.self [_, _, _, _, _, _])
      · refine condE (ge_dec (by omega)) ?_
        obtain rfl : k = lq := by omega
        exact h3 rfl
    · exact ⟨fun _ => hL.1 hg, fun N _ h => by cases h⟩
  · cases hF

noncomputable def lpi104i : List (Nat × (St → T)) := [(2, sumAt Try.f104.ntmps 416 [0, 1, 6, 7, 8, 9, 10, 11, 12, 13] [288, 48, 49, 176, 177, 0] F104j)]
theorem lpi104i_ok : LpOK Try.prog (look lpi104i) (loopOf Try.f104 0) := lp_in (lp_loops (by kernel_rfl) (by kernel_rfl) fun p hp => by
  simp only [lpi104i, List.mem_cons, List.not_mem_nil, or_false] at hp
  rcases hp with rfl
  · exact loop104j) _
noncomputable def I104i (lp lq s t r : Nat) (a0 a1 a2 b0 b1 b2 c0 c1 c2 d0 d1 d2 : Nat → Nat) (n cur n2 cur2 : Nat) (x y z x2 y2 z2 : Nat → Nat) (cl cl2 : Bool) (k : Nat) : List A := [.rop (.agg [.ro 3 n (.vecs .f32 x y z), .bool cl, .flt .f32 cur]) 0, .rop (.agg [.ro 3 n2 (.vecs .f32 x2 y2 z2), .bool cl2, .flt .f32 cur2]) 0, .ptr 0 0, .sl 48 lp, .sl 49 lp, .sl 176 lq, .sl 177 lq, .ptr 288 0, .int .i64 (Int.ofNat k)]
noncomputable def J104i (lp lq s t r : Nat) (a0 a1 a2 b0 b1 b2 c0 c1 c2 d0 d1 d2 : Nat → Nat) (n cur n2 cur2 : Nat) (x y z x2 y2 z2 : Nat → Nat) (cl cl2 : Bool) (k : Nat) : List O := [.var [.flt .f32 (foX (six a0 a1 a2 b0 b1 b2) (six c0 c1 c2 d0 d1 d2) lq s k), .flt .f32 (foY (six a0 a1 a2 b0 b1 b2) (six c0 c1 c2 d0 d1 d2) lq t k), .flt .f32 (foZ (six a0 a1 a2 b0 b1 b2) (six c0 c1 c2 d0 d1 d2) lq r k)], .row 0 3 lp (.vecs .f32 a0 a1 a2), .row 0 3 lp (.vecs .f32 b0 b1 b2), .row 0 3 lq (.vecs .f32 c0 c1 c2), .row 0 3 lq (.vecs .f32 d0 d1 d2), .var [.flt .f32 0, .flt .f32 0, .flt .f32 0]]
theorem round104i (lp lq s t r : Nat) (a0 a1 a2 b0 b1 b2 c0 c1 c2 d0 d1 d2 : Nat → Nat) (n cur n2 cur2 : Nat) (x y z x2 y2 z2 : Nat → Nat) (cl cl2 : Bool) (k : Nat) (L : XK → List A → List (Option O) → Prop) :
    ((exec cfg22 (fun _ => true) (look lpi104i) 0 1000 (loopOf Try.f104 0) (litSt Try.f104.ntmps 336 [0, 1, 6, 7, 8, 9, 10, 11, 12] [288, 48, 49, 176, 177, 0] (I104i lp lq s t r a0 a1 a2 b0 b1 b2 c0 c1 c2 d0 d1 d2 n cur n2 cur2 x y z x2 y2 z2 cl cl2 k) (J104i lp lq s t r a0 a1 a2 b0 b1 b2 c0 c1 c2 d0 d1 d2 n cur n2 cur2 x y z x2 y2 z2 cl cl2 k))).rt [0, 1, 6, 7, 8, 9, 10, 11, 12] [288, 48, 49, 176, 177, 0]).Ok L =
    bif decide (Int.ofNat k < Int.ofNat lp) then
      bif lp.beq lp && lp.beq lp && lp.beq lp && lq.beq lq && lq.beq lq && lq.beq lq && lq.ble 100000 && k.blt lp then
        L (XK.normal) ([(A.agg [A.ro 3 n (Row.vecs FloatKind.f32 x y z), A.bool cl, A.flt FloatKind.f32 cur]).rop 0, (A.agg [A.ro 3 n2 (Row.vecs FloatKind.f32 x2 y2 z2), A.bool cl2, A.flt FloatKind.f32 cur2]).rop 0, A.ptr 0 0, A.sl 48 lp, A.sl 49 lp, A.sl 176 lq, A.sl 177 lq, A.ptr 288 0, A.int IntKind.i64 (IntKind.i64.wrap (Int.ofNat k + Int.ofNat 1))]) ([some (O.var [A.flt FloatKind.f32 (fbX (a0 k) (a1 k) (a2 k) (b0 k) (b1 k) (b2 k) (six c0 c1 c2 d0 d1 d2) (foX (six a0 a1 a2 b0 b1 b2) (six c0 c1 c2 d0 d1 d2) lq s k) lq), A.flt FloatKind.f32 (fbY (a0 k) (a1 k) (a2 k) (b0 k) (b1 k) (b2 k) (six c0 c1 c2 d0 d1 d2) (foY (six a0 a1 a2 b0 b1 b2) (six c0 c1 c2 d0 d1 d2) lq t k) lq), A.flt FloatKind.f32 (fbZ (a0 k) (a1 k) (a2 k) (b0 k) (b1 k) (b2 k) (six c0 c1 c2 d0 d1 d2) (foZ (six a0 a1 a2 b0 b1 b2) (six c0 c1 c2 d0 d1 d2) lq r k) lq)]), some (O.row 0 3 lp (Row.vecs FloatKind.f32 a0 a1 a2)), some (O.row 0 3 lp (Row.vecs FloatKind.f32 b0 b1 b2)), some (O.row 0 3 lq (Row.vecs FloatKind.f32 c0 c1 c2)), some (O.row 0 3 lq (Row.vecs FloatKind.f32 d0 d1 d2)), some (O.var [A.flt FloatKind.f32 0, A.flt FloatKind.f32 0, A.flt FloatKind.f32 0])])
      else
        False
    else
      L (XK.exit 0) ([(A.agg [A.ro 3 n (Row.vecs FloatKind.f32 x y z), A.bool cl, A.flt FloatKind.f32 cur]).rop 0, (A.agg [A.ro 3 n2 (Row.vecs FloatKind.f32 x2 y2 z2), A.bool cl2, A.flt FloatKind.f32 cur2]).rop 0, A.ptr 0 0, A.sl 48 lp, A.sl 49 lp, A.sl 176 lq, A.sl 177 lq, A.ptr 288 0, A.int IntKind.i64 (Int.ofNat k)]) ([some (O.var [A.flt FloatKind.f32 (foX (six a0 a1 a2 b0 b1 b2) (six c0 c1 c2 d0 d1 d2) lq s k), A.flt FloatKind.f32 (foY (six a0 a1 a2 b0 b1 b2) (six c0 c1 c2 d0 d1 d2) lq t k), A.flt FloatKind.f32 (foZ (six a0 a1 a2 b0 b1 b2) (six c0 c1 c2 d0 d1 d2) lq r k)]), some (O.row 0 3 lp (Row.vecs FloatKind.f32 a0 a1 a2)), some (O.row 0 3 lp (Row.vecs FloatKind.f32 b0 b1 b2)), some (O.row 0 3 lq (Row.vecs FloatKind.f32 c0 c1 c2)), some (O.row 0 3 lq (Row.vecs FloatKind.f32 d0 d1 d2)), some (O.var [A.flt FloatKind.f32 0, A.flt FloatKind.f32 0, A.flt FloatKind.f32 0])]) := by kernel_rfl
noncomputable def F104i : List A → List (Option O) → Option R3
  | [.rop (.agg [.ro 3 n (.vecs .f32 x y z), .bool cl, .flt .f32 cur]) 0, .rop (.agg [.ro 3 n2 (.vecs .f32 x2 y2 z2), .bool cl2, .flt .f32 cur2]) 0, .ptr 0 0, .sl 48 lp, .sl 49 lp2, .sl 176 lq, .sl 177 lq2, .ptr 288 0, .int .i64 0], [some (.var [.flt .f32 s, .flt .f32 t, .flt .f32 r]), some (.row 0 3 lp3 (.vecs .f32 a0 a1 a2)), some (.row 0 3 lp4 (.vecs .f32 b0 b1 b2)), some (.row 0 3 lq3 (.vecs .f32 c0 c1 c2)), some (.row 0 3 lq4 (.vecs .f32 d0 d1 d2)), some (.var [.flt .f32 0, .flt .f32 0, .flt .f32 0])] => some (.ite (Nat.beq lp lp2 && Nat.beq lp lp3 && Nat.beq lp lp4 && Nat.beq lq lq2 && Nat.beq lq lq3 && Nat.beq lq lq4 && Nat.ble lp 100000 && Nat.ble lq 100000) (.leaf .normal (I104i lp lq s t r a0 a1 a2 b0 b1 b2 c0 c1 c2 d0 d1 d2 n cur n2 cur2 x y z x2 y2 z2 cl cl2 (lp)) (J104i lp lq s t r a0 a1 a2 b0 b1 b2 c0 c1 c2 d0 d1 d2 n cur n2 cur2 x y z x2 y2 z2 cl cl2 (lp))) .fail)
  | _, _ => none
theorem loop104i : CodeOK Try.prog (fun _ σ => sumAt Try.f104.ntmps 336 [0, 1, 6, 7, 8, 9, 10, 11, 12] [288, 48, 49, 176, 177, 0] F104i σ) (.block 0 (.loop (loopOf Try.f104 0))) := by
  refine block_ok (own := fun _ => true) (lp := (look lpi104i)) (un := 0) (fuel := 1000) cfg22_ok lpi104i_ok fun az os R hF hok => ?_
  unfold F104i at hF
  split at hF
  · rename_i n x y z cl cur n2 x2 y2 z2 cl2 cur2 lp lp2 lq lq2 s t r lp3 a0 a1 a2 lp4 b0 b1 b2 lq3 c0 c1 c2 lq4 d0 d1 d2
    injection hF with hF
    subst hF
    have hg := hok.guard
    have hg' := hg
    simp only [Bool.and_eq_true, Nat.ble_eq, Nat.beq_eq, decide_eq_true_eq] at hg'
    obtain ⟨⟨⟨⟨⟨⟨⟨rfl, rfl⟩, rfl⟩, rfl⟩, rfl⟩, rfl⟩, hlp⟩, hlq⟩ := hg'
    refine for_fact (ids := [288, 48, 49, 176, 177, 0]) (fun _ => true) (lp) (I104i lp lq s t r a0 a1 a2 b0 b1 b2 c0 c1 c2 d0 d1 d2 n cur n2 cur2 x y z x2 y2 z2 cl cl2) (J104i lp lq s t r a0 a1 a2 b0 b1 b2 c0 c1 c2 d0 d1 d2 n cur n2 cur2 x y z x2 y2 z2 cl cl2) _ (.ret) (I104i lp lq s t r a0 a1 a2 b0 b1 b2 c0 c1 c2 d0 d1 d2 n cur n2 cur2 x y z x2 y2 z2 cl cl2) (I104i lp lq s t r a0 a1 a2 b0 b1 b2 c0 c1 c2 d0 d1 d2 n cur n2 cur2 x y z x2 y2 z2 cl cl2) (I104i lp lq s t r a0 a1 a2 b0 b1 b2 c0 c1 c2 d0 d1 d2 n cur n2 cur2 x y z x2 y2 z2 cl cl2 (lp)) (J104i lp lq s t r a0 a1 a2 b0 b1 b2 c0 c1 c2 d0 d1 d2 n cur n2 cur2 x y z x2 y2 z2 cl cl2 (lp)) rfl (OSims.self _) (fun _ => rfl) (fun _ => rfl) (fun _ => ALe.self _) (fun _ => rfl) (ALe.self _) (OSims.self _) rfl (fun h => by cases h) (fun k hk L h1 h2 h3 => ?_) fun L hL => ?_
    · rw [round104i]

      by_cases hkm : k < lp
      · refine condT (lt_dec hkm) ?_
        rw [wrap_succ (by omega)]
        refine condT (by rw [Nat.beq_refl, Nat.beq_refl, ble_of hlq, lt_blt hkm]; rfl) ?_
        exact h1 hkm rfl _ (OSims.self (J104i lp lq s t r a0 a1 a2 b0 b1 b2 c0 c1 c2 d0 d1 d2 n cur n2 cur2 x y z x2 y2 z2 cl cl2 (k + 1)))
      · refine condE (ge_dec (by omega)) ?_
        obtain rfl : k = lp := by omega
        exact h3 rfl
    · exact ⟨fun _ => hL.1 hg, fun N _ h => by cases h⟩
  · cases hF

end Go.Fw.W1

/-
  Forces between wires: the law.
-/
namespace Go.Fw.W1
open Go.Proofs

noncomputable def two3 (n cur : Nat) (x y z : Nat → Nat) (n2 cur2 : Nat) (x2 y2 z2 : Nat → Nat) (p : Int) : Bool := bif bif okW n cur x y z then okW n2 cur2 x2 y2 z2 else false then inI p 1 8 else false
theorem two3_ok {n cur : Nat} {x y z : Nat → Nat} {n2 cur2 : Nat} {x2 y2 z2 : Nat → Nat} {p : Int} (h : two3 n cur x y z n2 cur2 x2 y2 z2 p = true) : (2 ≤ n ∧ n ≤ 48) ∧ (2 ≤ n2 ∧ n2 ≤ 48) ∧ 1 ≤ p ∧ p ≤ 8 := by
  unfold two3 at h
  cases h1 : okW n cur x y z
  · rw [h1] at h; cases h
  cases h2 : okW n2 cur2 x2 y2 z2
  · rw [h1, h2] at h; cases h
  rw [h1, h2] at h
  have h4 : inI p 1 8 = true := h
  unfold inI at h4
  cases h5 : decide (p ≥ 1)
  · rw [h5] at h4; cases h4
  · rw [h5] at h4
    exact ⟨okW_n h1, okW_n h2, of_decide_eq_true h5, of_decide_eq_true h4⟩
theorem not_two3 (n cur : Nat) (x y z : Nat → Nat) (n2 cur2 : Nat) (x2 y2 z2 : Nat → Nat) (p : Int) : (bif bif !okW n cur x y z then true else !okW n2 cur2 x2 y2 z2 then true else !inI p (Int.ofNat 1) (Int.ofNat 8)) = !two3 n cur x y z n2 cur2 x2 y2 z2 p := by
  show (bif bif !okW n cur x y z then true else !okW n2 cur2 x2 y2 z2 then true else !inI p 1 8) = _
  unfold two3
  cases okW n cur x y z <;> cases okW n2 cur2 x2 y2 z2 <;> cases inI p 1 8 <;> rfl
theorem two3_neg (n cur : Nat) (x y z : Nat → Nat) (n2 cur2 : Nat) (x2 y2 z2 : Nat → Nat) (pp : Nat) : two3 n cur x y z n2 cur2 x2 y2 z2 (Int.negSucc pp) = false := by
  cases h : two3 n cur x y z n2 cur2 x2 y2 z2 (Int.negSucc pp)
  · rfl
  · have := (two3_ok h).2.2.1; omega
noncomputable def fwXb (n cur : Nat) (x y z : Nat → Nat) (cl : Bool) (n2 cur2 : Nat) (x2 y2 z2 : Nat → Nat) (cl2 : Bool) (pp : Nat) : Nat := fop .mul .f32 (foX (pc (sg n x y z) pp) (pc (sg n2 x2 y2 z2) pp) (pp * cnt n2 cl2) 0 (pp * cnt n cl)) (fop .mul .f32 cur cur2)
noncomputable def fwYb (n cur : Nat) (x y z : Nat → Nat) (cl : Bool) (n2 cur2 : Nat) (x2 y2 z2 : Nat → Nat) (cl2 : Bool) (pp : Nat) : Nat := fop .mul .f32 (foY (pc (sg n x y z) pp) (pc (sg n2 x2 y2 z2) pp) (pp * cnt n2 cl2) 0 (pp * cnt n cl)) (fop .mul .f32 cur cur2)
noncomputable def fwZb (n cur : Nat) (x y z : Nat → Nat) (cl : Bool) (n2 cur2 : Nat) (x2 y2 z2 : Nat → Nat) (cl2 : Bool) (pp : Nat) : Nat := fop .mul .f32 (foZ (pc (sg n x y z) pp) (pc (sg n2 x2 y2 z2) pp) (pp * cnt n2 cl2) 0 (pp * cnt n cl)) (fop .mul .f32 cur cur2)
noncomputable def fbOk (n cur : Nat) (x y z : Nat → Nat) (cl : Bool) (n2 cur2 : Nat) (x2 y2 z2 : Nat → Nat) (cl2 : Bool) (pp : Nat) : Bool := two3 n cur x y z n2 cur2 x2 y2 z2 (Int.ofNat pp) && vfin (fwXb n cur x y z cl n2 cur2 x2 y2 z2 cl2 pp) (fwYb n cur x y z cl n2 cur2 x2 y2 z2 cl2 pp) (fwZb n cur x y z cl n2 cur2 x2 y2 z2 cl2 pp)
noncomputable def lp104 : List (Nat × (St → T)) := [(0, sumAt Try.f104.ntmps 336 [0, 1, 6, 7, 8, 9, 10, 11, 12] [288, 48, 49, 176, 177, 0] F104i)]
theorem lp104_ok : LpOK Try.prog (look lp104) (bodyOf Try.f104) := lp_loops (by kernel_rfl) (by kernel_rfl) fun p hp => by
  simp only [lp104, List.mem_cons, List.not_mem_nil, or_false] at hp
  rcases hp with rfl
  · exact loop104i
theorem auto104 (n cur n2 cur2 pp : Nat) (x y z x2 y2 z2 : Nat → Nat) (cl cl2 : Bool) : autoLp cfg22 (look lp104) Try.f104 [.rop (.agg [.ro 3 n (.vecs .f32 x y z), .bool cl, .flt .f32 cur]) 0, .rop (.agg [.ro 3 n2 (.vecs .f32 x2 y2 z2), .bool cl2, .flt .f32 cur2]) 0, .int .i64 (.ofNat pp)] =
    some (Nat.ble 1 n && n.ble 1000 && pp.ble 32 && (Nat.ble 1 n2 && n2.ble 1000 && pp.ble 32 && ((pp * cnt n cl).beq (pp * cnt n cl) && (pp * cnt n cl).beq (pp * cnt n cl) && (pp * cnt n cl).beq (pp * cnt n cl) && (pp * cnt n2 cl2).beq (pp * cnt n2 cl2) && (pp * cnt n2 cl2).beq (pp * cnt n2 cl2) && (pp * cnt n2 cl2).beq (pp * cnt n2 cl2) && (pp * cnt n cl).ble 100000 && (pp * cnt n2 cl2).ble 100000 && true)), A.agg [A.flt FloatKind.f32 (fop BinOp.mul FloatKind.f32 (foX (six (fun j => pc (sg n x y z) pp j 0) (fun j => pc (sg n x y z) pp j 1) (fun j => pc (sg n x y z) pp j 2) (fun j => pc (sg n x y z) pp j 3) (fun j => pc (sg n x y z) pp j 4) fun j => pc (sg n x y z) pp j 5) (six (fun j => pc (sg n2 x2 y2 z2) pp j 0) (fun j => pc (sg n2 x2 y2 z2) pp j 1) (fun j => pc (sg n2 x2 y2 z2) pp j 2) (fun j => pc (sg n2 x2 y2 z2) pp j 3) (fun j => pc (sg n2 x2 y2 z2) pp j 4) fun j => pc (sg n2 x2 y2 z2) pp j 5) (pp * cnt n2 cl2) 0 (pp * cnt n cl)) (fop BinOp.mul FloatKind.f32 cur cur2)), A.flt FloatKind.f32 (fop BinOp.mul FloatKind.f32 (foY (six (fun j => pc (sg n x y z) pp j 0) (fun j => pc (sg n x y z) pp j 1) (fun j => pc (sg n x y z) pp j 2) (fun j => pc (sg n x y z) pp j 3) (fun j => pc (sg n x y z) pp j 4) fun j => pc (sg n x y z) pp j 5) (six (fun j => pc (sg n2 x2 y2 z2) pp j 0) (fun j => pc (sg n2 x2 y2 z2) pp j 1) (fun j => pc (sg n2 x2 y2 z2) pp j 2) (fun j => pc (sg n2 x2 y2 z2) pp j 3) (fun j => pc (sg n2 x2 y2 z2) pp j 4) fun j => pc (sg n2 x2 y2 z2) pp j 5) (pp * cnt n2 cl2) 0 (pp * cnt n cl)) (fop BinOp.mul FloatKind.f32 cur cur2)), A.flt FloatKind.f32 (fop BinOp.mul FloatKind.f32 (foZ (six (fun j => pc (sg n x y z) pp j 0) (fun j => pc (sg n x y z) pp j 1) (fun j => pc (sg n x y z) pp j 2) (fun j => pc (sg n x y z) pp j 3) (fun j => pc (sg n x y z) pp j 4) fun j => pc (sg n x y z) pp j 5) (six (fun j => pc (sg n2 x2 y2 z2) pp j 0) (fun j => pc (sg n2 x2 y2 z2) pp j 1) (fun j => pc (sg n2 x2 y2 z2) pp j 2) (fun j => pc (sg n2 x2 y2 z2) pp j 3) (fun j => pc (sg n2 x2 y2 z2) pp j 4) fun j => pc (sg n2 x2 y2 z2) pp j 5) (pp * cnt n2 cl2) 0 (pp * cnt n cl)) (fop BinOp.mul FloatKind.f32 cur cur2))]) := by kernel_rfl
noncomputable def s104 : List A → Option (Bool × A)
  | [.rop (.agg [.ro 3 n (.vecs .f32 x y z), .bool cl, .flt .f32 cur]) 0, .rop (.agg [.ro 3 n2 (.vecs .f32 x2 y2 z2), .bool cl2, .flt .f32 cur2]) 0, .int .i64 (.ofNat pp)] => some (Nat.ble 1 n && Nat.ble n 1000 && Nat.ble 1 n2 && Nat.ble n2 1000 && Nat.ble pp 32, .agg [.flt .f32 (fwXb n cur x y z cl n2 cur2 x2 y2 z2 cl2 pp), .flt .f32 (fwYb n cur x y z cl n2 cur2 x2 y2 z2 cl2 pp), .flt .f32 (fwZb n cur x y z cl n2 cur2 x2 y2 z2 cl2 pp)])
  | _ => none
theorem s104_at : EnvAt Try.prog 104 s104 := of_auto cfg22_ok lp104_ok Try.func104 (by kernel_rfl) (by kernel_rfl) fun ds cc rr h hc => by
  unfold s104 at h
  split at h
  · rename_i n x y z cl cur n2 x2 y2 z2 cl2 cur2 pp
    simp only [Option.some.injEq, Prod.mk.injEq] at h
    obtain ⟨rfl, rfl⟩ := h
    refine auto_fit (auto104 n cur n2 cur2 pp x y z x2 y2 z2 cl cl2) ?_ ?_
    · unfold fwXb fwYb fwZb; rw [← six_pc (sg n x y z) pp, ← six_pc (sg n2 x2 y2 z2) pp]; rfl
    · simp only [Bool.and_eq_true, Nat.ble_eq] at hc
      obtain ⟨⟨⟨⟨k1, k2⟩, k3⟩, k4⟩, k5⟩ := hc
      rw [ble_of k1, ble_of k2, ble_of k3, ble_of k4, ble_of k5, Nat.beq_refl, Nat.beq_refl, ble_of (pcnt_le (cl := cl) k2 k5), ble_of (pcnt_le (cl := cl2) k4 k5)]; rfl
  · cases h

noncomputable def env23 : List (Nat × (List A → Option (Bool × A))) := (104, s104) :: env22
theorem env23_ok : EnvOK Try.prog (look env23) := (env_cons s104_at env22_ok)
noncomputable def cfg23 : Cfg := mkCfg tab [] xts (look env23)
theorem cfg23_ok : CfgOK Try.prog cfg23 := cfg_ok tab_eq (no_fts _) xts_ok env23_ok mixed
theorem auto47a (n cur n2 cur2 pp : Nat) (x y z x2 y2 z2 : Nat → Nat) (cl cl2 : Bool) : autoLp cfg23 (fun _ => none) Try.f47 [.agg [.ro 3 n (.vecs .f32 x y z), .bool cl, .flt .f32 cur], .agg [.ro 3 n2 (.vecs .f32 x2 y2 z2), .bool cl2, .flt .f32 cur2], .int .i64 (.ofNat pp)] =
    some (n.ble 4611686018427387000 && ((n2.ble 4611686018427387000 || !(!okW n cur x y z) == false) && bif bif bif !okW n cur x y z then true else !okW n2 cur2 x2 y2 z2 then true else !inI (Int.ofNat pp) (Int.ofNat 1) (Int.ofNat 8) then true else Nat.ble 1 n && n.ble 1000 && Nat.ble 1 n2 && n2.ble 1000 && pp.ble 32 && true), A.tup [A.agg [A.flt FloatKind.f32 (bif bif bif !okW n cur x y z then true else !okW n2 cur2 x2 y2 z2 then true else !inI (Int.ofNat pp) (Int.ofNat 1) (Int.ofNat 8) then 0 else bif vfin (fwXb n cur x y z cl n2 cur2 x2 y2 z2 cl2 pp) (fwYb n cur x y z cl n2 cur2 x2 y2 z2 cl2 pp) (fwZb n cur x y z cl n2 cur2 x2 y2 z2 cl2 pp) then fwXb n cur x y z cl n2 cur2 x2 y2 z2 cl2 pp else can FloatKind.f32 0), A.flt FloatKind.f32 (bif bif bif !okW n cur x y z then true else !okW n2 cur2 x2 y2 z2 then true else !inI (Int.ofNat pp) (Int.ofNat 1) (Int.ofNat 8) then 0 else bif vfin (fwXb n cur x y z cl n2 cur2 x2 y2 z2 cl2 pp) (fwYb n cur x y z cl n2 cur2 x2 y2 z2 cl2 pp) (fwZb n cur x y z cl n2 cur2 x2 y2 z2 cl2 pp) then fwYb n cur x y z cl n2 cur2 x2 y2 z2 cl2 pp else can FloatKind.f32 0), A.flt FloatKind.f32 (bif bif bif !okW n cur x y z then true else !okW n2 cur2 x2 y2 z2 then true else !inI (Int.ofNat pp) (Int.ofNat 1) (Int.ofNat 8) then 0 else bif vfin (fwXb n cur x y z cl n2 cur2 x2 y2 z2 cl2 pp) (fwYb n cur x y z cl n2 cur2 x2 y2 z2 cl2 pp) (fwZb n cur x y z cl n2 cur2 x2 y2 z2 cl2 pp) then fwZb n cur x y z cl n2 cur2 x2 y2 z2 cl2 pp else can FloatKind.f32 0)], A.bool (bif bif bif !okW n cur x y z then true else !okW n2 cur2 x2 y2 z2 then true else !inI (Int.ofNat pp) (Int.ofNat 1) (Int.ofNat 8) then false else vfin (fwXb n cur x y z cl n2 cur2 x2 y2 z2 cl2 pp) (fwYb n cur x y z cl n2 cur2 x2 y2 z2 cl2 pp) (fwZb n cur x y z cl n2 cur2 x2 y2 z2 cl2 pp))]) := by kernel_rfl
noncomputable def s47a : List A → Option (Bool × A)
  | [.agg [.ro 3 n (.vecs .f32 x y z), .bool cl, .flt .f32 cur], .agg [.ro 3 n2 (.vecs .f32 x2 y2 z2), .bool cl2, .flt .f32 cur2], .int .i64 (.ofNat pp)] => some (Nat.ble n 1048576 && Nat.ble n2 1048576, .tup [.agg [.flt .f32 (bif fbOk n cur x y z cl n2 cur2 x2 y2 z2 cl2 pp then fwXb n cur x y z cl n2 cur2 x2 y2 z2 cl2 pp else 0), .flt .f32 (bif fbOk n cur x y z cl n2 cur2 x2 y2 z2 cl2 pp then fwYb n cur x y z cl n2 cur2 x2 y2 z2 cl2 pp else 0), .flt .f32 (bif fbOk n cur x y z cl n2 cur2 x2 y2 z2 cl2 pp then fwZb n cur x y z cl n2 cur2 x2 y2 z2 cl2 pp else 0)], .bool (fbOk n cur x y z cl n2 cur2 x2 y2 z2 cl2 pp)])
  | _ => none
theorem s47a_at : EnvAt Try.prog 47 s47a := of_auto cfg23_ok (lp_none _) Try.func47 (by kernel_rfl) (by kernel_rfl) fun ds cc rr h hc => by
  unfold s47a at h
  split at h
  · rename_i n x y z cl cur n2 x2 y2 z2 cl2 cur2 pp
    simp only [Option.some.injEq, Prod.mk.injEq] at h
    obtain ⟨rfl, rfl⟩ := h
    refine auto_fit (auto47a n cur n2 cur2 pp x y z x2 y2 z2 cl cl2) ?_ ?_
    · rw [not_two3]
      unfold fbOk
      cases two3 n cur x y z n2 cur2 x2 y2 z2 (Int.ofNat pp) <;> rfl
    · simp only [Bool.and_eq_true, Nat.ble_eq] at hc
      rw [ble_of (show n ≤ 4611686018427387000 by omega), ble_of (show n2 ≤ 4611686018427387000 by omega), not_two3]
      cases ht : two3 n cur x y z n2 cur2 x2 y2 z2 (Int.ofNat pp)
      · simp
      · obtain ⟨k1, k2, k3, k4⟩ := two3_ok ht
        simp at k4
        rw [ble_of (show 1 ≤ n by omega), ble_of (show n ≤ 1000 by omega), ble_of (show 1 ≤ n2 by omega), ble_of (show n2 ≤ 1000 by omega), ble_of (show pp ≤ 32 by omega)]
        simp
  · cases h

theorem auto47b (n cur n2 cur2 pp : Nat) (x y z x2 y2 z2 : Nat → Nat) (cl cl2 : Bool) : autoS cfg23 (fun _ => none) true Try.f47 [.agg [.ro 3 n (.vecs .f32 x y z), .bool cl, .flt .f32 cur], .agg [.ro 3 n2 (.vecs .f32 x2 y2 z2), .bool cl2, .flt .f32 cur2], .int .i64 (.negSucc pp)] =
    some (n.ble 4611686018427387000 && ((n2.ble 4611686018427387000 || !(!okW n cur x y z) == false) && ((bif bif !okW n cur x y z then true else !okW n2 cur2 x2 y2 z2 then true else !inI (Int.negSucc pp) (Int.ofNat 1) (Int.ofNat 8)) && true)), A.tup [A.agg [A.flt FloatKind.f32 0, A.flt FloatKind.f32 0, A.flt FloatKind.f32 0], A.bool false]) := by kernel_rfl
noncomputable def s47b : List A → Option (Bool × A)
  | [.agg [.ro 3 n (.vecs .f32 x y z), .bool cl, .flt .f32 cur], .agg [.ro 3 n2 (.vecs .f32 x2 y2 z2), .bool cl2, .flt .f32 cur2], .int .i64 (.negSucc pp)] => some (Nat.ble n 1048576 && Nat.ble n2 1048576, .tup [.agg [.flt .f32 0, .flt .f32 0, .flt .f32 0], .bool false])
  | _ => none
theorem s47b_at : EnvAt Try.prog 47 s47b := of_autoS cfg23_ok (lp_none _) Try.func47 (by kernel_rfl) (by kernel_rfl) fun ds cc rr h hc => by
  unfold s47b at h
  split at h
  · rename_i n x y z cl cur n2 x2 y2 z2 cl2 cur2 pp
    simp only [Option.some.injEq, Prod.mk.injEq] at h
    obtain ⟨rfl, rfl⟩ := h
    refine auto_fit (auto47b n cur n2 cur2 pp x y z x2 y2 z2 cl cl2) ?_ ?_
    · rfl
    · simp only [Bool.and_eq_true, Nat.ble_eq] at hc
      rw [ble_of (show n ≤ 4611686018427387000 by omega), ble_of (show n2 ≤ 4611686018427387000 by omega), not_two3, two3_neg]
      simp
  · cases h

noncomputable def s47 : List A → Option (Bool × A)
  | [a, b, .int .i64 (.ofNat pp)] => s47a [a, b, .int .i64 (.ofNat pp)]
  | ds => s47b ds
theorem s47_at : EnvAt Try.prog 47 s47 := by
  refine ⟨s47a_at.1, fun ds c r h hc => ?_⟩
  unfold s47 at h
  split at h
  · exact s47a_at.2 _ _ _ h hc
  · exact s47b_at.2 _ _ _ h hc
noncomputable def lp48a : List (Nat × (St → T)) := [(0, sumAt Try.f48.ntmps 464 [3, 4, 6, 7, 8, 9, 36, 37, 38] [288, 352, 416, 32, 16, 0] F48i)]
theorem lp48a_ok : LpOK Try.prog (look lp48a) (bodyOf Try.f48) := lp_loops (by kernel_rfl) (by kernel_rfl) fun p hp => by
  simp only [lp48a, List.mem_cons, List.not_mem_nil, or_false] at hp
  rcases hp with rfl
  · exact loop48i
theorem auto48a (n cur n2 cur2 pp : Nat) (x y z x2 y2 z2 : Nat → Nat) (cl cl2 : Bool) : autoLp cfg23 (look lp48a) Try.f48 [.agg [.ro 3 n (.vecs .f32 x y z), .bool cl, .flt .f32 cur], .agg [.ro 3 n2 (.vecs .f32 x2 y2 z2), .bool cl2, .flt .f32 cur2], .int .i64 (.ofNat pp)] =
    some (n.ble 4611686018427387000 && ((n2.ble 4611686018427387000 || !(!okW n cur x y z) == false) && bif bif bif !okW n cur x y z then true else !okW n2 cur2 x2 y2 z2 then true else !inI (Int.ofNat pp) (Int.ofNat 1) (Int.ofNat 8) then true else Nat.ble 1 n2 && n2.ble 1000 && pp.ble 32 && (Nat.ble 1 n && n.ble 1000 && pp.ble 32 && (decide (Int.ofNat (pp * cnt n cl) = Int.ofNat (pp * cnt n cl)) && (pp * cnt n cl).beq (pp * cnt n cl) && (pp * cnt n2 cl2).beq (pp * cnt n2 cl2) && (pp * cnt n2 cl2).ble 100000 && (pp * cnt n cl).ble 100000 && true))), A.tup [A.agg [A.flt FloatKind.f32 (bif bif bif !okW n cur x y z then true else !okW n2 cur2 x2 y2 z2 then true else !inI (Int.ofNat pp) (Int.ofNat 1) (Int.ofNat 8) then 0 else bif vfin (fop BinOp.mul FloatKind.f32 (foX (pc (sg n x y z) pp) (pc (sg n2 x2 y2 z2) pp) (pp * cnt n2 cl2) 0 (pp * cnt n cl)) (fop BinOp.mul FloatKind.f32 cur cur2)) (fop BinOp.mul FloatKind.f32 (foY (pc (sg n x y z) pp) (pc (sg n2 x2 y2 z2) pp) (pp * cnt n2 cl2) 0 (pp * cnt n cl)) (fop BinOp.mul FloatKind.f32 cur cur2)) (fop BinOp.mul FloatKind.f32 (foZ (pc (sg n x y z) pp) (pc (sg n2 x2 y2 z2) pp) (pp * cnt n2 cl2) 0 (pp * cnt n cl)) (fop BinOp.mul FloatKind.f32 cur cur2)) then fop BinOp.mul FloatKind.f32 (foX (pc (sg n x y z) pp) (pc (sg n2 x2 y2 z2) pp) (pp * cnt n2 cl2) 0 (pp * cnt n cl)) (fop BinOp.mul FloatKind.f32 cur cur2) else can FloatKind.f32 0), A.flt FloatKind.f32 (bif bif bif !okW n cur x y z then true else !okW n2 cur2 x2 y2 z2 then true else !inI (Int.ofNat pp) (Int.ofNat 1) (Int.ofNat 8) then 0 else bif vfin (fop BinOp.mul FloatKind.f32 (foX (pc (sg n x y z) pp) (pc (sg n2 x2 y2 z2) pp) (pp * cnt n2 cl2) 0 (pp * cnt n cl)) (fop BinOp.mul FloatKind.f32 cur cur2)) (fop BinOp.mul FloatKind.f32 (foY (pc (sg n x y z) pp) (pc (sg n2 x2 y2 z2) pp) (pp * cnt n2 cl2) 0 (pp * cnt n cl)) (fop BinOp.mul FloatKind.f32 cur cur2)) (fop BinOp.mul FloatKind.f32 (foZ (pc (sg n x y z) pp) (pc (sg n2 x2 y2 z2) pp) (pp * cnt n2 cl2) 0 (pp * cnt n cl)) (fop BinOp.mul FloatKind.f32 cur cur2)) then fop BinOp.mul FloatKind.f32 (foY (pc (sg n x y z) pp) (pc (sg n2 x2 y2 z2) pp) (pp * cnt n2 cl2) 0 (pp * cnt n cl)) (fop BinOp.mul FloatKind.f32 cur cur2) else can FloatKind.f32 0), A.flt FloatKind.f32 (bif bif bif !okW n cur x y z then true else !okW n2 cur2 x2 y2 z2 then true else !inI (Int.ofNat pp) (Int.ofNat 1) (Int.ofNat 8) then 0 else bif vfin (fop BinOp.mul FloatKind.f32 (foX (pc (sg n x y z) pp) (pc (sg n2 x2 y2 z2) pp) (pp * cnt n2 cl2) 0 (pp * cnt n cl)) (fop BinOp.mul FloatKind.f32 cur cur2)) (fop BinOp.mul FloatKind.f32 (foY (pc (sg n x y z) pp) (pc (sg n2 x2 y2 z2) pp) (pp * cnt n2 cl2) 0 (pp * cnt n cl)) (fop BinOp.mul FloatKind.f32 cur cur2)) (fop BinOp.mul FloatKind.f32 (foZ (pc (sg n x y z) pp) (pc (sg n2 x2 y2 z2) pp) (pp * cnt n2 cl2) 0 (pp * cnt n cl)) (fop BinOp.mul FloatKind.f32 cur cur2)) then fop BinOp.mul FloatKind.f32 (foZ (pc (sg n x y z) pp) (pc (sg n2 x2 y2 z2) pp) (pp * cnt n2 cl2) 0 (pp * cnt n cl)) (fop BinOp.mul FloatKind.f32 cur cur2) else can FloatKind.f32 0)], A.bool (bif bif bif !okW n cur x y z then true else !okW n2 cur2 x2 y2 z2 then true else !inI (Int.ofNat pp) (Int.ofNat 1) (Int.ofNat 8) then false else vfin (fop BinOp.mul FloatKind.f32 (foX (pc (sg n x y z) pp) (pc (sg n2 x2 y2 z2) pp) (pp * cnt n2 cl2) 0 (pp * cnt n cl)) (fop BinOp.mul FloatKind.f32 cur cur2)) (fop BinOp.mul FloatKind.f32 (foY (pc (sg n x y z) pp) (pc (sg n2 x2 y2 z2) pp) (pp * cnt n2 cl2) 0 (pp * cnt n cl)) (fop BinOp.mul FloatKind.f32 cur cur2)) (fop BinOp.mul FloatKind.f32 (foZ (pc (sg n x y z) pp) (pc (sg n2 x2 y2 z2) pp) (pp * cnt n2 cl2) 0 (pp * cnt n cl)) (fop BinOp.mul FloatKind.f32 cur cur2)))]) := by kernel_rfl
noncomputable def s48a : List A → Option (Bool × A)
  | [.agg [.ro 3 n (.vecs .f32 x y z), .bool cl, .flt .f32 cur], .agg [.ro 3 n2 (.vecs .f32 x2 y2 z2), .bool cl2, .flt .f32 cur2], .int .i64 (.ofNat pp)] => some (Nat.ble n 1048576 && Nat.ble n2 1048576, .tup [.agg [.flt .f32 (bif fbOk n cur x y z cl n2 cur2 x2 y2 z2 cl2 pp then fwXb n cur x y z cl n2 cur2 x2 y2 z2 cl2 pp else 0), .flt .f32 (bif fbOk n cur x y z cl n2 cur2 x2 y2 z2 cl2 pp then fwYb n cur x y z cl n2 cur2 x2 y2 z2 cl2 pp else 0), .flt .f32 (bif fbOk n cur x y z cl n2 cur2 x2 y2 z2 cl2 pp then fwZb n cur x y z cl n2 cur2 x2 y2 z2 cl2 pp else 0)], .bool (fbOk n cur x y z cl n2 cur2 x2 y2 z2 cl2 pp)])
  | _ => none
theorem s48a_at : EnvAt Try.prog 48 s48a := of_auto cfg23_ok lp48a_ok Try.func48 (by kernel_rfl) (by kernel_rfl) fun ds cc rr h hc => by
  unfold s48a at h
  split at h
  · rename_i n x y z cl cur n2 x2 y2 z2 cl2 cur2 pp
    simp only [Option.some.injEq, Prod.mk.injEq] at h
    obtain ⟨rfl, rfl⟩ := h
    refine auto_fit (auto48a n cur n2 cur2 pp x y z x2 y2 z2 cl cl2) ?_ ?_
    · rw [not_two3]
      unfold fbOk
      cases two3 n cur x y z n2 cur2 x2 y2 z2 (Int.ofNat pp) <;> rfl
    · simp only [Bool.and_eq_true, Nat.ble_eq] at hc
      rw [ble_of (show n ≤ 4611686018427387000 by omega), ble_of (show n2 ≤ 4611686018427387000 by omega), not_two3]
      cases ht : two3 n cur x y z n2 cur2 x2 y2 z2 (Int.ofNat pp)
      · simp
      · obtain ⟨k1, k2, k3, k4⟩ := two3_ok ht
        simp at k4
        rw [ble_of (show 1 ≤ n by omega), ble_of (show n ≤ 1000 by omega), ble_of (show 1 ≤ n2 by omega), ble_of (show n2 ≤ 1000 by omega), ble_of (show pp ≤ 32 by omega), decide_eq_true rfl, Nat.beq_refl, Nat.beq_refl, ble_of (pcnt_le (cl := cl) (show n ≤ 1000 by omega) (show pp ≤ 32 by omega)), ble_of (pcnt_le (cl := cl2) (show n2 ≤ 1000 by omega) (show pp ≤ 32 by omega))]
        simp
  · cases h

noncomputable def lp48b : List (Nat × (St → T)) := [(0, sumAt Try.f48.ntmps 464 [3, 4, 6, 7, 8, 9, 36, 37, 38] [288, 352, 416, 32, 16, 0] F48i)]
theorem lp48b_ok : LpOK Try.prog (look lp48b) (bodyOf Try.f48) := lp_loops (by kernel_rfl) (by kernel_rfl) fun p hp => by
  simp only [lp48b, List.mem_cons, List.not_mem_nil, or_false] at hp
  rcases hp with rfl
  · exact loop48i
theorem auto48b (n cur n2 cur2 pp : Nat) (x y z x2 y2 z2 : Nat → Nat) (cl cl2 : Bool) : autoS cfg23 (look lp48b) true Try.f48 [.agg [.ro 3 n (.vecs .f32 x y z), .bool cl, .flt .f32 cur], .agg [.ro 3 n2 (.vecs .f32 x2 y2 z2), .bool cl2, .flt .f32 cur2], .int .i64 (.negSucc pp)] =
    some (n.ble 4611686018427387000 && ((n2.ble 4611686018427387000 || !(!okW n cur x y z) == false) && ((bif bif !okW n cur x y z then true else !okW n2 cur2 x2 y2 z2 then true else !inI (Int.negSucc pp) (Int.ofNat 1) (Int.ofNat 8)) && true)), A.tup [A.agg [A.flt FloatKind.f32 0, A.flt FloatKind.f32 0, A.flt FloatKind.f32 0], A.bool false]) := by kernel_rfl
noncomputable def s48b : List A → Option (Bool × A)
  | [.agg [.ro 3 n (.vecs .f32 x y z), .bool cl, .flt .f32 cur], .agg [.ro 3 n2 (.vecs .f32 x2 y2 z2), .bool cl2, .flt .f32 cur2], .int .i64 (.negSucc pp)] => some (Nat.ble n 1048576 && Nat.ble n2 1048576, .tup [.agg [.flt .f32 0, .flt .f32 0, .flt .f32 0], .bool false])
  | _ => none
theorem s48b_at : EnvAt Try.prog 48 s48b := of_autoS cfg23_ok lp48b_ok Try.func48 (by kernel_rfl) (by kernel_rfl) fun ds cc rr h hc => by
  unfold s48b at h
  split at h
  · rename_i n x y z cl cur n2 x2 y2 z2 cl2 cur2 pp
    simp only [Option.some.injEq, Prod.mk.injEq] at h
    obtain ⟨rfl, rfl⟩ := h
    refine auto_fit (auto48b n cur n2 cur2 pp x y z x2 y2 z2 cl cl2) ?_ ?_
    · rfl
    · simp only [Bool.and_eq_true, Nat.ble_eq] at hc
      rw [ble_of (show n ≤ 4611686018427387000 by omega), ble_of (show n2 ≤ 4611686018427387000 by omega), not_two3, two3_neg]
      simp
  · cases h

noncomputable def s48 : List A → Option (Bool × A)
  | [a, b, .int .i64 (.ofNat pp)] => s48a [a, b, .int .i64 (.ofNat pp)]
  | ds => s48b ds
theorem s48_at : EnvAt Try.prog 48 s48 := by
  refine ⟨s48a_at.1, fun ds c r h hc => ?_⟩
  unfold s48 at h
  split at h
  · exact s48a_at.2 _ _ _ h hc
  · exact s48b_at.2 _ _ _ h hc
noncomputable def env24 : List (Nat × (List A → Option (Bool × A))) := (47, s47) :: (48, s48) :: env23
theorem env24_ok : EnvOK Try.prog (look env24) := (env_cons s47_at (env_cons s48_at env23_ok))
noncomputable def cfg24 : Cfg := mkCfg tab [] xts (look env24)
theorem cfg24_ok : CfgOK Try.prog cfg24 := cfg_ok tab_eq (no_fts _) xts_ok env24_ok mixed
theorem fbP (n cur n2 cur2 pp : Nat) (x y z x2 y2 z2 : Nat → Nat) (cl cl2 : Bool) : autoLp cfg24 (fun _ => none) Try.f11 [.agg [.ro 3 n (.vecs .f32 x y z), .bool cl, .flt .f32 cur], .agg [.ro 3 n2 (.vecs .f32 x2 y2 z2), .bool cl2, .flt .f32 cur2], .int .i64 (.ofNat pp)] =
    some (bif decide (sz1 1048576 n < 0) then true else bif decide (sz1 (sz1 1048576 n) n2 < 0) then true else n.ble 1048576 && n2.ble 1048576 && (n2.ble 1073741824 && (n.ble 1073741824 && true)) && (n.ble 1073741824 && (n2.ble 1073741824 && (n.ble 1048576 && n2.ble 1048576 && bif bif !sameV (bif fbOk n cur x y z cl n2 cur2 x2 y2 z2 cl2 pp then fwXb n cur x y z cl n2 cur2 x2 y2 z2 cl2 pp else 0) (bif fbOk n cur x y z cl n2 cur2 x2 y2 z2 cl2 pp then fwYb n cur x y z cl n2 cur2 x2 y2 z2 cl2 pp else 0) (bif fbOk n cur x y z cl n2 cur2 x2 y2 z2 cl2 pp then fwZb n cur x y z cl n2 cur2 x2 y2 z2 cl2 pp else 0) (bif fbOk n cur x y z cl n2 cur2 x2 y2 z2 cl2 pp then fwXb n cur x y z cl n2 cur2 x2 y2 z2 cl2 pp else 0) (bif fbOk n cur x y z cl n2 cur2 x2 y2 z2 cl2 pp then fwYb n cur x y z cl n2 cur2 x2 y2 z2 cl2 pp else 0) (bif fbOk n cur x y z cl n2 cur2 x2 y2 z2 cl2 pp then fwZb n cur x y z cl n2 cur2 x2 y2 z2 cl2 pp else 0) then true else !fbOk n cur x y z cl n2 cur2 x2 y2 z2 cl2 pp == fbOk n cur x y z cl n2 cur2 x2 y2 z2 cl2 pp then true else n.ble 1073741824 && true && ((n.beq n && n.ble 4611686018427387000 && allUpTo (sameVAt x y z x y z) n && bif !cl == cl then true else bif !sameF (fcvt FloatKind.f32 FloatKind.f64 cur) (fcvt FloatKind.f32 FloatKind.f64 cur) then true else true) && bif !bif !cl == cl then false else bif !sameF (fcvt FloatKind.f32 FloatKind.f64 cur) (fcvt FloatKind.f32 FloatKind.f64 cur) then false else true then true else n2.ble 1073741824 && true && ((n2.beq n2 && n2.ble 4611686018427387000 && allUpTo (sameVAt x2 y2 z2 x2 y2 z2) n2 && bif !cl2 == cl2 then true else bif !sameF (fcvt FloatKind.f32 FloatKind.f64 cur2) (fcvt FloatKind.f32 FloatKind.f64 cur2) then true else true) && bif !bif !cl2 == cl2 then false else bif !sameF (fcvt FloatKind.f32 FloatKind.f64 cur2) (fcvt FloatKind.f32 FloatKind.f64 cur2) then false else true then true else true))))), A.bool (bif decide (sz1 1048576 n < 0) then true else bif decide (sz1 (sz1 1048576 n) n2 < 0) then true else bif bif !sameV (bif fbOk n cur x y z cl n2 cur2 x2 y2 z2 cl2 pp then fwXb n cur x y z cl n2 cur2 x2 y2 z2 cl2 pp else 0) (bif fbOk n cur x y z cl n2 cur2 x2 y2 z2 cl2 pp then fwYb n cur x y z cl n2 cur2 x2 y2 z2 cl2 pp else 0) (bif fbOk n cur x y z cl n2 cur2 x2 y2 z2 cl2 pp then fwZb n cur x y z cl n2 cur2 x2 y2 z2 cl2 pp else 0) (bif fbOk n cur x y z cl n2 cur2 x2 y2 z2 cl2 pp then fwXb n cur x y z cl n2 cur2 x2 y2 z2 cl2 pp else 0) (bif fbOk n cur x y z cl n2 cur2 x2 y2 z2 cl2 pp then fwYb n cur x y z cl n2 cur2 x2 y2 z2 cl2 pp else 0) (bif fbOk n cur x y z cl n2 cur2 x2 y2 z2 cl2 pp then fwZb n cur x y z cl n2 cur2 x2 y2 z2 cl2 pp else 0) then true else !fbOk n cur x y z cl n2 cur2 x2 y2 z2 cl2 pp == fbOk n cur x y z cl n2 cur2 x2 y2 z2 cl2 pp then false else bif !bif !cl == cl then false else bif !sameF (fcvt FloatKind.f32 FloatKind.f64 cur) (fcvt FloatKind.f32 FloatKind.f64 cur) then false else true then false else bif !bif !cl2 == cl2 then false else bif !sameF (fcvt FloatKind.f32 FloatKind.f64 cur2) (fcvt FloatKind.f32 FloatKind.f64 cur2) then false else true then false else true)) := by kernel_rfl
theorem fbN (n cur n2 cur2 pp : Nat) (x y z x2 y2 z2 : Nat → Nat) (cl cl2 : Bool) : autoLp cfg24 (fun _ => none) Try.f11 [.agg [.ro 3 n (.vecs .f32 x y z), .bool cl, .flt .f32 cur], .agg [.ro 3 n2 (.vecs .f32 x2 y2 z2), .bool cl2, .flt .f32 cur2], .int .i64 (.negSucc pp)] =
    some (bif decide (sz1 1048576 n < 0) then true else bif decide (sz1 (sz1 1048576 n) n2 < 0) then true else n.ble 1048576 && n2.ble 1048576 && (n2.ble 1073741824 && (n.ble 1073741824 && true)) && (n.ble 1073741824 && (n2.ble 1073741824 && (n.ble 1048576 && n2.ble 1048576 && bif bif !sameV 0 0 0 0 0 0 then true else false then true else n.ble 1073741824 && true && ((n.beq n && n.ble 4611686018427387000 && allUpTo (sameVAt x y z x y z) n && bif !cl == cl then true else bif !sameF (fcvt FloatKind.f32 FloatKind.f64 cur) (fcvt FloatKind.f32 FloatKind.f64 cur) then true else true) && bif !bif !cl == cl then false else bif !sameF (fcvt FloatKind.f32 FloatKind.f64 cur) (fcvt FloatKind.f32 FloatKind.f64 cur) then false else true then true else n2.ble 1073741824 && true && ((n2.beq n2 && n2.ble 4611686018427387000 && allUpTo (sameVAt x2 y2 z2 x2 y2 z2) n2 && bif !cl2 == cl2 then true else bif !sameF (fcvt FloatKind.f32 FloatKind.f64 cur2) (fcvt FloatKind.f32 FloatKind.f64 cur2) then true else true) && bif !bif !cl2 == cl2 then false else bif !sameF (fcvt FloatKind.f32 FloatKind.f64 cur2) (fcvt FloatKind.f32 FloatKind.f64 cur2) then false else true then true else true))))), A.bool (bif decide (sz1 1048576 n < 0) then true else bif decide (sz1 (sz1 1048576 n) n2 < 0) then true else bif bif !sameV 0 0 0 0 0 0 then true else false then false else bif !bif !cl == cl then false else bif !sameF (fcvt FloatKind.f32 FloatKind.f64 cur) (fcvt FloatKind.f32 FloatKind.f64 cur) then false else true then false else bif !bif !cl2 == cl2 then false else bif !sameF (fcvt FloatKind.f32 FloatKind.f64 cur2) (fcvt FloatKind.f32 FloatKind.f64 cur2) then false else true then false else true)) := by kernel_rfl
theorem law11 {a b : A} {p : Int} (ha : WireA a) (hb : WireA b) (_hp : IntA p) : PureCall Try.prog 11 [a, b, .int .i64 p] (.bool true) := by
  obtain ⟨n, x, y, z, cl, cur, hn, rfl⟩ := ha
  obtain ⟨n2, x2, y2, z2, cl2, cur2, hn2, rfl⟩ := hb
  have key : ∀ pp, (PureCall Try.prog 11 [.agg [.ro 3 n (.vecs .f32 x y z), .bool cl, .flt .f32 cur], .agg [.ro 3 n2 (.vecs .f32 x2 y2 z2), .bool cl2, .flt .f32 cur2], .int .i64 (.ofNat pp)] (.bool true)) ∧ (PureCall Try.prog 11 [.agg [.ro 3 n (.vecs .f32 x y z), .bool cl, .flt .f32 cur], .agg [.ro 3 n2 (.vecs .f32 x2 y2 z2), .bool cl2, .flt .f32 cur2], .int .i64 (.negSucc pp)] (.bool true)) := fun pp => by
    have kP := (auto_at cfg24_ok Try.func11 (by kernel_rfl) (by kernel_rfl)).2 _ _ _ (fbP n cur n2 cur2 pp x y z x2 y2 z2 cl cl2)
    have kN := (auto_at cfg24_ok Try.func11 (by kernel_rfl) (by kernel_rfl)).2 _ _ _ (fbN n cur n2 cur2 pp x y z x2 y2 z2 cl cl2)
    rcases sz1_le (left := 1048576) (n := n) (by omega) (by omega) hn with ⟨e, h1⟩ | ⟨e, h1⟩
    · rw [e] at kP kN; exact ⟨kP rfl, kN rfl⟩
    rw [e, decide_eq_false (p := (1048576 : Int) - (n : Int) < 0) (by omega)] at kP kN
    rcases sz1_le (left := (1048576 : Int) - (n : Int)) (n := n2) (by omega) (by omega) hn2 with ⟨e', h1'⟩ | ⟨e', h1'⟩
    · rw [e'] at kP kN; exact ⟨kP rfl, kN rfl⟩
    rw [e', decide_eq_false (p := (1048576 : Int) - (n : Int) - (n2 : Int) < 0) (by omega)] at kP kN
    have h2 : n ≤ 1048576 := by omega
    have h3 : n2 ≤ 1048576 := by omega
    simp only [sameVs_self, sameV_self, sameF_self, bne_self_eq_false, Bool.cond_self, beq_self_eq_true, Nat.beq_refl, Bool.not_true, cond_false, Bool.and_true, Bool.true_or, ble_of h2, ble_of h3, ble_of (show n ≤ 1073741824 by omega), ble_of (show n ≤ 4611686018427387000 by omega), ble_of (show n2 ≤ 1073741824 by omega), ble_of (show n2 ≤ 4611686018427387000 by omega)] at kP kN
    exact ⟨kP trivial, kN trivial⟩
  cases p with
  | ofNat pp => exact (key pp).1
  | negSucc pp => exact (key pp).2
end Go.Fw.W1

/-
  Vectors and wires that come in.
-/
namespace Go.Fw.W1
open Go.Proofs
open Go.RowKit (Below)

theorem own : ownKnob Try.prog.godebug = none := by kernel_rfl
theorem laidOut : laidOutB Try.prog = true := by kernel_rfl

theorem vec58 : VecT Try.prog 58 := by
  refine ⟨_, Try.underlying58, by kernel_rfl, by kernel_rfl, fun i hi => ?_⟩
  match i, hi with
  | 0, _ => exact ⟨_, rfl, rfl, by kernel_rfl, Try.underlying24⟩
  | 1, _ => exact ⟨_, rfl, rfl, by kernel_rfl, Try.underlying24⟩
  | 2, _ => exact ⟨_, rfl, rfl, by kernel_rfl, Try.underlying24⟩
  | i + 3, hi => omega
theorem wire45 : WireT Try.prog 45 :=
  ⟨_, _, _, _, 58, Try.underlying45, by kernel_rfl, by kernel_rfl, rfl, rfl, rfl, ⟨rfl, rfl, rfl⟩, ⟨by kernel_rfl, by kernel_rfl, by kernel_rfl⟩, Try.underlying22, vec58, Try.underlying4, Try.underlying24⟩

section
variable {H : Type} {enc : TypeId × Value → H} {w : World} {spare : Nat → Bool} {held : Bool}
set_option maxRecDepth 100000 in
theorem slice_cells {t e : TypeId} {r : Reach} {base : Nat} {v : Value} (ht : Try.prog.underlying t = some (.slice e)) (h : Value.okWide Try.prog w r base t v) : v.cells.toList = [v] := by
  obtain ⟨a, l, c, rfl⟩ := Go.WideShapes.okWide_slice ht h
  rfl
set_option maxRecDepth 100000 in
theorem in_vecsA {r : Reach} {base : Nat} {v : Value} {x : DataW H × List MemPlace} (hv : Value.okWide Try.prog w r base 22 v) (h : ∃ fuel, DataW.trod enc Try.prog w 0 spare held fuel 22 v.cells.toList = some x) :
    ∃ a, VecsA a ∧ RelD w (fun b => b < w.heap.size) v a := by
  obtain ⟨fuel, h⟩ := h
  rw [slice_cells Try.underlying22 hv] at h
  obtain ⟨u, n, xs, ys, zs, e, hn, _, hr⟩ := in_vecs Try.underlying22 vec58 h
  simp only [List.cons.injEq, and_true] at e
  subst e
  exact ⟨_, ⟨n, xs, ys, zs, hn, rfl⟩, hr⟩
set_option maxRecDepth 100000 in
theorem in_wiresA {r : Reach} {base : Nat} {v : Value} {x : DataW H × List MemPlace} (hv : Value.okWide Try.prog w r base 69 v) (h : ∃ fuel, DataW.trod enc Try.prog w 0 spare held fuel 69 v.cells.toList = some x) :
    ∃ a, WiresA a ∧ RelD w (fun b => b < w.heap.size) v a := by
  obtain ⟨fuel, h⟩ := h
  rw [slice_cells Try.underlying69 hv] at h
  obtain ⟨u, n, d, e, hn, hc, hr⟩ := in_wires Try.underlying69 wire45 h
  simp only [List.cons.injEq, and_true] at e
  subst e
  exact ⟨_, ⟨n, _, _, _, _, _, _, hn, fun i => (hc i).1, rfl⟩, hr⟩
theorem in_wireA {v : Value} {x : DataW H × List MemPlace} (h : ∃ fuel, DataW.trod enc Try.prog w 0 spare held fuel 45 v.cells.toList = some x) : ∃ a, WireA a ∧ RelD w (fun b => b < w.heap.size) v a := by
  obtain ⟨a, hc, hr⟩ := in_wire wire45 h
  exact ⟨_, ⟨_, _, _, _, _, _, hc.1, rfl⟩, hr⟩
theorem in_vecA {v : Value} {x : DataW H × List MemPlace} (h : ∃ fuel, DataW.trod enc Try.prog w 0 spare held fuel 58 v.cells.toList = some x) : ∃ a, VecA a ∧ RelD w (fun b => b < w.heap.size) v a := by
  obtain ⟨a, hc, hr⟩ := in_vec vec58 h
  exact ⟨_, ⟨_, _, _, hc.1, hc.2.1, hc.2.2, rfl⟩, hr⟩
theorem int_fits {n : Int} (h : (Lit.int .i64 n).wf = true) : IntA n := by
  simp only [Lit.wf, Bool.and_eq_true, decide_eq_true_eq] at h
  exact ⟨by have := h.1; simpa [IntKind.min, IntKind.bits, IntKind.signed] using this, by have := h.2; simpa [IntKind.max, IntKind.bits, IntKind.signed] using this⟩
end
end Go.Fw.W1
