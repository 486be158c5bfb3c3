/-
  The pieces of wires, as the reference has them; sums of pairs.
-/
import Derived.Test.YtbfoochpinkpgaaLpA
import Derived.Test.YtbfoochpinkpgaaFwC

namespace Go.Fw.W1
open Go.Proofs

noncomputable def lpi135i : List (Nat × (St → T)) := [(2, sumAt Try.f135.ntmps 192 [0, 1, 6, 7, 8, 9] [32, 64] F135k)]
theorem lpi135i_ok : LpOK Try.prog (look lpi135i) (loopOf Try.f135 0) := lp_in (lp_loops (by kernel_rfl) (by kernel_rfl) fun p hp => by
  simp only [lpi135i, List.mem_cons, List.not_mem_nil, or_false] at hp
  rcases hp with rfl
  · exact loop135k) _
noncomputable def I135i (n cur pp : Nat) (x y z : Nat → Nat) (cl : Bool) (k : Nat) : List A := [.rop (.agg [.ro 3 n (.vecs .f32 x y z), .bool cl, .flt .f32 cur]) 0, .int .i64 (.ofNat pp), .sl 32 (pp * k), .sl 64 (pp * k), .int .i64 (Int.ofNat k)]
noncomputable def J135i (n cur pp : Nat) (x y z : Nat → Nat) (cl : Bool) (k : Nat) : List O := [.row 59 3 (pp * k) (.vecs .f32 (fun j => pc (sg n x y z) pp j 0) (fun j => pc (sg n x y z) pp j 1) (fun j => pc (sg n x y z) pp j 2)), .row 59 3 (pp * k) (.vecs .f32 (fun j => pc (sg n x y z) pp j 3) (fun j => pc (sg n x y z) pp j 4) (fun j => pc (sg n x y z) pp j 5))]
theorem round135i (n cur pp : Nat) (x y z : Nat → Nat) (cl : Bool) (k : Nat) (L : XK → List A → List (Option O) → Prop) :
    ((exec cfg18 (fun _ => true) (look lpi135i) 0 1000 (loopOf Try.f135 0) (litSt Try.f135.ntmps 112 [0, 1, 6, 7, 8] [32, 64] (I135i n cur pp x y z cl k) (J135i n cur pp x y z cl k))).rt [0, 1, 6, 7, 8] [32, 64]).Ok L =
    bif Nat.ble 1 n && n.ble 4611686018427387000 then
      bif decide (Int.ofNat k < Int.ofNat (cnt n cl)) then
        bif (pp * k).beq (pp * k) && (pp * k).beq (pp * k) && (pp * k).beq (pp * k) && k.blt n && n.ble 1000 && pp.ble 32 && (pp * k).ble 100000 then
          L (XK.normal) ([(A.agg [A.ro 3 n (Row.vecs FloatKind.f32 x y z), A.bool cl, A.flt FloatKind.f32 cur]).rop 0, A.int IntKind.i64 (Int.ofNat pp), A.sl 32 (pp * k + pp), A.sl 64 (pp * k + pp), A.int IntKind.i64 (IntKind.i64.wrap (Int.ofNat k + Int.ofNat 1))]) ([some (O.row 59 3 (pp * k + pp) (Row.vecs FloatKind.f32 (fun p => jn (pp * k) (fun j => pc (sg n x y z) pp j 0) (fun t => pcS (x k) (y k) (z k) (x (nx n k)) (y (nx n k)) (z (nx n k)) pp t 0) p) (fun p => jn (pp * k) (fun j => pc (sg n x y z) pp j 1) (fun t => pcS (x k) (y k) (z k) (x (nx n k)) (y (nx n k)) (z (nx n k)) pp t 1) p) fun p => jn (pp * k) (fun j => pc (sg n x y z) pp j 2) (fun t => pcS (x k) (y k) (z k) (x (nx n k)) (y (nx n k)) (z (nx n k)) pp t 2) p)), some (O.row 59 3 (pp * k + pp) (Row.vecs FloatKind.f32 (fun p => jn (pp * k) (fun j => pc (sg n x y z) pp j 3) (fun t => pcS (x k) (y k) (z k) (x (nx n k)) (y (nx n k)) (z (nx n k)) pp t 3) p) (fun p => jn (pp * k) (fun j => pc (sg n x y z) pp j 4) (fun t => pcS (x k) (y k) (z k) (x (nx n k)) (y (nx n k)) (z (nx n k)) pp t 4) p) fun p => jn (pp * k) (fun j => pc (sg n x y z) pp j 5) (fun t => pcS (x k) (y k) (z k) (x (nx n k)) (y (nx n k)) (z (nx n k)) pp t 5) p))])
        else
          False
      else
        L (XK.exit 0) ([(A.agg [A.ro 3 n (Row.vecs FloatKind.f32 x y z), A.bool cl, A.flt FloatKind.f32 cur]).rop 0, A.int IntKind.i64 (Int.ofNat pp), A.sl 32 (pp * k), A.sl 64 (pp * k), A.int IntKind.i64 (Int.ofNat k)]) ([some (O.row 59 3 (pp * k) (Row.vecs FloatKind.f32 (fun j => pc (sg n x y z) pp j 0) (fun j => pc (sg n x y z) pp j 1) fun j => pc (sg n x y z) pp j 2)), some (O.row 59 3 (pp * k) (Row.vecs FloatKind.f32 (fun j => pc (sg n x y z) pp j 3) (fun j => pc (sg n x y z) pp j 4) fun j => pc (sg n x y z) pp j 5))])
    else
      False := by kernel_rfl
noncomputable def F135i : List A → List (Option O) → Option R3
  | [.rop (.agg [.ro 3 n (.vecs .f32 x y z), .bool cl, .flt .f32 cur]) 0, .int .i64 (.ofNat pp), .sl 32 0, .sl 64 0, .int .i64 0], [some (.row 59 3 0 g1), some (.row 59 3 0 g2)] => some (.ite (Nat.ble 1 n && Nat.ble n 1000 && Nat.ble pp 32) (.leaf .normal (I135i n cur pp x y z cl (cnt n cl)) (J135i n cur pp x y z cl (cnt n cl))) .fail)
  | _, _ => none
theorem loop135i : CodeOK Try.prog (fun _ σ => sumAt Try.f135.ntmps 112 [0, 1, 6, 7, 8] [32, 64] F135i σ) (.block 0 (.loop (loopOf Try.f135 0))) := by
  refine block_ok (own := fun _ => true) (lp := (look lpi135i)) (un := 0) (fuel := 1000) cfg18_ok lpi135i_ok fun az os R hF hok => ?_
  unfold F135i at hF
  split at hF
  · rename_i n x y z cl cur pp g1 g2
    injection hF with hF
    subst hF
    have hg := hok.guard
    have hg' := hg
    simp only [Bool.and_eq_true, Nat.ble_eq, Nat.beq_eq, decide_eq_true_eq] at hg'
    obtain ⟨⟨hn1, hn⟩, hpp⟩ := hg'
    refine for_fact (ids := [32, 64]) (fun _ => true) (cnt n cl) (I135i n cur pp x y z cl) (J135i n cur pp x y z cl) _ (.ret) (I135i n cur pp x y z cl) (I135i n cur pp x y z cl) (I135i n cur pp x y z cl (cnt n cl)) (J135i n cur pp x y z cl (cnt n cl)) rfl (by unfold J135i; exact ⟨⟨59, _, rfl, .inr rfl, fun p hp => absurd hp (by omega)⟩, ⟨59, _, rfl, .inr rfl, fun p hp => absurd hp (by omega)⟩, trivial⟩) (fun _ => rfl) (fun _ => rfl) (fun _ => ALe.self _) (fun _ => rfl) (ALe.self _) (OSims.self _) rfl (fun h => by cases h) (fun k hk L h1 h2 h3 => ?_) fun L hL => ?_
    · rw [round135i]
      refine condT (by rw [ble_of hn1, ble_of (show n ≤ 4611686018427387000 by omega)]; rfl) ?_
      by_cases hkm : k < cnt n cl
      · refine condT (lt_dec hkm) ?_
        have hkn := cnt_lt hkm
        have hmul : pp * k ≤ 32 * 1000 := Nat.mul_le_mul hpp (by omega)
        rw [wrap_succ (by omega)]
        refine condT (by rw [Nat.beq_refl, lt_blt hkn, ble_of hn, ble_of hpp, ble_of (show pp * k ≤ 100000 by omega)]; rfl) ?_
        exact h1 hkm rfl _ ⟨⟨59, _, rfl, .inr rfl, fun p hp => vec_at (pc_stepV (g := sg n x y z) hp) (pc_stepV (g := sg n x y z) hp) (pc_stepV (g := sg n x y z) hp)⟩, ⟨59, _, rfl, .inr rfl, fun p hp => vec_at (pc_stepV (g := sg n x y z) hp) (pc_stepV (g := sg n x y z) hp) (pc_stepV (g := sg n x y z) hp)⟩, trivial⟩
      · refine condE (ge_dec (by omega)) ?_
        obtain rfl : k = cnt n cl := by omega
        exact h3 rfl
    · exact ⟨fun _ => hL.1 hg, fun N _ h => by cases h⟩
  · cases hF

noncomputable def lp135 : List (Nat × (St → T)) := [(0, sumAt Try.f135.ntmps 112 [0, 1, 6, 7, 8] [32, 64] F135i)]
theorem lp135_ok : LpOK Try.prog (look lp135) (bodyOf Try.f135) := lp_loops (by kernel_rfl) (by kernel_rfl) fun p hp => by
  simp only [lp135, List.mem_cons, List.not_mem_nil, or_false] at hp
  rcases hp with rfl
  · exact loop135i
theorem auto135 (n cur pp : Nat) (x y z : Nat → Nat) (cl : Bool) : autoLp cfg18 (look lp135) Try.f135 [.rop (.agg [.ro 3 n (.vecs .f32 x y z), .bool cl, .flt .f32 cur]) 0, .int .i64 (.ofNat pp)] =
    some (Nat.ble 1 n && n.ble 1000 && pp.ble 32 && true, A.tup [A.ro 3 (pp * cnt n cl) (Row.vecs FloatKind.f32 (fun j => pc (sg n x y z) pp j 0) (fun j => pc (sg n x y z) pp j 1) fun j => pc (sg n x y z) pp j 2), A.ro 3 (pp * cnt n cl) (Row.vecs FloatKind.f32 (fun j => pc (sg n x y z) pp j 3) (fun j => pc (sg n x y z) pp j 4) fun j => pc (sg n x y z) pp j 5)]) := by kernel_rfl
noncomputable def s135 : List A → Option (Bool × A)
  | [.rop (.agg [.ro 3 n (.vecs .f32 x y z), .bool cl, .flt .f32 cur]) 0, .int .i64 (.ofNat pp)] => some (Nat.ble 1 n && Nat.ble n 1000 && Nat.ble pp 32, .tup [.ro 3 (pp * cnt n cl) (.vecs .f32 (fun j => pc (sg n x y z) pp j 0) (fun j => pc (sg n x y z) pp j 1) (fun j => pc (sg n x y z) pp j 2)), .ro 3 (pp * cnt n cl) (.vecs .f32 (fun j => pc (sg n x y z) pp j 3) (fun j => pc (sg n x y z) pp j 4) (fun j => pc (sg n x y z) pp j 5))])
  | _ => none
theorem s135_at : EnvAt Try.prog 135 s135 := of_auto cfg18_ok lp135_ok Try.func135 (by kernel_rfl) (by kernel_rfl) fun ds cc rr h hc => by
  unfold s135 at h
  split at h
  · rename_i n x y z cl cur pp
    simp only [Option.some.injEq, Prod.mk.injEq] at h
    obtain ⟨rfl, rfl⟩ := h
    refine auto_fit (auto135 n cur pp x y z cl) ?_ ?_
    · rfl
    · rw [hc]; rfl
  · cases h

noncomputable def env19 : List (Nat × (List A → Option (Bool × A))) := (106, s106) :: (135, s135) :: env18
theorem env19_ok : EnvOK Try.prog (look env19) := (env_cons s106_at (env_cons s135_at env18_ok))
noncomputable def cfg19 : Cfg := mkCfg tab [] xts (look env19)
theorem cfg19_ok : CfgOK Try.prog cfg19 := cfg_ok tab_eq (no_fts _) xts_ok env19_ok mixed
end Go.Fw.W1

/-
  Sums over all pairs of pieces.
-/
namespace Go.Fw.W1
open Go.Proofs

def psR (u v w : Nat) (q : Nat → Nat → Nat) (th j : Nat) : Nat := root32 (fop .add .f32 (inn (fop .sub .f32 u (q j 3)) (fop .sub .f32 v (q j 4)) (fop .sub .f32 w (q j 5)) (fop .sub .f32 u (q j 3)) (fop .sub .f32 v (q j 4)) (fop .sub .f32 w (q j 5))) (fop .mul .f32 th th))
def psC (u v w : Nat) (q : Nat → Nat → Nat) (th j : Nat) : Bool := forder .f32 (psR u v w q th j) (can .f32 0) == some .gt
def psA (a b c u v w : Nat) (q : Nat → Nat → Nat) (th j s : Nat) : Nat := fop .add .f32 s (fop .quo .f32 (inn a b c (q j 0) (q j 1) (q j 2)) (psR u v w q th j))
/-- One piece against all others. -/
def psIn (a b c u v w : Nat) (q : Nat → Nat → Nat) (th s : Nat) : Nat → Nat
  | 0 => s
  | k + 1 => bif psC u v w q th k then psA a b c u v w q th k (psIn a b c u v w q th s k) else psIn a b c u v w q th s k
theorem psIn_t {a b c u v w : Nat} {q : Nat → Nat → Nat} {th s k : Nat} (h : psC u v w q th k = true) : psIn a b c u v w q th s (k + 1) = psA a b c u v w q th k (psIn a b c u v w q th s k) := by simp only [psIn, h, cond_true]
theorem psIn_f {a b c u v w : Nat} {q : Nat → Nat → Nat} {th s k : Nat} (h : psC u v w q th k = false) : psIn a b c u v w q th s (k + 1) = psIn a b c u v w q th s k := by simp only [psIn, h, cond_false]
def psOut (p q : Nat → Nat → Nat) (th lq s : Nat) : Nat → Nat
  | 0 => s
  | k + 1 => psIn (p k 0) (p k 1) (p k 2) (p k 3) (p k 4) (p k 5) q th (psOut p q th lq s k) lq
def six (a b c u v w : Nat → Nat) (j d : Nat) : Nat :=
  match d with
  | 0 => a j | 1 => b j | 2 => c j | 3 => u j | 4 => v j | _ => w j
theorem six_pc (g : Nat → Nat → Nat) (pp : Nat) : six (fun j => pc g pp j 0) (fun j => pc g pp j 1) (fun j => pc g pp j 2) (fun j => pc g pp j 3) (fun j => pc g pp j 4) (fun j => pc g pp j 5) = pc g pp := by
  funext j d
  match d with
  | 0 | 1 | 2 | 3 | 4 | 5 => rfl
  | d + 6 => rfl

noncomputable def I114j (lp lq th s a b c u v w : Nat) (p1 p2 : Int) (gg hh : Nat → Nat → Nat) (k : Nat) : List A := [.flt .f32 th, .flt .f32 (psIn a b c u v w hh th s k), .sl 96 lq, .ptr 256 0, .sl 160 lp, .int .i64 p1, .int .i64 p2, .sl 96 lq, .int .i64 (Int.ofNat lq), .int .i64 (Int.ofNat k)]
noncomputable def J114j (lp lq th s a b c u v w : Nat) (p1 p2 : Int) (gg hh : Nat → Nat → Nat) (k : Nat) : List O := [.var [.flt .f32 a, .flt .f32 b, .flt .f32 c, .flt .f32 u, .flt .f32 v, .flt .f32 w], .row 0 6 lp (.flns .f32 6 gg), .row 0 6 lq (.flns .f32 6 hh)]
theorem round114j (lp lq th s a b c u v w : Nat) (p1 p2 : Int) (gg hh : Nat → Nat → Nat) (k : Nat) (L : XK → List A → List (Option O) → Prop) :
    ((exec cfg19 (fun _ => true) (fun _ => none) 0 1000 (loopOf Try.f114 2) (litSt Try.f114.ntmps 336 [2, 9, 10, 12, 22, 23, 24, 28, 29, 30] [256, 160, 96] (I114j lp lq th s a b c u v w p1 p2 gg hh k) (J114j lp lq th s a b c u v w p1 p2 gg hh k))).rt [2, 9, 10, 12, 22, 23, 24, 28, 29, 30] [256, 160, 96]).Ok L =
    bif decide (Int.ofNat k < Int.ofNat lq) then
      bif decide (Int.ofNat k < Int.ofNat lq) then
        bif forder FloatKind.f32 (root32 (fop BinOp.add FloatKind.f32 (inn (fop BinOp.sub FloatKind.f32 u (hh k 3)) (fop BinOp.sub FloatKind.f32 v (hh k 4)) (fop BinOp.sub FloatKind.f32 w (hh k 5)) (fop BinOp.sub FloatKind.f32 u (hh k 3)) (fop BinOp.sub FloatKind.f32 v (hh k 4)) (fop BinOp.sub FloatKind.f32 w (hh k 5))) (fop BinOp.mul FloatKind.f32 th th))) (can FloatKind.f32 0) == some Ordering.gt then
          L (XK.normal) ([A.flt FloatKind.f32 th, A.flt FloatKind.f32 (fop BinOp.add FloatKind.f32 (psIn a b c u v w hh th s k) (fop BinOp.quo FloatKind.f32 (inn a b c (hh k 0) (hh k 1) (hh k 2)) (root32 (fop BinOp.add FloatKind.f32 (inn (fop BinOp.sub FloatKind.f32 u (hh k 3)) (fop BinOp.sub FloatKind.f32 v (hh k 4)) (fop BinOp.sub FloatKind.f32 w (hh k 5)) (fop BinOp.sub FloatKind.f32 u (hh k 3)) (fop BinOp.sub FloatKind.f32 v (hh k 4)) (fop BinOp.sub FloatKind.f32 w (hh k 5))) (fop BinOp.mul FloatKind.f32 th th))))), A.sl 96 lq, A.ptr 256 0, A.sl 160 lp, A.int IntKind.i64 p1, A.int IntKind.i64 p2, A.sl 96 lq, A.int IntKind.i64 (Int.ofNat lq), A.int IntKind.i64 (IntKind.i64.wrap (Int.ofNat k + Int.ofNat 1))]) ([some (O.var [A.flt FloatKind.f32 a, A.flt FloatKind.f32 b, A.flt FloatKind.f32 c, A.flt FloatKind.f32 u, A.flt FloatKind.f32 v, A.flt FloatKind.f32 w]), some (O.row 0 6 lp (Row.flns FloatKind.f32 6 gg)), some (O.row 0 6 lq (Row.flns FloatKind.f32 6 hh))])
        else
          L (XK.normal) ([A.flt FloatKind.f32 th, A.flt FloatKind.f32 (psIn a b c u v w hh th s k), A.sl 96 lq, A.ptr 256 0, A.sl 160 lp, A.int IntKind.i64 p1, A.int IntKind.i64 p2, A.sl 96 lq, A.int IntKind.i64 (Int.ofNat lq), A.int IntKind.i64 (IntKind.i64.wrap (Int.ofNat k + Int.ofNat 1))]) ([some (O.var [A.flt FloatKind.f32 a, A.flt FloatKind.f32 b, A.flt FloatKind.f32 c, A.flt FloatKind.f32 u, A.flt FloatKind.f32 v, A.flt FloatKind.f32 w]), some (O.row 0 6 lp (Row.flns FloatKind.f32 6 gg)), some (O.row 0 6 lq (Row.flns FloatKind.f32 6 hh))])
      else
        False
    else
      L (XK.exit 2) ([A.flt FloatKind.f32 th, A.flt FloatKind.f32 (psIn a b c u v w hh th s k), A.sl 96 lq, A.ptr 256 0, A.sl 160 lp, A.int IntKind.i64 p1, A.int IntKind.i64 p2, A.sl 96 lq, A.int IntKind.i64 (Int.ofNat lq), A.int IntKind.i64 (Int.ofNat k)]) ([some (O.var [A.flt FloatKind.f32 a, A.flt FloatKind.f32 b, A.flt FloatKind.f32 c, A.flt FloatKind.f32 u, A.flt FloatKind.f32 v, A.flt FloatKind.f32 w]), some (O.row 0 6 lp (Row.flns FloatKind.f32 6 gg)), some (O.row 0 6 lq (Row.flns FloatKind.f32 6 hh))]) := by kernel_rfl
noncomputable def F114j : List A → List (Option O) → Option R3
  | [.flt .f32 th, .flt .f32 s, .sl 96 lq, .ptr 256 0, .sl 160 lp, .int .i64 p1, .int .i64 p2, .sl 96 lq3, .int .i64 q, .int .i64 0], [some (.var [.flt .f32 a, .flt .f32 b, .flt .f32 c, .flt .f32 u, .flt .f32 v, .flt .f32 w]), some (.row 0 6 lp2 (.flns .f32 6 gg)), some (.row 0 6 lq2 (.flns .f32 6 hh))] => some (.ite (decide (q = Int.ofNat lq) && Nat.beq lp lp2 && Nat.beq lq lq2 && Nat.beq lq lq3 && Nat.ble lq 100000) (.leaf .normal (I114j lp lq th s a b c u v w p1 p2 gg hh (lq)) (J114j lp lq th s a b c u v w p1 p2 gg hh (lq))) .fail)
  | _, _ => none
theorem loop114j : CodeOK Try.prog (fun _ σ => sumAt Try.f114.ntmps 336 [2, 9, 10, 12, 22, 23, 24, 28, 29, 30] [256, 160, 96] F114j σ) (.block 2 (.loop (loopOf Try.f114 2))) := by
  refine block_ok (own := fun _ => true) (lp := (fun _ => none)) (un := 0) (fuel := 1000) cfg19_ok (lp_none _) fun az os R hF hok => ?_
  unfold F114j at hF
  split at hF
  · rename_i th s lq lp p1 p2 lq3 q a b c u v w lp2 gg lq2 hh
    injection hF with hF
    subst hF
    have hg := hok.guard
    have hg' := hg
    simp only [Bool.and_eq_true, Nat.ble_eq, Nat.beq_eq, decide_eq_true_eq] at hg'
    obtain ⟨⟨⟨⟨rfl, rfl⟩, rfl⟩, rfl⟩, hlq⟩ := hg'
    refine for_fact (ids := [256, 160, 96]) (fun _ => true) (lq) (I114j lp lq th s a b c u v w p1 p2 gg hh) (J114j lp lq th s a b c u v w p1 p2 gg hh) _ (.ret) (I114j lp lq th s a b c u v w p1 p2 gg hh) (I114j lp lq th s a b c u v w p1 p2 gg hh) (I114j lp lq th s a b c u v w p1 p2 gg hh (lq)) (J114j lp lq th s a b c u v w p1 p2 gg hh (lq)) rfl (OSims.self _) (fun _ => rfl) (fun _ => rfl) (fun _ => ALe.self _) (fun _ => rfl) (ALe.self _) (OSims.self _) rfl (fun h => by cases h) (fun k hk L h1 h2 h3 => ?_) fun L hL => ?_
    · rw [round114j]

      by_cases hkm : k < lq
      · refine condT (lt_dec hkm) ?_
        rw [wrap_succ (by omega)]
        refine condT (lt_dec hkm) ?_
        show cond (psC u v w hh th k) _ _
        have h := h1 hkm rfl _ (OSims.self (J114j lp lq th s a b c u v w p1 p2 gg hh (k + 1)))
        cases hs : psC u v w hh th k
        · simp only [I114j, psIn_f hs] at h; exact h
        · simp only [I114j, psIn_t hs] at h; exact h
      · refine condE (ge_dec (by omega)) ?_
        obtain rfl : k = lq := by omega
        exact h3 rfl
    · exact ⟨fun _ => hL.1 hg, fun N _ h => by cases h⟩
  · cases hF

noncomputable def I112j (lp lq i th s : Nat) (a0 a1 a2 b0 b1 b2 c0 c1 c2 d0 d1 d2 : Nat → Nat) (k : Nat) : List A := [.flt .f32 th, .sl 48 lp, .sl 49 lp, .sl 176 lq, .sl 177 lq, .flt .f32 (psIn (a0 i) (a1 i) (a2 i) (b0 i) (b1 i) (b2 i) (six c0 c1 c2 d0 d1 d2) th s k), .int .i64 (Int.ofNat i), .int .i64 (Int.ofNat k)]
noncomputable def J112j (lp lq i th s : Nat) (a0 a1 a2 b0 b1 b2 c0 c1 c2 d0 d1 d2 : Nat → Nat) (k : Nat) : List O := [.row 0 3 lp (.vecs .f32 a0 a1 a2), .row 0 3 lp (.vecs .f32 b0 b1 b2), .row 0 3 lq (.vecs .f32 c0 c1 c2), .row 0 3 lq (.vecs .f32 d0 d1 d2)]
theorem round112j (lp lq i th s : Nat) (a0 a1 a2 b0 b1 b2 c0 c1 c2 d0 d1 d2 : Nat → Nat) (k : Nat) (L : XK → List A → List (Option O) → Prop) :
    ((exec cfg19 (fun _ => true) (fun _ => none) 0 1000 (loopOf Try.f112 2) (litSt Try.f112.ntmps 384 [2, 9, 10, 11, 12, 13, 14, 15] [48, 49, 176, 177] (I112j lp lq i th s a0 a1 a2 b0 b1 b2 c0 c1 c2 d0 d1 d2 k) (J112j lp lq i th s a0 a1 a2 b0 b1 b2 c0 c1 c2 d0 d1 d2 k))).rt [2, 9, 10, 11, 12, 13, 14, 15] [48, 49, 176, 177]).Ok L =
    bif decide (Int.ofNat k < Int.ofNat lq) then
      bif decide (Int.ofNat k < Int.ofNat lq) && (decide (Int.ofNat i < Int.ofNat lp) && true) then
        bif forder FloatKind.f32 (root32 (fop BinOp.add FloatKind.f32 (inn (fop BinOp.sub FloatKind.f32 (b0 i) (d0 k)) (fop BinOp.sub FloatKind.f32 (b1 i) (d1 k)) (fop BinOp.sub FloatKind.f32 (b2 i) (d2 k)) (fop BinOp.sub FloatKind.f32 (b0 i) (d0 k)) (fop BinOp.sub FloatKind.f32 (b1 i) (d1 k)) (fop BinOp.sub FloatKind.f32 (b2 i) (d2 k))) (fop BinOp.mul FloatKind.f32 th th))) (can FloatKind.f32 0) == some Ordering.gt then
          bif decide (Int.ofNat k < Int.ofNat lq) && (decide (Int.ofNat i < Int.ofNat lp) && true) then
            L (XK.normal) ([A.flt FloatKind.f32 th, A.sl 48 lp, A.sl 49 lp, A.sl 176 lq, A.sl 177 lq, A.flt FloatKind.f32 (fop BinOp.add FloatKind.f32 (psIn (a0 i) (a1 i) (a2 i) (b0 i) (b1 i) (b2 i) (six c0 c1 c2 d0 d1 d2) th s k) (fop BinOp.quo FloatKind.f32 (inn (a0 i) (a1 i) (a2 i) (c0 k) (c1 k) (c2 k)) (root32 (fop BinOp.add FloatKind.f32 (inn (fop BinOp.sub FloatKind.f32 (b0 i) (d0 k)) (fop BinOp.sub FloatKind.f32 (b1 i) (d1 k)) (fop BinOp.sub FloatKind.f32 (b2 i) (d2 k)) (fop BinOp.sub FloatKind.f32 (b0 i) (d0 k)) (fop BinOp.sub FloatKind.f32 (b1 i) (d1 k)) (fop BinOp.sub FloatKind.f32 (b2 i) (d2 k))) (fop BinOp.mul FloatKind.f32 th th))))), A.int IntKind.i64 (Int.ofNat i), A.int IntKind.i64 (IntKind.i64.wrap (Int.ofNat k + Int.ofNat 1))]) ([some (O.row 0 3 lp (Row.vecs FloatKind.f32 a0 a1 a2)), some (O.row 0 3 lp (Row.vecs FloatKind.f32 b0 b1 b2)), some (O.row 0 3 lq (Row.vecs FloatKind.f32 c0 c1 c2)), some (O.row 0 3 lq (Row.vecs FloatKind.f32 d0 d1 d2))])
          else
            False
        else
          L (XK.normal) ([A.flt FloatKind.f32 th, A.sl 48 lp, A.sl 49 lp, A.sl 176 lq, A.sl 177 lq, A.flt FloatKind.f32 (psIn (a0 i) (a1 i) (a2 i) (b0 i) (b1 i) (b2 i) (six c0 c1 c2 d0 d1 d2) th s k), A.int IntKind.i64 (Int.ofNat i), A.int IntKind.i64 (IntKind.i64.wrap (Int.ofNat k + Int.ofNat 1))]) ([some (O.row 0 3 lp (Row.vecs FloatKind.f32 a0 a1 a2)), some (O.row 0 3 lp (Row.vecs FloatKind.f32 b0 b1 b2)), some (O.row 0 3 lq (Row.vecs FloatKind.f32 c0 c1 c2)), some (O.row 0 3 lq (Row.vecs FloatKind.f32 d0 d1 d2))])
      else
        False
    else
      L (XK.exit 2) ([A.flt FloatKind.f32 th, A.sl 48 lp, A.sl 49 lp, A.sl 176 lq, A.sl 177 lq, A.flt FloatKind.f32 (psIn (a0 i) (a1 i) (a2 i) (b0 i) (b1 i) (b2 i) (six c0 c1 c2 d0 d1 d2) th s k), A.int IntKind.i64 (Int.ofNat i), A.int IntKind.i64 (Int.ofNat k)]) ([some (O.row 0 3 lp (Row.vecs FloatKind.f32 a0 a1 a2)), some (O.row 0 3 lp (Row.vecs FloatKind.f32 b0 b1 b2)), some (O.row 0 3 lq (Row.vecs FloatKind.f32 c0 c1 c2)), some (O.row 0 3 lq (Row.vecs FloatKind.f32 d0 d1 d2))]) := by kernel_rfl
noncomputable def F112j : List A → List (Option O) → Option R3
  | [.flt .f32 th, .sl 48 lp, .sl 49 lp2, .sl 176 lq, .sl 177 lq2, .flt .f32 s, .int .i64 (.ofNat i), .int .i64 0], [some (.row 0 3 lp3 (.vecs .f32 a0 a1 a2)), some (.row 0 3 lp4 (.vecs .f32 b0 b1 b2)), some (.row 0 3 lq3 (.vecs .f32 c0 c1 c2)), some (.row 0 3 lq4 (.vecs .f32 d0 d1 d2))] => some (.ite (Nat.beq lp lp2 && Nat.beq lp lp3 && Nat.beq lp lp4 && Nat.beq lq lq2 && Nat.beq lq lq3 && Nat.beq lq lq4 && Nat.ble lq 100000 && Nat.blt i lp) (.leaf .normal (I112j lp lq i th s a0 a1 a2 b0 b1 b2 c0 c1 c2 d0 d1 d2 (lq)) (J112j lp lq i th s a0 a1 a2 b0 b1 b2 c0 c1 c2 d0 d1 d2 (lq))) .fail)
  | _, _ => none
theorem loop112j : CodeOK Try.prog (fun _ σ => sumAt Try.f112.ntmps 384 [2, 9, 10, 11, 12, 13, 14, 15] [48, 49, 176, 177] F112j σ) (.block 2 (.loop (loopOf Try.f112 2))) := by
  refine block_ok (own := fun _ => true) (lp := (fun _ => none)) (un := 0) (fuel := 1000) cfg19_ok (lp_none _) fun az os R hF hok => ?_
  unfold F112j at hF
  split at hF
  · rename_i th lp lp2 lq lq2 s i lp3 a0 a1 a2 lp4 b0 b1 b2 lq3 c0 c1 c2 lq4 d0 d1 d2
    injection hF with hF
    subst hF
    have hg := hok.guard
    have hg' := hg
    simp only [Bool.and_eq_true, Nat.ble_eq, Nat.beq_eq, decide_eq_true_eq] at hg'
    obtain ⟨⟨⟨⟨⟨⟨⟨rfl, rfl⟩, rfl⟩, rfl⟩, rfl⟩, rfl⟩, hlq⟩, hi⟩ := hg'
    have hi := blt_lt' hi
    refine for_fact (ids := [48, 49, 176, 177]) (fun _ => true) (lq) (I112j lp lq i th s a0 a1 a2 b0 b1 b2 c0 c1 c2 d0 d1 d2) (J112j lp lq i th s a0 a1 a2 b0 b1 b2 c0 c1 c2 d0 d1 d2) _ (.ret) (I112j lp lq i th s a0 a1 a2 b0 b1 b2 c0 c1 c2 d0 d1 d2) (I112j lp lq i th s a0 a1 a2 b0 b1 b2 c0 c1 c2 d0 d1 d2) (I112j lp lq i th s a0 a1 a2 b0 b1 b2 c0 c1 c2 d0 d1 d2 (lq)) (J112j lp lq i th s a0 a1 a2 b0 b1 b2 c0 c1 c2 d0 d1 d2 (lq)) rfl (OSims.self _) (fun _ => rfl) (fun _ => rfl) (fun _ => ALe.self _) (fun _ => rfl) (ALe.self _) (OSims.self _) rfl (fun h => by cases h) (fun k hk L h1 h2 h3 => ?_) fun L hL => ?_
    · rw [round112j]

      by_cases hkm : k < lq
      · refine condT (lt_dec hkm) ?_
        rw [wrap_succ (by omega)]
        refine condT (by rw [lt_dec hkm, lt_dec hi]; rfl) ?_
        show cond (psC (b0 i) (b1 i) (b2 i) (six c0 c1 c2 d0 d1 d2) th k) _ _
        have h := h1 hkm rfl _ (OSims.self (J112j lp lq i th s a0 a1 a2 b0 b1 b2 c0 c1 c2 d0 d1 d2 (k + 1)))
        cases hs : psC (b0 i) (b1 i) (b2 i) (six c0 c1 c2 d0 d1 d2) th k
        · simp only [I112j, psIn_f hs] at h; exact h
        · refine condT rfl ?_
          refine condT (by rw [lt_dec hkm, lt_dec hi]; rfl) ?_
          simp only [I112j, psIn_t hs] at h; exact h
      · refine condE (ge_dec (by omega)) ?_
        obtain rfl : k = lq := by omega
        exact h3 rfl
    · exact ⟨fun _ => hL.1 hg, fun N _ h => by cases h⟩
  · cases hF

noncomputable def lpi114i : List (Nat × (St → T)) := [(2, sumAt Try.f114.ntmps 336 [2, 9, 10, 12, 22, 23, 24, 28, 29, 30] [256, 160, 96] F114j)]
theorem lpi114i_ok : LpOK Try.prog (look lpi114i) (loopOf Try.f114 0) := lp_in (lp_loops (by kernel_rfl) (by kernel_rfl) fun p hp => by
  simp only [lpi114i, List.mem_cons, List.not_mem_nil, or_false] at hp
  rcases hp with rfl
  · exact loop114j) _
noncomputable def I114i (lp lq th s : Nat) (gg hh : Nat → Nat → Nat) (k : Nat) : List A := [.flt .f32 th, .flt .f32 (psOut gg hh th lq s k), .sl 96 lq, .sl 160 lp, .int .i64 (Int.ofNat lp), .int .i64 (Int.ofNat k)]
noncomputable def J114i (lp lq th s : Nat) (gg hh : Nat → Nat → Nat) (k : Nat) : List O := [.row 0 6 lp (.flns .f32 6 gg), .row 0 6 lq (.flns .f32 6 hh)]
theorem round114i (lp lq th s : Nat) (gg hh : Nat → Nat → Nat) (k : Nat) (L : XK → List A → List (Option O) → Prop) :
    ((exec cfg19 (fun _ => true) (look lpi114i) 0 1000 (loopOf Try.f114 0) (litSt Try.f114.ntmps 208 [2, 9, 10, 22, 23, 24] [160, 96] (I114i lp lq th s gg hh k) (J114i lp lq th s gg hh k))).rt [2, 9, 10, 22, 23, 24] [160, 96]).Ok L =
    bif decide (Int.ofNat k < Int.ofNat lp) then
      bif decide (Int.ofNat k < Int.ofNat lp) then
        bif decide (Int.ofNat lq = Int.ofNat lq) && lp.beq lp && lq.beq lq && lq.beq lq && lq.ble 100000 then
          L (XK.normal) ([A.flt FloatKind.f32 th, A.flt FloatKind.f32 (psIn (gg k 0) (gg k 1) (gg k 2) (gg k 3) (gg k 4) (gg k 5) hh th (psOut gg hh th lq s k) lq), A.sl 96 lq, A.sl 160 lp, A.int IntKind.i64 (Int.ofNat lp), A.int IntKind.i64 (IntKind.i64.wrap (Int.ofNat k + Int.ofNat 1))]) ([some (O.row 0 6 lp (Row.flns FloatKind.f32 6 gg)), some (O.row 0 6 lq (Row.flns FloatKind.f32 6 hh))])
        else
          False
      else
        False
    else
      L (XK.exit 0) ([A.flt FloatKind.f32 th, A.flt FloatKind.f32 (psOut gg hh th lq s k), A.sl 96 lq, A.sl 160 lp, A.int IntKind.i64 (Int.ofNat lp), A.int IntKind.i64 (Int.ofNat k)]) ([some (O.row 0 6 lp (Row.flns FloatKind.f32 6 gg)), some (O.row 0 6 lq (Row.flns FloatKind.f32 6 hh))]) := by kernel_rfl
noncomputable def F114i : List A → List (Option O) → Option R3
  | [.flt .f32 th, .flt .f32 s, .sl 96 lq, .sl 160 lp, .int .i64 q, .int .i64 0], [some (.row 0 6 lp2 (.flns .f32 6 gg)), some (.row 0 6 lq2 (.flns .f32 6 hh))] => some (.ite (decide (q = Int.ofNat lp) && Nat.beq lp lp2 && Nat.beq lq lq2 && Nat.ble lp 100000 && Nat.ble lq 100000) (.leaf .normal (I114i lp lq th s gg hh (lp)) (J114i lp lq th s gg hh (lp))) .fail)
  | _, _ => none
theorem loop114i : CodeOK Try.prog (fun _ σ => sumAt Try.f114.ntmps 208 [2, 9, 10, 22, 23, 24] [160, 96] F114i σ) (.block 0 (.loop (loopOf Try.f114 0))) := by
  refine block_ok (own := fun _ => true) (lp := (look lpi114i)) (un := 0) (fuel := 1000) cfg19_ok lpi114i_ok fun az os R hF hok => ?_
  unfold F114i at hF
  split at hF
  · rename_i th s lq lp q lp2 gg lq2 hh
    injection hF with hF
    subst hF
    have hg := hok.guard
    have hg' := hg
    simp only [Bool.and_eq_true, Nat.ble_eq, Nat.beq_eq, decide_eq_true_eq] at hg'
    obtain ⟨⟨⟨⟨rfl, rfl⟩, rfl⟩, hlp⟩, hlq⟩ := hg'
    refine for_fact (ids := [160, 96]) (fun _ => true) (lp) (I114i lp lq th s gg hh) (J114i lp lq th s gg hh) _ (.ret) (I114i lp lq th s gg hh) (I114i lp lq th s gg hh) (I114i lp lq th s gg hh (lp)) (J114i lp lq th s gg hh (lp)) rfl (OSims.self _) (fun _ => rfl) (fun _ => rfl) (fun _ => ALe.self _) (fun _ => rfl) (ALe.self _) (OSims.self _) rfl (fun h => by cases h) (fun k hk L h1 h2 h3 => ?_) fun L hL => ?_
    · rw [round114i]

      by_cases hkm : k < lp
      · refine condT (lt_dec hkm) ?_
        rw [wrap_succ (by omega)]
        refine condT (lt_dec hkm) ?_
        refine condT (by rw [decide_eq_true rfl, Nat.beq_refl, Nat.beq_refl, ble_of hlq]; rfl) ?_
        exact h1 hkm rfl _ (OSims.self (J114i lp lq th s gg hh (k + 1)))
      · refine condE (ge_dec (by omega)) ?_
        obtain rfl : k = lp := by omega
        exact h3 rfl
    · exact ⟨fun _ => hL.1 hg, fun N _ h => by cases h⟩
  · cases hF

noncomputable def lpi112i : List (Nat × (St → T)) := [(2, sumAt Try.f112.ntmps 384 [2, 9, 10, 11, 12, 13, 14, 15] [48, 49, 176, 177] F112j)]
theorem lpi112i_ok : LpOK Try.prog (look lpi112i) (loopOf Try.f112 0) := lp_in (lp_loops (by kernel_rfl) (by kernel_rfl) fun p hp => by
  simp only [lpi112i, List.mem_cons, List.not_mem_nil, or_false] at hp
  rcases hp with rfl
  · exact loop112j) _
noncomputable def I112i (lp lq th s : Nat) (a0 a1 a2 b0 b1 b2 c0 c1 c2 d0 d1 d2 : Nat → Nat) (k : Nat) : List A := [.flt .f32 th, .sl 48 lp, .sl 49 lp, .sl 176 lq, .sl 177 lq, .flt .f32 (psOut (six a0 a1 a2 b0 b1 b2) (six c0 c1 c2 d0 d1 d2) th lq s k), .int .i64 (Int.ofNat k)]
noncomputable def J112i (lp lq th s : Nat) (a0 a1 a2 b0 b1 b2 c0 c1 c2 d0 d1 d2 : Nat → Nat) (k : Nat) : List O := [.row 0 3 lp (.vecs .f32 a0 a1 a2), .row 0 3 lp (.vecs .f32 b0 b1 b2), .row 0 3 lq (.vecs .f32 c0 c1 c2), .row 0 3 lq (.vecs .f32 d0 d1 d2)]
theorem round112i (lp lq th s : Nat) (a0 a1 a2 b0 b1 b2 c0 c1 c2 d0 d1 d2 : Nat → Nat) (k : Nat) (L : XK → List A → List (Option O) → Prop) :
    ((exec cfg19 (fun _ => true) (look lpi112i) 0 1000 (loopOf Try.f112 0) (litSt Try.f112.ntmps 304 [2, 9, 10, 11, 12, 13, 14] [48, 49, 176, 177] (I112i lp lq th s a0 a1 a2 b0 b1 b2 c0 c1 c2 d0 d1 d2 k) (J112i lp lq th s a0 a1 a2 b0 b1 b2 c0 c1 c2 d0 d1 d2 k))).rt [2, 9, 10, 11, 12, 13, 14] [48, 49, 176, 177]).Ok L =
    bif decide (Int.ofNat k < Int.ofNat lp) then
      bif lp.beq lp && lp.beq lp && lp.beq lp && lq.beq lq && lq.beq lq && lq.beq lq && lq.ble 100000 && k.blt lp then
        L (XK.normal) ([A.flt FloatKind.f32 th, A.sl 48 lp, A.sl 49 lp, A.sl 176 lq, A.sl 177 lq, A.flt FloatKind.f32 (psIn (a0 k) (a1 k) (a2 k) (b0 k) (b1 k) (b2 k) (six c0 c1 c2 d0 d1 d2) th (psOut (six a0 a1 a2 b0 b1 b2) (six c0 c1 c2 d0 d1 d2) th lq s k) lq), A.int IntKind.i64 (IntKind.i64.wrap (Int.ofNat k + Int.ofNat 1))]) ([some (O.row 0 3 lp (Row.vecs FloatKind.f32 a0 a1 a2)), some (O.row 0 3 lp (Row.vecs FloatKind.f32 b0 b1 b2)), some (O.row 0 3 lq (Row.vecs FloatKind.f32 c0 c1 c2)), some (O.row 0 3 lq (Row.vecs FloatKind.f32 d0 d1 d2))])
      else
        False
    else
      L (XK.exit 0) ([A.flt FloatKind.f32 th, A.sl 48 lp, A.sl 49 lp, A.sl 176 lq, A.sl 177 lq, A.flt FloatKind.f32 (psOut (six a0 a1 a2 b0 b1 b2) (six c0 c1 c2 d0 d1 d2) th lq s k), A.int IntKind.i64 (Int.ofNat k)]) ([some (O.row 0 3 lp (Row.vecs FloatKind.f32 a0 a1 a2)), some (O.row 0 3 lp (Row.vecs FloatKind.f32 b0 b1 b2)), some (O.row 0 3 lq (Row.vecs FloatKind.f32 c0 c1 c2)), some (O.row 0 3 lq (Row.vecs FloatKind.f32 d0 d1 d2))]) := by kernel_rfl
noncomputable def F112i : List A → List (Option O) → Option R3
  | [.flt .f32 th, .sl 48 lp, .sl 49 lp2, .sl 176 lq, .sl 177 lq2, .flt .f32 s, .int .i64 0], [some (.row 0 3 lp3 (.vecs .f32 a0 a1 a2)), some (.row 0 3 lp4 (.vecs .f32 b0 b1 b2)), some (.row 0 3 lq3 (.vecs .f32 c0 c1 c2)), some (.row 0 3 lq4 (.vecs .f32 d0 d1 d2))] => some (.ite (Nat.beq lp lp2 && Nat.beq lp lp3 && Nat.beq lp lp4 && Nat.beq lq lq2 && Nat.beq lq lq3 && Nat.beq lq lq4 && Nat.ble lp 100000 && Nat.ble lq 100000) (.leaf .normal (I112i lp lq th s a0 a1 a2 b0 b1 b2 c0 c1 c2 d0 d1 d2 (lp)) (J112i lp lq th s a0 a1 a2 b0 b1 b2 c0 c1 c2 d0 d1 d2 (lp))) .fail)
  | _, _ => none
theorem loop112i : CodeOK Try.prog (fun _ σ => sumAt Try.f112.ntmps 304 [2, 9, 10, 11, 12, 13, 14] [48, 49, 176, 177] F112i σ) (.block 0 (.loop (loopOf Try.f112 0))) := by
  refine block_ok (own := fun _ => true) (lp := (look lpi112i)) (un := 0) (fuel := 1000) cfg19_ok lpi112i_ok fun az os R hF hok => ?_
  unfold F112i at hF
  split at hF
  · rename_i th lp lp2 lq lq2 s lp3 a0 a1 a2 lp4 b0 b1 b2 lq3 c0 c1 c2 lq4 d0 d1 d2
    injection hF with hF
    subst hF
    have hg := hok.guard
    have hg' := hg
    simp only [Bool.and_eq_true, Nat.ble_eq, Nat.beq_eq, decide_eq_true_eq] at hg'
    obtain ⟨⟨⟨⟨⟨⟨⟨rfl, rfl⟩, rfl⟩, rfl⟩, rfl⟩, rfl⟩, hlp⟩, hlq⟩ := hg'
    refine for_fact (ids := [48, 49, 176, 177]) (fun _ => true) (lp) (I112i lp lq th s a0 a1 a2 b0 b1 b2 c0 c1 c2 d0 d1 d2) (J112i lp lq th s a0 a1 a2 b0 b1 b2 c0 c1 c2 d0 d1 d2) _ (.ret) (I112i lp lq th s a0 a1 a2 b0 b1 b2 c0 c1 c2 d0 d1 d2) (I112i lp lq th s a0 a1 a2 b0 b1 b2 c0 c1 c2 d0 d1 d2) (I112i lp lq th s a0 a1 a2 b0 b1 b2 c0 c1 c2 d0 d1 d2 (lp)) (J112i lp lq th s a0 a1 a2 b0 b1 b2 c0 c1 c2 d0 d1 d2 (lp)) rfl (OSims.self _) (fun _ => rfl) (fun _ => rfl) (fun _ => ALe.self _) (fun _ => rfl) (ALe.self _) (OSims.self _) rfl (fun h => by cases h) (fun k hk L h1 h2 h3 => ?_) fun L hL => ?_
    · rw [round112i]

      by_cases hkm : k < lp
      · refine condT (lt_dec hkm) ?_
        rw [wrap_succ (by omega)]
        refine condT (by rw [Nat.beq_refl, Nat.beq_refl, ble_of hlq, lt_blt hkm]; rfl) ?_
        exact h1 hkm rfl _ (OSims.self (J112i lp lq th s a0 a1 a2 b0 b1 b2 c0 c1 c2 d0 d1 d2 (k + 1)))
      · refine condE (ge_dec (by omega)) ?_
        obtain rfl : k = lp := by omega
        exact h3 rfl
    · exact ⟨fun _ => hL.1 hg, fun N _ h => by cases h⟩
  · cases hF

/-- The sum over all pairs of pieces of two wires. -/
noncomputable def psW (n : Nat) (x y z : Nat → Nat) (cl : Bool) (n2 : Nat) (x2 y2 z2 : Nat → Nat) (cl2 : Bool) (th pp : Nat) : Nat := psOut (pc (sg n x y z) pp) (pc (sg n2 x2 y2 z2) pp) th (pp * cnt n2 cl2) (can .f32 0) (pp * cnt n cl)
theorem pcnt_le {n pp : Nat} {cl : Bool} (hn : n ≤ 1000) (hpp : pp ≤ 32) : pp * cnt n cl ≤ 100000 := by
  have h1 := cnt_le n cl
  have h2 : pp * cnt n cl ≤ 32 * 1000 := Nat.mul_le_mul hpp (by omega)
  omega
noncomputable def lp114 : List (Nat × (St → T)) := [(0, sumAt Try.f114.ntmps 208 [2, 9, 10, 22, 23, 24] [160, 96] F114i)]
theorem lp114_ok : LpOK Try.prog (look lp114) (bodyOf Try.f114) := lp_loops (by kernel_rfl) (by kernel_rfl) fun p hp => by
  simp only [lp114, List.mem_cons, List.not_mem_nil, or_false] at hp
  rcases hp with rfl
  · exact loop114i
theorem auto114 (n cur n2 cur2 th pp : Nat) (x y z x2 y2 z2 : Nat → Nat) (cl cl2 : Bool) : autoLp cfg19 (look lp114) Try.f114 [.agg [.ro 3 n (.vecs .f32 x y z), .bool cl, .flt .f32 cur], .agg [.ro 3 n2 (.vecs .f32 x2 y2 z2), .bool cl2, .flt .f32 cur2], .flt .f32 th, .int .i64 (.ofNat pp)] =
    some (Nat.ble 1 n2 && n2.ble 1000 && pp.ble 32 && (Nat.ble 1 n && n.ble 1000 && pp.ble 32 && (decide (Int.ofNat (pp * cnt n cl) = Int.ofNat (pp * cnt n cl)) && (pp * cnt n cl).beq (pp * cnt n cl) && (pp * cnt n2 cl2).beq (pp * cnt n2 cl2) && (pp * cnt n cl).ble 100000 && (pp * cnt n2 cl2).ble 100000 && true)), A.flt FloatKind.f32 (psOut (pc (sg n x y z) pp) (pc (sg n2 x2 y2 z2) pp) th (pp * cnt n2 cl2) (can FloatKind.f32 0) (pp * cnt n cl))) := by kernel_rfl
noncomputable def s114 : List A → Option (Bool × A)
  | [.agg [.ro 3 n (.vecs .f32 x y z), .bool cl, .flt .f32 cur], .agg [.ro 3 n2 (.vecs .f32 x2 y2 z2), .bool cl2, .flt .f32 cur2], .flt .f32 th, .int .i64 (.ofNat pp)] => some (Nat.ble 1 n && Nat.ble n 1000 && Nat.ble 1 n2 && Nat.ble n2 1000 && Nat.ble pp 32, .flt .f32 (psW n x y z cl n2 x2 y2 z2 cl2 th pp))
  | _ => none
theorem s114_at : EnvAt Try.prog 114 s114 := of_auto cfg19_ok lp114_ok Try.func114 (by kernel_rfl) (by kernel_rfl) fun ds cc rr h hc => by
  unfold s114 at h
  split at h
  · rename_i n x y z cl cur n2 x2 y2 z2 cl2 cur2 th pp
    simp only [Option.some.injEq, Prod.mk.injEq] at h
    obtain ⟨rfl, rfl⟩ := h
    refine auto_fit (auto114 n cur n2 cur2 th pp x y z x2 y2 z2 cl cl2) ?_ ?_
    · rfl
    · simp only [Bool.and_eq_true, Nat.ble_eq] at hc
      obtain ⟨⟨⟨⟨k1, k2⟩, k3⟩, k4⟩, k5⟩ := hc
      rw [ble_of k1, ble_of k2, ble_of k3, ble_of k4, ble_of k5, decide_eq_true rfl, Nat.beq_refl, Nat.beq_refl, ble_of (pcnt_le (cl := cl) k2 k5), ble_of (pcnt_le (cl := cl2) k4 k5)]; rfl
  · cases h

noncomputable def lp112 : List (Nat × (St → T)) := [(0, sumAt Try.f112.ntmps 304 [2, 9, 10, 11, 12, 13, 14] [48, 49, 176, 177] F112i)]
theorem lp112_ok : LpOK Try.prog (look lp112) (bodyOf Try.f112) := lp_loops (by kernel_rfl) (by kernel_rfl) fun p hp => by
  simp only [lp112, List.mem_cons, List.not_mem_nil, or_false] at hp
  rcases hp with rfl
  · exact loop112i
theorem auto112 (n cur n2 cur2 th pp : Nat) (x y z x2 y2 z2 : Nat → Nat) (cl cl2 : Bool) : autoLp cfg19 (look lp112) Try.f112 [.rop (.agg [.ro 3 n (.vecs .f32 x y z), .bool cl, .flt .f32 cur]) 0, .rop (.agg [.ro 3 n2 (.vecs .f32 x2 y2 z2), .bool cl2, .flt .f32 cur2]) 0, .flt .f32 th, .int .i64 (.ofNat pp)] =
    some (Nat.ble 1 n && n.ble 1000 && pp.ble 32 && (Nat.ble 1 n2 && n2.ble 1000 && pp.ble 32 && ((pp * cnt n cl).beq (pp * cnt n cl) && (pp * cnt n cl).beq (pp * cnt n cl) && (pp * cnt n cl).beq (pp * cnt n cl) && (pp * cnt n2 cl2).beq (pp * cnt n2 cl2) && (pp * cnt n2 cl2).beq (pp * cnt n2 cl2) && (pp * cnt n2 cl2).beq (pp * cnt n2 cl2) && (pp * cnt n cl).ble 100000 && (pp * cnt n2 cl2).ble 100000 && true)), A.flt FloatKind.f32 (psOut (six (fun j => pc (sg n x y z) pp j 0) (fun j => pc (sg n x y z) pp j 1) (fun j => pc (sg n x y z) pp j 2) (fun j => pc (sg n x y z) pp j 3) (fun j => pc (sg n x y z) pp j 4) fun j => pc (sg n x y z) pp j 5) (six (fun j => pc (sg n2 x2 y2 z2) pp j 0) (fun j => pc (sg n2 x2 y2 z2) pp j 1) (fun j => pc (sg n2 x2 y2 z2) pp j 2) (fun j => pc (sg n2 x2 y2 z2) pp j 3) (fun j => pc (sg n2 x2 y2 z2) pp j 4) fun j => pc (sg n2 x2 y2 z2) pp j 5) th (pp * cnt n2 cl2) (can FloatKind.f32 0) (pp * cnt n cl))) := by kernel_rfl
noncomputable def s112 : List A → Option (Bool × A)
  | [.rop (.agg [.ro 3 n (.vecs .f32 x y z), .bool cl, .flt .f32 cur]) 0, .rop (.agg [.ro 3 n2 (.vecs .f32 x2 y2 z2), .bool cl2, .flt .f32 cur2]) 0, .flt .f32 th, .int .i64 (.ofNat pp)] => some (Nat.ble 1 n && Nat.ble n 1000 && Nat.ble 1 n2 && Nat.ble n2 1000 && Nat.ble pp 32, .flt .f32 (psW n x y z cl n2 x2 y2 z2 cl2 th pp))
  | _ => none
theorem s112_at : EnvAt Try.prog 112 s112 := of_auto cfg19_ok lp112_ok Try.func112 (by kernel_rfl) (by kernel_rfl) fun ds cc rr h hc => by
  unfold s112 at h
  split at h
  · rename_i n x y z cl cur n2 x2 y2 z2 cl2 cur2 th pp
    simp only [Option.some.injEq, Prod.mk.injEq] at h
    obtain ⟨rfl, rfl⟩ := h
    refine auto_fit (auto112 n cur n2 cur2 th pp x y z x2 y2 z2 cl cl2) ?_ ?_
    · unfold psW; rw [← six_pc (sg n x y z) pp, ← six_pc (sg n2 x2 y2 z2) pp]; rfl
    · simp only [Bool.and_eq_true, Nat.ble_eq] at hc
      obtain ⟨⟨⟨⟨k1, k2⟩, k3⟩, k4⟩, k5⟩ := hc
      rw [ble_of k1, ble_of k2, ble_of k3, ble_of k4, ble_of k5, Nat.beq_refl, Nat.beq_refl, ble_of (pcnt_le (cl := cl) k2 k5), ble_of (pcnt_le (cl := cl2) k4 k5)]; rfl
  · cases h

end Go.Fw.W1

/-
  The sum over pairs of pieces of two wires: the law.
-/
namespace Go.Fw.W1
open Go.Proofs

noncomputable def env20 : List (Nat × (List A → Option (Bool × A))) := (114, s114) :: (112, s112) :: env19
theorem env20_ok : EnvOK Try.prog (look env20) := (env_cons s114_at (env_cons s112_at env19_ok))
noncomputable def cfg20 : Cfg := mkCfg tab [] xts (look env20)
theorem cfg20_ok : CfgOK Try.prog cfg20 := cfg_ok tab_eq (no_fts _) xts_ok env20_ok mixed
noncomputable def two (n cur : Nat) (x y z : Nat → Nat) (n2 cur2 : Nat) (x2 y2 z2 : Nat → Nat) (th : Nat) (p : Int) : Bool := bif bif bif okW n cur x y z then okW n2 cur2 x2 y2 z2 else false then least th else false then inI p 1 8 else false
theorem two_ok {n cur : Nat} {x y z : Nat → Nat} {n2 cur2 : Nat} {x2 y2 z2 : Nat → Nat} {th : Nat} {p : Int} (h : two n cur x y z n2 cur2 x2 y2 z2 th p = true) : (2 ≤ n ∧ n ≤ 48) ∧ (2 ≤ n2 ∧ n2 ≤ 48) ∧ 1 ≤ p ∧ p ≤ 8 := by
  unfold two at h
  cases h1 : okW n cur x y z
  · rw [h1] at h; cases h
  cases h2 : okW n2 cur2 x2 y2 z2
  · rw [h1, h2] at h; cases h
  rw [h1, h2] at h
  cases h3 : least th
  · rw [h3] at h; cases h
  rw [h3] at h
  have h4 : inI p 1 8 = true := h
  unfold inI at h4
  cases h5 : decide (p ≥ 1)
  · rw [h5] at h4; cases h4
  · rw [h5] at h4
    exact ⟨okW_n h1, okW_n h2, of_decide_eq_true h5, of_decide_eq_true h4⟩
theorem not_two (n cur : Nat) (x y z : Nat → Nat) (n2 cur2 : Nat) (x2 y2 z2 : Nat → Nat) (th : Nat) (p : Int) : (bif bif bif !okW n cur x y z then true else !okW n2 cur2 x2 y2 z2 then true else !least th then true else !inI p (Int.ofNat 1) (Int.ofNat 8)) = !two n cur x y z n2 cur2 x2 y2 z2 th p := by
  show (bif bif bif !okW n cur x y z then true else !okW n2 cur2 x2 y2 z2 then true else !least th then true else !inI p 1 8) = _
  unfold two
  cases okW n cur x y z <;> cases okW n2 cur2 x2 y2 z2 <;> cases least th <;> cases inI p 1 8 <;> rfl
theorem two_neg (n cur : Nat) (x y z : Nat → Nat) (n2 cur2 : Nat) (x2 y2 z2 : Nat → Nat) (th pp : Nat) : two n cur x y z n2 cur2 x2 y2 z2 th (Int.negSucc pp) = false := by
  cases h : two n cur x y z n2 cur2 x2 y2 z2 th (Int.negSucc pp)
  · rfl
  · have := (two_ok h).2.2.1; omega
theorem auto111 (n cur n2 cur2 th : Nat) (x y z x2 y2 z2 : Nat → Nat) (cl cl2 : Bool) (p : Int) : autoLp cfg20 (fun _ => none) Try.f111 [.rop (.agg [.ro 3 n (.vecs .f32 x y z), .bool cl, .flt .f32 cur]) 0, .rop (.agg [.ro 3 n2 (.vecs .f32 x2 y2 z2), .bool cl2, .flt .f32 cur2]) 0, .flt .f32 th, .int .i64 p] =
    some (n.ble 4611686018427387000 && ((n2.ble 4611686018427387000 || !okW n cur x y z == true) && true), A.bool (bif bif bif okW n cur x y z then okW n2 cur2 x2 y2 z2 else false then least th else false then inI p (Int.ofNat 1) (Int.ofNat 8) else false)) := by kernel_rfl
noncomputable def s111 : List A → Option (Bool × A)
  | [.rop (.agg [.ro 3 n (.vecs .f32 x y z), .bool cl, .flt .f32 cur]) 0, .rop (.agg [.ro 3 n2 (.vecs .f32 x2 y2 z2), .bool cl2, .flt .f32 cur2]) 0, .flt .f32 th, .int .i64 p] => some (Nat.ble n 1048576 && Nat.ble n2 1048576, .bool (two n cur x y z n2 cur2 x2 y2 z2 th p))
  | _ => none
theorem s111_at : EnvAt Try.prog 111 s111 := of_auto cfg20_ok (lp_none _) Try.func111 (by kernel_rfl) (by kernel_rfl) fun ds cc rr h hc => by
  unfold s111 at h
  split at h
  · rename_i n x y z cl cur n2 x2 y2 z2 cl2 cur2 th p
    simp only [Option.some.injEq, Prod.mk.injEq] at h
    obtain ⟨rfl, rfl⟩ := h
    refine auto_fit (auto111 n cur n2 cur2 th x y z x2 y2 z2 cl cl2 p) ?_ ?_
    · rfl
    · simp only [Bool.and_eq_true, Nat.ble_eq] at hc
      rw [ble_of (show n ≤ 4611686018427387000 by omega), ble_of (show n2 ≤ 4611686018427387000 by omega)]
      simp
  · cases h

noncomputable def env21 : List (Nat × (List A → Option (Bool × A))) := (111, s111) :: env20
theorem env21_ok : EnvOK Try.prog (look env21) := (env_cons s111_at env20_ok)
noncomputable def cfg21 : Cfg := mkCfg tab [] xts (look env21)
theorem cfg21_ok : CfgOK Try.prog cfg21 := cfg_ok tab_eq (no_fts _) xts_ok env21_ok mixed
noncomputable def psOk (n cur : Nat) (x y z : Nat → Nat) (cl : Bool) (n2 cur2 : Nat) (x2 y2 z2 : Nat → Nat) (cl2 : Bool) (th pp : Nat) : Bool := two n cur x y z n2 cur2 x2 y2 z2 th (Int.ofNat pp) && fin (psW n x y z cl n2 x2 y2 z2 cl2 th pp)
theorem auto49a (n cur n2 cur2 th pp : Nat) (x y z x2 y2 z2 : Nat → Nat) (cl cl2 : Bool) : autoLp cfg21 (fun _ => none) Try.f49 [.agg [.ro 3 n (.vecs .f32 x y z), .bool cl, .flt .f32 cur], .agg [.ro 3 n2 (.vecs .f32 x2 y2 z2), .bool cl2, .flt .f32 cur2], .flt .f32 th, .int .i64 (.ofNat pp)] =
    some (n.ble 1048576 && n2.ble 1048576 && bif !two n cur x y z n2 cur2 x2 y2 z2 th (Int.ofNat pp) then true else Nat.ble 1 n && n.ble 1000 && Nat.ble 1 n2 && n2.ble 1000 && pp.ble 32 && true, A.tup [A.flt FloatKind.f32 (bif !two n cur x y z n2 cur2 x2 y2 z2 th (Int.ofNat pp) then can FloatKind.f32 0 else bif fin (psW n x y z cl n2 x2 y2 z2 cl2 th pp) then psW n x y z cl n2 x2 y2 z2 cl2 th pp else can FloatKind.f32 0), A.bool (bif !two n cur x y z n2 cur2 x2 y2 z2 th (Int.ofNat pp) then false else fin (psW n x y z cl n2 x2 y2 z2 cl2 th pp))]) := by kernel_rfl
noncomputable def s49a : List A → Option (Bool × A)
  | [.agg [.ro 3 n (.vecs .f32 x y z), .bool cl, .flt .f32 cur], .agg [.ro 3 n2 (.vecs .f32 x2 y2 z2), .bool cl2, .flt .f32 cur2], .flt .f32 th, .int .i64 (.ofNat pp)] => some (Nat.ble n 1048576 && Nat.ble n2 1048576, .tup [.flt .f32 (bif psOk n cur x y z cl n2 cur2 x2 y2 z2 cl2 th pp then psW n x y z cl n2 x2 y2 z2 cl2 th pp else can .f32 0), .bool (psOk n cur x y z cl n2 cur2 x2 y2 z2 cl2 th pp)])
  | _ => none
theorem s49a_at : EnvAt Try.prog 49 s49a := of_auto cfg21_ok (lp_none _) Try.func49 (by kernel_rfl) (by kernel_rfl) fun ds cc rr h hc => by
  unfold s49a at h
  split at h
  · rename_i n x y z cl cur n2 x2 y2 z2 cl2 cur2 th pp
    simp only [Option.some.injEq, Prod.mk.injEq] at h
    obtain ⟨rfl, rfl⟩ := h
    refine auto_fit (auto49a n cur n2 cur2 th pp x y z x2 y2 z2 cl cl2) ?_ ?_
    · unfold psOk
      cases two n cur x y z n2 cur2 x2 y2 z2 th (Int.ofNat pp) <;> rfl
    · rw [hc]
      cases ht : two n cur x y z n2 cur2 x2 y2 z2 th (Int.ofNat pp)
      · rfl
      · obtain ⟨k1, k2, k3, k4⟩ := two_ok ht
        simp at k4
        rw [ble_of (show 1 ≤ n by omega), ble_of (show n ≤ 1000 by omega), ble_of (show 1 ≤ n2 by omega), ble_of (show n2 ≤ 1000 by omega), ble_of (show pp ≤ 32 by omega)]
        rfl
  · cases h

theorem auto49b (n cur n2 cur2 th pp : Nat) (x y z x2 y2 z2 : Nat → Nat) (cl cl2 : Bool) : autoLp cfg21 (fun _ => none) Try.f49 [.agg [.ro 3 n (.vecs .f32 x y z), .bool cl, .flt .f32 cur], .agg [.ro 3 n2 (.vecs .f32 x2 y2 z2), .bool cl2, .flt .f32 cur2], .flt .f32 th, .int .i64 (.negSucc pp)] =
    some (n.ble 1048576 && n2.ble 1048576 && (!two n cur x y z n2 cur2 x2 y2 z2 th (Int.negSucc pp) && true), A.tup [A.flt FloatKind.f32 (can FloatKind.f32 0), A.bool false]) := by kernel_rfl
noncomputable def s49b : List A → Option (Bool × A)
  | [.agg [.ro 3 n (.vecs .f32 x y z), .bool cl, .flt .f32 cur], .agg [.ro 3 n2 (.vecs .f32 x2 y2 z2), .bool cl2, .flt .f32 cur2], .flt .f32 th, .int .i64 (.negSucc pp)] => some (Nat.ble n 1048576 && Nat.ble n2 1048576, .tup [.flt .f32 (can .f32 0), .bool false])
  | _ => none
theorem s49b_at : EnvAt Try.prog 49 s49b := of_auto cfg21_ok (lp_none _) Try.func49 (by kernel_rfl) (by kernel_rfl) fun ds cc rr h hc => by
  unfold s49b at h
  split at h
  · rename_i n x y z cl cur n2 x2 y2 z2 cl2 cur2 th pp
    simp only [Option.some.injEq, Prod.mk.injEq] at h
    obtain ⟨rfl, rfl⟩ := h
    refine auto_fit (auto49b n cur n2 cur2 th pp x y z x2 y2 z2 cl cl2) ?_ ?_
    · rfl
    · rw [hc, two_neg]; rfl
  · cases h

theorem auto50a (n cur n2 cur2 th pp : Nat) (x y z x2 y2 z2 : Nat → Nat) (cl cl2 : Bool) : autoLp cfg21 (fun _ => none) Try.f50 [.agg [.ro 3 n (.vecs .f32 x y z), .bool cl, .flt .f32 cur], .agg [.ro 3 n2 (.vecs .f32 x2 y2 z2), .bool cl2, .flt .f32 cur2], .flt .f32 th, .int .i64 (.ofNat pp)] =
    some (n.ble 4611686018427387000 && ((n2.ble 4611686018427387000 || !(!okW n cur x y z) == false) && bif bif bif bif !okW n cur x y z then true else !okW n2 cur2 x2 y2 z2 then true else !least th then true else !inI (Int.ofNat pp) (Int.ofNat 1) (Int.ofNat 8) then true else Nat.ble 1 n && n.ble 1000 && Nat.ble 1 n2 && n2.ble 1000 && pp.ble 32 && true), A.tup [A.flt FloatKind.f32 (bif bif bif bif !okW n cur x y z then true else !okW n2 cur2 x2 y2 z2 then true else !least th then true else !inI (Int.ofNat pp) (Int.ofNat 1) (Int.ofNat 8) then can FloatKind.f32 0 else bif fin (psW n x y z cl n2 x2 y2 z2 cl2 th pp) then psW n x y z cl n2 x2 y2 z2 cl2 th pp else can FloatKind.f32 0), A.bool (bif bif bif bif !okW n cur x y z then true else !okW n2 cur2 x2 y2 z2 then true else !least th then true else !inI (Int.ofNat pp) (Int.ofNat 1) (Int.ofNat 8) then false else fin (psW n x y z cl n2 x2 y2 z2 cl2 th pp))]) := by kernel_rfl
noncomputable def s50a : List A → Option (Bool × A)
  | [.agg [.ro 3 n (.vecs .f32 x y z), .bool cl, .flt .f32 cur], .agg [.ro 3 n2 (.vecs .f32 x2 y2 z2), .bool cl2, .flt .f32 cur2], .flt .f32 th, .int .i64 (.ofNat pp)] => some (Nat.ble n 1048576 && Nat.ble n2 1048576, .tup [.flt .f32 (bif psOk n cur x y z cl n2 cur2 x2 y2 z2 cl2 th pp then psW n x y z cl n2 x2 y2 z2 cl2 th pp else can .f32 0), .bool (psOk n cur x y z cl n2 cur2 x2 y2 z2 cl2 th pp)])
  | _ => none
theorem s50a_at : EnvAt Try.prog 50 s50a := of_auto cfg21_ok (lp_none _) Try.func50 (by kernel_rfl) (by kernel_rfl) fun ds cc rr h hc => by
  unfold s50a at h
  split at h
  · rename_i n x y z cl cur n2 x2 y2 z2 cl2 cur2 th pp
    simp only [Option.some.injEq, Prod.mk.injEq] at h
    obtain ⟨rfl, rfl⟩ := h
    refine auto_fit (auto50a n cur n2 cur2 th pp x y z x2 y2 z2 cl cl2) ?_ ?_
    · rw [not_two]
      unfold psOk
      cases two n cur x y z n2 cur2 x2 y2 z2 th (Int.ofNat pp) <;> rfl
    · simp only [Bool.and_eq_true, Nat.ble_eq] at hc
      rw [ble_of (show n ≤ 4611686018427387000 by omega), ble_of (show n2 ≤ 4611686018427387000 by omega), not_two]
      cases ht : two n cur x y z n2 cur2 x2 y2 z2 th (Int.ofNat pp)
      · simp
      · obtain ⟨k1, k2, k3, k4⟩ := two_ok ht
        simp at k4
        rw [ble_of (show 1 ≤ n by omega), ble_of (show n ≤ 1000 by omega), ble_of (show 1 ≤ n2 by omega), ble_of (show n2 ≤ 1000 by omega), ble_of (show pp ≤ 32 by omega)]
        simp
  · cases h

theorem auto50b (n cur n2 cur2 th pp : Nat) (x y z x2 y2 z2 : Nat → Nat) (cl cl2 : Bool) : autoLp cfg21 (fun _ => none) Try.f50 [.agg [.ro 3 n (.vecs .f32 x y z), .bool cl, .flt .f32 cur], .agg [.ro 3 n2 (.vecs .f32 x2 y2 z2), .bool cl2, .flt .f32 cur2], .flt .f32 th, .int .i64 (.negSucc pp)] =
    some (n.ble 4611686018427387000 && ((n2.ble 4611686018427387000 || !(!okW n cur x y z) == false) && ((bif bif bif !okW n cur x y z then true else !okW n2 cur2 x2 y2 z2 then true else !least th then true else !inI (Int.negSucc pp) (Int.ofNat 1) (Int.ofNat 8)) && true)), A.tup [A.flt FloatKind.f32 (can FloatKind.f32 0), A.bool false]) := by kernel_rfl
noncomputable def s50b : List A → Option (Bool × A)
  | [.agg [.ro 3 n (.vecs .f32 x y z), .bool cl, .flt .f32 cur], .agg [.ro 3 n2 (.vecs .f32 x2 y2 z2), .bool cl2, .flt .f32 cur2], .flt .f32 th, .int .i64 (.negSucc pp)] => some (Nat.ble n 1048576 && Nat.ble n2 1048576, .tup [.flt .f32 (can .f32 0), .bool false])
  | _ => none
theorem s50b_at : EnvAt Try.prog 50 s50b := of_auto cfg21_ok (lp_none _) Try.func50 (by kernel_rfl) (by kernel_rfl) fun ds cc rr h hc => by
  unfold s50b at h
  split at h
  · rename_i n x y z cl cur n2 x2 y2 z2 cl2 cur2 th pp
    simp only [Option.some.injEq, Prod.mk.injEq] at h
    obtain ⟨rfl, rfl⟩ := h
    refine auto_fit (auto50b n cur n2 cur2 th pp x y z x2 y2 z2 cl cl2) ?_ ?_
    · rfl
    · simp only [Bool.and_eq_true, Nat.ble_eq] at hc
      rw [ble_of (show n ≤ 4611686018427387000 by omega), ble_of (show n2 ≤ 4611686018427387000 by omega), not_two, two_neg]
      simp
  · cases h

noncomputable def s49 : List A → Option (Bool × A)
  | [a, b, t, .int .i64 (.ofNat pp)] => s49a [a, b, t, .int .i64 (.ofNat pp)]
  | ds => s49b ds
theorem s49_at : EnvAt Try.prog 49 s49 := by
  refine ⟨s49a_at.1, fun ds c r h hc => ?_⟩
  unfold s49 at h
  split at h
  · exact s49a_at.2 _ _ _ h hc
  · exact s49b_at.2 _ _ _ h hc
noncomputable def s50 : List A → Option (Bool × A)
  | [a, b, t, .int .i64 (.ofNat pp)] => s50a [a, b, t, .int .i64 (.ofNat pp)]
  | ds => s50b ds
theorem s50_at : EnvAt Try.prog 50 s50 := by
  refine ⟨s50a_at.1, fun ds c r h hc => ?_⟩
  unfold s50 at h
  split at h
  · exact s50a_at.2 _ _ _ h hc
  · exact s50b_at.2 _ _ _ h hc
noncomputable def env22 : List (Nat × (List A → Option (Bool × A))) := (49, s49) :: (50, s50) :: env21
theorem env22_ok : EnvOK Try.prog (look env22) := (env_cons s49_at (env_cons s50_at env21_ok))
noncomputable def cfg22 : Cfg := mkCfg tab [] xts (look env22)
theorem cfg22_ok : CfgOK Try.prog cfg22 := cfg_ok tab_eq (no_fts _) xts_ok env22_ok mixed
theorem psP (n cur n2 cur2 th pp : Nat) (x y z x2 y2 z2 : Nat → Nat) (cl cl2 : Bool) : autoLp cfg22 (fun _ => none) Try.f12 [.agg [.ro 3 n (.vecs .f32 x y z), .bool cl, .flt .f32 cur], .agg [.ro 3 n2 (.vecs .f32 x2 y2 z2), .bool cl2, .flt .f32 cur2], .flt .f32 th, .int .i64 (.ofNat pp)] =
    some (bif decide (sz1 1048576 n < 0) then true else bif decide (sz1 (sz1 1048576 n) n2 < 0) then true else n.ble 1048576 && n2.ble 1048576 && (n2.ble 1073741824 && (n.ble 1073741824 && true)) && (n.ble 1073741824 && (n2.ble 1073741824 && (n.ble 1048576 && n2.ble 1048576 && bif bif !sameF (fcvt FloatKind.f32 FloatKind.f64 (bif psOk n cur x y z cl n2 cur2 x2 y2 z2 cl2 th pp then psW n x y z cl n2 x2 y2 z2 cl2 th pp else can FloatKind.f32 0)) (fcvt FloatKind.f32 FloatKind.f64 (bif psOk n cur x y z cl n2 cur2 x2 y2 z2 cl2 th pp then psW n x y z cl n2 x2 y2 z2 cl2 th pp else can FloatKind.f32 0)) then true else !psOk n cur x y z cl n2 cur2 x2 y2 z2 cl2 th pp == psOk n cur x y z cl n2 cur2 x2 y2 z2 cl2 th pp then true else n.ble 1073741824 && true && ((n.beq n && n.ble 4611686018427387000 && allUpTo (sameVAt x y z x y z) n && bif !cl == cl then true else bif !sameF (fcvt FloatKind.f32 FloatKind.f64 cur) (fcvt FloatKind.f32 FloatKind.f64 cur) then true else true) && bif !bif !cl == cl then false else bif !sameF (fcvt FloatKind.f32 FloatKind.f64 cur) (fcvt FloatKind.f32 FloatKind.f64 cur) then false else true then true else n2.ble 1073741824 && true && ((n2.beq n2 && n2.ble 4611686018427387000 && allUpTo (sameVAt x2 y2 z2 x2 y2 z2) n2 && bif !cl2 == cl2 then true else bif !sameF (fcvt FloatKind.f32 FloatKind.f64 cur2) (fcvt FloatKind.f32 FloatKind.f64 cur2) then true else true) && bif !bif !cl2 == cl2 then false else bif !sameF (fcvt FloatKind.f32 FloatKind.f64 cur2) (fcvt FloatKind.f32 FloatKind.f64 cur2) then false else true then true else true))))), A.bool (bif decide (sz1 1048576 n < 0) then true else bif decide (sz1 (sz1 1048576 n) n2 < 0) then true else bif bif !sameF (fcvt FloatKind.f32 FloatKind.f64 (bif psOk n cur x y z cl n2 cur2 x2 y2 z2 cl2 th pp then psW n x y z cl n2 x2 y2 z2 cl2 th pp else can FloatKind.f32 0)) (fcvt FloatKind.f32 FloatKind.f64 (bif psOk n cur x y z cl n2 cur2 x2 y2 z2 cl2 th pp then psW n x y z cl n2 x2 y2 z2 cl2 th pp else can FloatKind.f32 0)) then true else !psOk n cur x y z cl n2 cur2 x2 y2 z2 cl2 th pp == psOk n cur x y z cl n2 cur2 x2 y2 z2 cl2 th pp then false else bif !bif !cl == cl then false else bif !sameF (fcvt FloatKind.f32 FloatKind.f64 cur) (fcvt FloatKind.f32 FloatKind.f64 cur) then false else true then false else bif !bif !cl2 == cl2 then false else bif !sameF (fcvt FloatKind.f32 FloatKind.f64 cur2) (fcvt FloatKind.f32 FloatKind.f64 cur2) then false else true then false else true)) := by kernel_rfl
theorem psN (n cur n2 cur2 th pp : Nat) (x y z x2 y2 z2 : Nat → Nat) (cl cl2 : Bool) : autoLp cfg22 (fun _ => none) Try.f12 [.agg [.ro 3 n (.vecs .f32 x y z), .bool cl, .flt .f32 cur], .agg [.ro 3 n2 (.vecs .f32 x2 y2 z2), .bool cl2, .flt .f32 cur2], .flt .f32 th, .int .i64 (.negSucc pp)] =
    some (bif decide (sz1 1048576 n < 0) then true else bif decide (sz1 (sz1 1048576 n) n2 < 0) then true else n.ble 1048576 && n2.ble 1048576 && (n2.ble 1073741824 && (n.ble 1073741824 && true)) && (n.ble 1073741824 && (n2.ble 1073741824 && (n.ble 1048576 && n2.ble 1048576 && bif bif !sameF (fcvt FloatKind.f32 FloatKind.f64 (can FloatKind.f32 0)) (fcvt FloatKind.f32 FloatKind.f64 (can FloatKind.f32 0)) then true else false then true else n.ble 1073741824 && true && ((n.beq n && n.ble 4611686018427387000 && allUpTo (sameVAt x y z x y z) n && bif !cl == cl then true else bif !sameF (fcvt FloatKind.f32 FloatKind.f64 cur) (fcvt FloatKind.f32 FloatKind.f64 cur) then true else true) && bif !bif !cl == cl then false else bif !sameF (fcvt FloatKind.f32 FloatKind.f64 cur) (fcvt FloatKind.f32 FloatKind.f64 cur) then false else true then true else n2.ble 1073741824 && true && ((n2.beq n2 && n2.ble 4611686018427387000 && allUpTo (sameVAt x2 y2 z2 x2 y2 z2) n2 && bif !cl2 == cl2 then true else bif !sameF (fcvt FloatKind.f32 FloatKind.f64 cur2) (fcvt FloatKind.f32 FloatKind.f64 cur2) then true else true) && bif !bif !cl2 == cl2 then false else bif !sameF (fcvt FloatKind.f32 FloatKind.f64 cur2) (fcvt FloatKind.f32 FloatKind.f64 cur2) then false else true then true else true))))), A.bool (bif decide (sz1 1048576 n < 0) then true else bif decide (sz1 (sz1 1048576 n) n2 < 0) then true else bif bif !sameF (fcvt FloatKind.f32 FloatKind.f64 (can FloatKind.f32 0)) (fcvt FloatKind.f32 FloatKind.f64 (can FloatKind.f32 0)) then true else false then false else bif !bif !cl == cl then false else bif !sameF (fcvt FloatKind.f32 FloatKind.f64 cur) (fcvt FloatKind.f32 FloatKind.f64 cur) then false else true then false else bif !bif !cl2 == cl2 then false else bif !sameF (fcvt FloatKind.f32 FloatKind.f64 cur2) (fcvt FloatKind.f32 FloatKind.f64 cur2) then false else true then false else true)) := by kernel_rfl
theorem law12 {a b t : A} {p : Int} (ha : WireA a) (hb : WireA b) (ht : FltA t) (_hp : IntA p) : PureCall Try.prog 12 [a, b, t, .int .i64 p] (.bool true) := by
  obtain ⟨n, x, y, z, cl, cur, hn, rfl⟩ := ha
  obtain ⟨n2, x2, y2, z2, cl2, cur2, hn2, rfl⟩ := hb
  obtain ⟨th, _, rfl⟩ := ht
  have key : ∀ pp, (PureCall Try.prog 12 [.agg [.ro 3 n (.vecs .f32 x y z), .bool cl, .flt .f32 cur], .agg [.ro 3 n2 (.vecs .f32 x2 y2 z2), .bool cl2, .flt .f32 cur2], .flt .f32 th, .int .i64 (.ofNat pp)] (.bool true)) ∧ (PureCall Try.prog 12 [.agg [.ro 3 n (.vecs .f32 x y z), .bool cl, .flt .f32 cur], .agg [.ro 3 n2 (.vecs .f32 x2 y2 z2), .bool cl2, .flt .f32 cur2], .flt .f32 th, .int .i64 (.negSucc pp)] (.bool true)) := fun pp => by
    have kP := (auto_at cfg22_ok Try.func12 (by kernel_rfl) (by kernel_rfl)).2 _ _ _ (psP n cur n2 cur2 th pp x y z x2 y2 z2 cl cl2)
    have kN := (auto_at cfg22_ok Try.func12 (by kernel_rfl) (by kernel_rfl)).2 _ _ _ (psN n cur n2 cur2 th pp x y z x2 y2 z2 cl cl2)
    rcases sz1_le (left := 1048576) (n := n) (by omega) (by omega) hn with ⟨e, h1⟩ | ⟨e, h1⟩
    · rw [e] at kP kN; exact ⟨kP rfl, kN rfl⟩
    rw [e, decide_eq_false (p := (1048576 : Int) - (n : Int) < 0) (by omega)] at kP kN
    rcases sz1_le (left := (1048576 : Int) - (n : Int)) (n := n2) (by omega) (by omega) hn2 with ⟨e', h1'⟩ | ⟨e', h1'⟩
    · rw [e'] at kP kN; exact ⟨kP rfl, kN rfl⟩
    rw [e', decide_eq_false (p := (1048576 : Int) - (n : Int) - (n2 : Int) < 0) (by omega)] at kP kN
    have h2 : n ≤ 1048576 := by omega
    have h3 : n2 ≤ 1048576 := by omega
    simp only [sameVs_self, sameV_self, sameF_self, bne_self_eq_false, Bool.cond_self, beq_self_eq_true, Nat.beq_refl, Bool.not_true, cond_false, Bool.and_true, Bool.true_or, ble_of h2, ble_of h3, ble_of (show n ≤ 1073741824 by omega), ble_of (show n ≤ 4611686018427387000 by omega), ble_of (show n2 ≤ 1073741824 by omega), ble_of (show n2 ≤ 4611686018427387000 by omega)] at kP kN
    exact ⟨kP trivial, kN trivial⟩
  cases p with
  | ofNat pp => exact (key pp).1
  | negSucc pp => exact (key pp).2
end Go.Fw.W1

/-
  Forces between wires: sums over all pairs of pieces.
-/
namespace Go.Fw.W1
open Go.Proofs

def fbQ (u v w : Nat) (q : Nat → Nat → Nat) (j : Nat) : Nat := inn (fop .sub .f32 u (q j 3)) (fop .sub .f32 v (q j 4)) (fop .sub .f32 w (q j 5)) (fop .sub .f32 u (q j 3)) (fop .sub .f32 v (q j 4)) (fop .sub .f32 w (q j 5))
def fbC (u v w : Nat) (q : Nat → Nat → Nat) (j : Nat) : Bool := forder .f32 (fbQ u v w q j) (can .f32 0) == some .gt
def fbF (a b c u v w : Nat) (q : Nat → Nat → Nat) (j : Nat) : Nat := fop .quo .f32 (fneg .f32 (inn a b c (q j 0) (q j 1) (q j 2))) (fop .mul .f32 (fbQ u v w q j) (root32 (fbQ u v w q j)))
def fbX (a b c u v w : Nat) (q : Nat → Nat → Nat) (s : Nat) : Nat → Nat
  | 0 => s
  | k + 1 => bif fbC u v w q k then fop .add .f32 (fbX a b c u v w q s k) (fop .mul .f32 (fop .sub .f32 u (q k 3)) (fbF a b c u v w q k)) else fbX a b c u v w q s k
theorem fbX_t {a b c u v w : Nat} {q : Nat → Nat → Nat} {s k : Nat} (h : fbC u v w q k = true) : fbX a b c u v w q s (k + 1) = fop .add .f32 (fbX a b c u v w q s k) (fop .mul .f32 (fop .sub .f32 u (q k 3)) (fbF a b c u v w q k)) := by simp only [fbX, h, cond_true]
theorem fbX_f {a b c u v w : Nat} {q : Nat → Nat → Nat} {s k : Nat} (h : fbC u v w q k = false) : fbX a b c u v w q s (k + 1) = fbX a b c u v w q s k := by simp only [fbX, h, cond_false]
def foX (p q : Nat → Nat → Nat) (lq s : Nat) : Nat → Nat
  | 0 => s
  | k + 1 => fbX (p k 0) (p k 1) (p k 2) (p k 3) (p k 4) (p k 5) q (foX p q lq s k) lq
def fbY (a b c u v w : Nat) (q : Nat → Nat → Nat) (s : Nat) : Nat → Nat
  | 0 => s
  | k + 1 => bif fbC u v w q k then fop .add .f32 (fbY a b c u v w q s k) (fop .mul .f32 (fop .sub .f32 v (q k 4)) (fbF a b c u v w q k)) else fbY a b c u v w q s k
theorem fbY_t {a b c u v w : Nat} {q : Nat → Nat → Nat} {s k : Nat} (h : fbC u v w q k = true) : fbY a b c u v w q s (k + 1) = fop .add .f32 (fbY a b c u v w q s k) (fop .mul .f32 (fop .sub .f32 v (q k 4)) (fbF a b c u v w q k)) := by simp only [fbY, h, cond_true]
theorem fbY_f {a b c u v w : Nat} {q : Nat → Nat → Nat} {s k : Nat} (h : fbC u v w q k = false) : fbY a b c u v w q s (k + 1) = fbY a b c u v w q s k := by simp only [fbY, h, cond_false]
def foY (p q : Nat → Nat → Nat) (lq s : Nat) : Nat → Nat
  | 0 => s
  | k + 1 => fbY (p k 0) (p k 1) (p k 2) (p k 3) (p k 4) (p k 5) q (foY p q lq s k) lq
def fbZ (a b c u v w : Nat) (q : Nat → Nat → Nat) (s : Nat) : Nat → Nat
  | 0 => s
  | k + 1 => bif fbC u v w q k then fop .add .f32 (fbZ a b c u v w q s k) (fop .mul .f32 (fop .sub .f32 w (q k 5)) (fbF a b c u v w q k)) else fbZ a b c u v w q s k
theorem fbZ_t {a b c u v w : Nat} {q : Nat → Nat → Nat} {s k : Nat} (h : fbC u v w q k = true) : fbZ a b c u v w q s (k + 1) = fop .add .f32 (fbZ a b c u v w q s k) (fop .mul .f32 (fop .sub .f32 w (q k 5)) (fbF a b c u v w q k)) := by simp only [fbZ, h, cond_true]
theorem fbZ_f {a b c u v w : Nat} {q : Nat → Nat → Nat} {s k : Nat} (h : fbC u v w q k = false) : fbZ a b c u v w q s (k + 1) = fbZ a b c u v w q s k := by simp only [fbZ, h, cond_false]
def foZ (p q : Nat → Nat → Nat) (lq s : Nat) : Nat → Nat
  | 0 => s
  | k + 1 => fbZ (p k 0) (p k 1) (p k 2) (p k 3) (p k 4) (p k 5) q (foZ p q lq s k) lq
noncomputable def I48j (lp lq s t r a b c u v w : Nat) (p1 p2 : Int) (gg hh : Nat → Nat → Nat) (n cur n2 cur2 : Nat) (x y z x2 y2 z2 : Nat → Nat) (cl cl2 : Bool) (k : Nat) : List A := [.ptr 0 0, .ptr 16 0, .ptr 32 0, .bool false, .ptr 288 0, .sl 352 lq, .ptr 512 0, .sl 416 lp, .int .i64 p1, .int .i64 p2, .sl 352 lq, .int .i64 (Int.ofNat lq), .int .i64 (Int.ofNat k)]
noncomputable def J48j (lp lq s t r a b c u v w : Nat) (p1 p2 : Int) (gg hh : Nat → Nat → Nat) (n cur n2 cur2 : Nat) (x y z x2 y2 z2 : Nat → Nat) (cl cl2 : Bool) (k : Nat) : List O := [.var [.flt .f32 a, .flt .f32 b, .flt .f32 c, .flt .f32 u, .flt .f32 v, .flt .f32 w], .var [.flt .f32 (fbX a b c u v w hh s k), .flt .f32 (fbY a b c u v w hh t k), .flt .f32 (fbZ a b c u v w hh r k)], .row 0 6 lq (.flns .f32 6 hh), .row 0 6 lp (.flns .f32 6 gg), .var [.flt .f32 0, .flt .f32 0, .flt .f32 0], .var [.ro 3 n2 (.vecs .f32 x2 y2 z2), .bool cl2, .flt .f32 cur2], .var [.ro 3 n (.vecs .f32 x y z), .bool cl, .flt .f32 cur]]
theorem round48j (lp lq s t r a b c u v w : Nat) (p1 p2 : Int) (gg hh : Nat → Nat → Nat) (n cur n2 cur2 : Nat) (x y z x2 y2 z2 : Nat → Nat) (cl cl2 : Bool) (k : Nat) (L : XK → List A → List (Option O) → Prop) :
    ((exec cfg22 (fun _ => true) (fun _ => none) 0 1000 (loopOf Try.f48 2) (litSt Try.f48.ntmps 592 [3, 4, 6, 7, 8, 9, 11, 36, 37, 38, 42, 43, 44] [512, 288, 352, 416, 32, 16, 0] (I48j lp lq s t r a b c u v w p1 p2 gg hh n cur n2 cur2 x y z x2 y2 z2 cl cl2 k) (J48j lp lq s t r a b c u v w p1 p2 gg hh n cur n2 cur2 x y z x2 y2 z2 cl cl2 k))).rt [3, 4, 6, 7, 8, 9, 11, 36, 37, 38, 42, 43, 44] [512, 288, 352, 416, 32, 16, 0]).Ok L =
    bif decide (Int.ofNat k < Int.ofNat lq) then
      bif decide (Int.ofNat k < Int.ofNat lq) then
        bif forder FloatKind.f32 (inn (fop BinOp.sub FloatKind.f32 u (hh k 3)) (fop BinOp.sub FloatKind.f32 v (hh k 4)) (fop BinOp.sub FloatKind.f32 w (hh k 5)) (fop BinOp.sub FloatKind.f32 u (hh k 3)) (fop BinOp.sub FloatKind.f32 v (hh k 4)) (fop BinOp.sub FloatKind.f32 w (hh k 5))) (can FloatKind.f32 0) == some Ordering.gt then
          L (XK.normal) ([A.ptr 0 0, A.ptr 16 0, A.ptr 32 0, A.bool false, A.ptr 288 0, A.sl 352 lq, A.ptr 512 0, A.sl 416 lp, A.int IntKind.i64 p1, A.int IntKind.i64 p2, A.sl 352 lq, A.int IntKind.i64 (Int.ofNat lq), A.int IntKind.i64 (IntKind.i64.wrap (Int.ofNat k + Int.ofNat 1))]) ([some (O.var [A.flt FloatKind.f32 a, A.flt FloatKind.f32 b, A.flt FloatKind.f32 c, A.flt FloatKind.f32 u, A.flt FloatKind.f32 v, A.flt FloatKind.f32 w]), some (O.var [A.flt FloatKind.f32 (fop BinOp.add FloatKind.f32 (fbX a b c u v w hh s k) (fop BinOp.mul FloatKind.f32 (fop BinOp.sub FloatKind.f32 u (hh k 3)) (fop BinOp.quo FloatKind.f32 (fneg FloatKind.f32 (inn a b c (hh k 0) (hh k 1) (hh k 2))) (fop BinOp.mul FloatKind.f32 (inn (fop BinOp.sub FloatKind.f32 u (hh k 3)) (fop BinOp.sub FloatKind.f32 v (hh k 4)) (fop BinOp.sub FloatKind.f32 w (hh k 5)) (fop BinOp.sub FloatKind.f32 u (hh k 3)) (fop BinOp.sub FloatKind.f32 v (hh k 4)) (fop BinOp.sub FloatKind.f32 w (hh k 5))) (root32 (inn (fop BinOp.sub FloatKind.f32 u (hh k 3)) (fop BinOp.sub FloatKind.f32 v (hh k 4)) (fop BinOp.sub FloatKind.f32 w (hh k 5)) (fop BinOp.sub FloatKind.f32 u (hh k 3)) (fop BinOp.sub FloatKind.f32 v (hh k 4)) (fop BinOp.sub FloatKind.f32 w (hh k 5)))))))), A.flt FloatKind.f32 (fop BinOp.add FloatKind.f32 (fbY a b c u v w hh t k) (fop BinOp.mul FloatKind.f32 (fop BinOp.sub FloatKind.f32 v (hh k 4)) (fop BinOp.quo FloatKind.f32 (fneg FloatKind.f32 (inn a b c (hh k 0) (hh k 1) (hh k 2))) (fop BinOp.mul FloatKind.f32 (inn (fop BinOp.sub FloatKind.f32 u (hh k 3)) (fop BinOp.sub FloatKind.f32 v (hh k 4)) (fop BinOp.sub FloatKind.f32 w (hh k 5)) (fop BinOp.sub FloatKind.f32 u (hh k 3)) (fop BinOp.sub FloatKind.f32 v (hh k 4)) (fop BinOp.sub FloatKind.f32 w (hh k 5))) (root32 (inn (fop BinOp.sub FloatKind.f32 u (hh k 3)) (fop BinOp.sub FloatKind.f32 v (hh k 4)) (fop BinOp.sub FloatKind.f32 w (hh k 5)) (fop BinOp.sub FloatKind.f32 u (hh k 3)) (fop BinOp.sub FloatKind.f32 v (hh k 4)) (fop BinOp.sub FloatKind.f32 w (hh k 5)))))))), A.flt FloatKind.f32 (fop BinOp.add FloatKind.f32 (fbZ a b c u v w hh r k) (fop BinOp.mul FloatKind.f32 (fop BinOp.sub FloatKind.f32 w (hh k 5)) (fop BinOp.quo FloatKind.f32 (fneg FloatKind.f32 (inn a b c (hh k 0) (hh k 1) (hh k 2))) (fop BinOp.mul FloatKind.f32 (inn (fop BinOp.sub FloatKind.f32 u (hh k 3)) (fop BinOp.sub FloatKind.f32 v (hh k 4)) (fop BinOp.sub FloatKind.f32 w (hh k 5)) (fop BinOp.sub FloatKind.f32 u (hh k 3)) (fop BinOp.sub FloatKind.f32 v (hh k 4)) (fop BinOp.sub FloatKind.f32 w (hh k 5))) (root32 (inn (fop BinOp.sub FloatKind.f32 u (hh k 3)) (fop BinOp.sub FloatKind.f32 v (hh k 4)) (fop BinOp.sub FloatKind.f32 w (hh k 5)) (fop BinOp.sub FloatKind.f32 u (hh k 3)) (fop BinOp.sub FloatKind.f32 v (hh k 4)) (fop BinOp.sub FloatKind.f32 w (hh k 5))))))))]), some (O.row 0 6 lq (Row.flns FloatKind.f32 6 hh)), some (O.row 0 6 lp (Row.flns FloatKind.f32 6 gg)), some (O.var [A.flt FloatKind.f32 0, A.flt FloatKind.f32 0, A.flt FloatKind.f32 0]), some (O.var [A.ro 3 n2 (Row.vecs FloatKind.f32 x2 y2 z2), A.bool cl2, A.flt FloatKind.f32 cur2]), some (O.var [A.ro 3 n (Row.vecs FloatKind.f32 x y z), A.bool cl, A.flt FloatKind.f32 cur])])
        else
          L (XK.normal) ([A.ptr 0 0, A.ptr 16 0, A.ptr 32 0, A.bool false, A.ptr 288 0, A.sl 352 lq, A.ptr 512 0, A.sl 416 lp, A.int IntKind.i64 p1, A.int IntKind.i64 p2, A.sl 352 lq, A.int IntKind.i64 (Int.ofNat lq), A.int IntKind.i64 (IntKind.i64.wrap (Int.ofNat k + Int.ofNat 1))]) ([some (O.var [A.flt FloatKind.f32 a, A.flt FloatKind.f32 b, A.flt FloatKind.f32 c, A.flt FloatKind.f32 u, A.flt FloatKind.f32 v, A.flt FloatKind.f32 w]), some (O.var [A.flt FloatKind.f32 (fbX a b c u v w hh s k), A.flt FloatKind.f32 (fbY a b c u v w hh t k), A.flt FloatKind.f32 (fbZ a b c u v w hh r k)]), some (O.row 0 6 lq (Row.flns FloatKind.f32 6 hh)), some (O.row 0 6 lp (Row.flns FloatKind.f32 6 gg)), some (O.var [A.flt FloatKind.f32 0, A.flt FloatKind.f32 0, A.flt FloatKind.f32 0]), some (O.var [A.ro 3 n2 (Row.vecs FloatKind.f32 x2 y2 z2), A.bool cl2, A.flt FloatKind.f32 cur2]), some (O.var [A.ro 3 n (Row.vecs FloatKind.f32 x y z), A.bool cl, A.flt FloatKind.f32 cur])])
      else
        False
    else
      L (XK.exit 2) ([A.ptr 0 0, A.ptr 16 0, A.ptr 32 0, A.bool false, A.ptr 288 0, A.sl 352 lq, A.ptr 512 0, A.sl 416 lp, A.int IntKind.i64 p1, A.int IntKind.i64 p2, A.sl 352 lq, A.int IntKind.i64 (Int.ofNat lq), A.int IntKind.i64 (Int.ofNat k)]) ([some (O.var [A.flt FloatKind.f32 a, A.flt FloatKind.f32 b, A.flt FloatKind.f32 c, A.flt FloatKind.f32 u, A.flt FloatKind.f32 v, A.flt FloatKind.f32 w]), some (O.var [A.flt FloatKind.f32 (fbX a b c u v w hh s k), A.flt FloatKind.f32 (fbY a b c u v w hh t k), A.flt FloatKind.f32 (fbZ a b c u v w hh r k)]), some (O.row 0 6 lq (Row.flns FloatKind.f32 6 hh)), some (O.row 0 6 lp (Row.flns FloatKind.f32 6 gg)), some (O.var [A.flt FloatKind.f32 0, A.flt FloatKind.f32 0, A.flt FloatKind.f32 0]), some (O.var [A.ro 3 n2 (Row.vecs FloatKind.f32 x2 y2 z2), A.bool cl2, A.flt FloatKind.f32 cur2]), some (O.var [A.ro 3 n (Row.vecs FloatKind.f32 x y z), A.bool cl, A.flt FloatKind.f32 cur])]) := by kernel_rfl
noncomputable def F48j : List A → List (Option O) → Option R3
  | [.ptr 0 0, .ptr 16 0, .ptr 32 0, .bool false, .ptr 288 0, .sl 352 lq, .ptr 512 0, .sl 416 lp, .int .i64 p1, .int .i64 p2, .sl 352 lq3, .int .i64 q, .int .i64 0], [some (.var [.flt .f32 a, .flt .f32 b, .flt .f32 c, .flt .f32 u, .flt .f32 v, .flt .f32 w]), some (.var [.flt .f32 s, .flt .f32 t, .flt .f32 r]), some (.row 0 6 lq2 (.flns .f32 6 hh)), some (.row 0 6 lp2 (.flns .f32 6 gg)), some (.var [.flt .f32 0, .flt .f32 0, .flt .f32 0]), some (.var [.ro 3 n2 (.vecs .f32 x2 y2 z2), .bool cl2, .flt .f32 cur2]), some (.var [.ro 3 n (.vecs .f32 x y z), .bool cl, .flt .f32 cur])] => some (.ite (decide (q = Int.ofNat lq) && Nat.beq lp lp2 && Nat.beq lq lq2 && Nat.beq lq lq3 && Nat.ble lq 100000) (.leaf .normal (I48j lp lq s t r a b c u v w p1 p2 gg hh n cur n2 cur2 x y z x2 y2 z2 cl cl2 (lq)) (J48j lp lq s t r a b c u v w p1 p2 gg hh n cur n2 cur2 x y z x2 y2 z2 cl cl2 (lq))) .fail)
  | _, _ => none
theorem loop48j : CodeOK Try.prog (fun _ σ => sumAt Try.f48.ntmps 592 [3, 4, 6, 7, 8, 9, 11, 36, 37, 38, 42, 43, 44] [512, 288, 352, 416, 32, 16, 0] F48j σ) (.block 2 (.loop (loopOf Try.f48 2))) := by
  refine block_ok (own := fun _ => true) (lp := (fun _ => none)) (un := 0) (fuel := 1000) cfg22_ok (lp_none _) fun az os R hF hok => ?_
  unfold F48j at hF
  split at hF
  · rename_i lq lp p1 p2 lq3 q a b c u v w s t r lq2 hh lp2 gg n2 x2 y2 z2 cl2 cur2 n x y z cl cur
    injection hF with hF
    subst hF
    have hg := hok.guard
    have hg' := hg
    simp only [Bool.and_eq_true, Nat.ble_eq, Nat.beq_eq, decide_eq_true_eq] at hg'
    obtain ⟨⟨⟨⟨rfl, rfl⟩, rfl⟩, rfl⟩, hlq⟩ := hg'
    refine for_fact (ids := [512, 288, 352, 416, 32, 16, 0]) (fun _ => true) (lq) (I48j lp lq s t r a b c u v w p1 p2 gg hh n cur n2 cur2 x y z x2 y2 z2 cl cl2) (J48j lp lq s t r a b c u v w p1 p2 gg hh n cur n2 cur2 x y z x2 y2 z2 cl cl2) _ (.ret) (I48j lp lq s t r a b c u v w p1 p2 gg hh n cur n2 cur2 x y z x2 y2 z2 cl cl2) (I48j lp lq s t r a b c u v w p1 p2 gg hh n cur n2 cur2 x y z x2 y2 z2 cl cl2) (I48j lp lq s t r a b c u v w p1 p2 gg hh n cur n2 cur2 x y z x2 y2 z2 cl cl2 (lq)) (J48j lp lq s t r a b c u v w p1 p2 gg hh n cur n2 cur2 x y z x2 y2 z2 cl cl2 (lq)) rfl (OSims.self _) (fun _ => rfl) (fun _ => rfl) (fun _ => ALe.self _) (fun _ => rfl) (ALe.self _) (OSims.self _) rfl (fun h => by cases h) (fun k hk L h1 h2 h3 => ?_) fun L hL => ?_
    · rw [round48j]

      by_cases hkm : k < lq
      · refine condT (lt_dec hkm) ?_
        rw [wrap_succ (by omega)]
        refine condT (lt_dec hkm) ?_
        show cond (fbC u v w hh k) _ _
        cases hs : fbC u v w hh k
        · exact h1 hkm rfl _ (by unfold J48j; rw [fbX_f hs, fbY_f hs, fbZ_f hs]; exact OSims.self [_, _, _, _, _, _, _])
        · exact h1 hkm rfl _ (by unfold J48j; rw [fbX_t hs, fbY_t hs, fbZ_t hs]; exact OSims.self [_, _, _, _, _, _, _])
      · refine condE (ge_dec (by omega)) ?_
        obtain rfl : k = lq := by omega
        exact h3 rfl
    · exact ⟨fun _ => hL.1 hg, fun N _ h => by cases h⟩
  · cases hF

noncomputable def lpi48i : List (Nat × (St → T)) := [(2, sumAt Try.f48.ntmps 592 [3, 4, 6, 7, 8, 9, 11, 36, 37, 38, 42, 43, 44] [512, 288, 352, 416, 32, 16, 0] F48j)]
theorem lpi48i_ok : LpOK Try.prog (look lpi48i) (loopOf Try.f48 0) := lp_in (lp_loops (by kernel_rfl) (by kernel_rfl) fun p hp => by
  simp only [lpi48i, List.mem_cons, List.not_mem_nil, or_false] at hp
  rcases hp with rfl
  · exact loop48j) _
noncomputable def I48i (lp lq s t r : Nat) (gg hh : Nat → Nat → Nat) (n cur n2 cur2 : Nat) (x y z x2 y2 z2 : Nat → Nat) (cl cl2 : Bool) (k : Nat) : List A := [.ptr 0 0, .ptr 16 0, .ptr 32 0, .bool false, .ptr 288 0, .sl 352 lq, .sl 416 lp, .int .i64 (Int.ofNat lp), .int .i64 (Int.ofNat k)]
noncomputable def J48i (lp lq s t r : Nat) (gg hh : Nat → Nat → Nat) (n cur n2 cur2 : Nat) (x y z x2 y2 z2 : Nat → Nat) (cl cl2 : Bool) (k : Nat) : List O := [.var [.flt .f32 (foX gg hh lq s k), .flt .f32 (foY gg hh lq t k), .flt .f32 (foZ gg hh lq r k)], .row 0 6 lq (.flns .f32 6 hh), .row 0 6 lp (.flns .f32 6 gg), .var [.flt .f32 0, .flt .f32 0, .flt .f32 0], .var [.ro 3 n2 (.vecs .f32 x2 y2 z2), .bool cl2, .flt .f32 cur2], .var [.ro 3 n (.vecs .f32 x y z), .bool cl, .flt .f32 cur]]
theorem round48i (lp lq s t r : Nat) (gg hh : Nat → Nat → Nat) (n cur n2 cur2 : Nat) (x y z x2 y2 z2 : Nat → Nat) (cl cl2 : Bool) (k : Nat) (L : XK → List A → List (Option O) → Prop) :
    ((exec cfg22 (fun _ => true) (look lpi48i) 0 1000 (loopOf Try.f48 0) (litSt Try.f48.ntmps 464 [3, 4, 6, 7, 8, 9, 36, 37, 38] [288, 352, 416, 32, 16, 0] (I48i lp lq s t r gg hh n cur n2 cur2 x y z x2 y2 z2 cl cl2 k) (J48i lp lq s t r gg hh n cur n2 cur2 x y z x2 y2 z2 cl cl2 k))).rt [3, 4, 6, 7, 8, 9, 36, 37, 38] [288, 352, 416, 32, 16, 0]).Ok L =
    bif decide (Int.ofNat k < Int.ofNat lp) then
      bif decide (Int.ofNat k < Int.ofNat lp) then
        bif decide (Int.ofNat lq = Int.ofNat lq) && lp.beq lp && lq.beq lq && lq.beq lq && lq.ble 100000 then
          L (XK.normal) ([A.ptr 0 0, A.ptr 16 0, A.ptr 32 0, A.bool false, A.ptr 288 0, A.sl 352 lq, A.sl 416 lp, A.int IntKind.i64 (Int.ofNat lp), A.int IntKind.i64 (IntKind.i64.wrap (Int.ofNat k + Int.ofNat 1))]) ([some (O.var [A.flt FloatKind.f32 (fbX (gg k 0) (gg k 1) (gg k 2) (gg k 3) (gg k 4) (gg k 5) hh (foX gg hh lq s k) lq), A.flt FloatKind.f32 (fbY (gg k 0) (gg k 1) (gg k 2) (gg k 3) (gg k 4) (gg k 5) hh (foY gg hh lq t k) lq), A.flt FloatKind.f32 (fbZ (gg k 0) (gg k 1) (gg k 2) (gg k 3) (gg k 4) (gg k 5) hh (foZ gg hh lq r k) lq)]), some (O.row 0 6 lq (Row.flns FloatKind.f32 6 hh)), some (O.row 0 6 lp (Row.flns FloatKind.f32 6 gg)), some (O.var [A.flt FloatKind.f32 0, A.flt FloatKind.f32 0, A.flt FloatKind.f32 0]), some (O.var [A.ro 3 n2 (Row.vecs FloatKind.f32 x2 y2 z2), A.bool cl2, A.flt FloatKind.f32 cur2]), some (O.var [A.ro 3 n (Row.vecs FloatKind.f32 x y z), A.bool cl, A.flt FloatKind.f32 cur])])
        else
          False
      else
        False
    else
      L (XK.exit 0) ([A.ptr 0 0, A.ptr 16 0, A.ptr 32 0, A.bool false, A.ptr 288 0, A.sl 352 lq, A.sl 416 lp, A.int IntKind.i64 (Int.ofNat lp), A.int IntKind.i64 (Int.ofNat k)]) ([some (O.var [A.flt FloatKind.f32 (foX gg hh lq s k), A.flt FloatKind.f32 (foY gg hh lq t k), A.flt FloatKind.f32 (foZ gg hh lq r k)]), some (O.row 0 6 lq (Row.flns FloatKind.f32 6 hh)), some (O.row 0 6 lp (Row.flns FloatKind.f32 6 gg)), some (O.var [A.flt FloatKind.f32 0, A.flt FloatKind.f32 0, A.flt FloatKind.f32 0]), some (O.var [A.ro 3 n2 (Row.vecs FloatKind.f32 x2 y2 z2), A.bool cl2, A.flt FloatKind.f32 cur2]), some (O.var [A.ro 3 n (Row.vecs FloatKind.f32 x y z), A.bool cl, A.flt FloatKind.f32 cur])]) := by kernel_rfl
noncomputable def F48i : List A → List (Option O) → Option R3
  | [.ptr 0 0, .ptr 16 0, .ptr 32 0, .bool false, .ptr 288 0, .sl 352 lq, .sl 416 lp, .int .i64 q, .int .i64 0], [some (.var [.flt .f32 s, .flt .f32 t, .flt .f32 r]), some (.row 0 6 lq2 (.flns .f32 6 hh)), some (.row 0 6 lp2 (.flns .f32 6 gg)), some (.var [.flt .f32 0, .flt .f32 0, .flt .f32 0]), some (.var [.ro 3 n2 (.vecs .f32 x2 y2 z2), .bool cl2, .flt .f32 cur2]), some (.var [.ro 3 n (.vecs .f32 x y z), .bool cl, .flt .f32 cur])] => some (.ite (decide (q = Int.ofNat lp) && Nat.beq lp lp2 && Nat.beq lq lq2 && Nat.ble lq 100000 && Nat.ble lp 100000) (.leaf .normal (I48i lp lq s t r gg hh n cur n2 cur2 x y z x2 y2 z2 cl cl2 (lp)) (J48i lp lq s t r gg hh n cur n2 cur2 x y z x2 y2 z2 cl cl2 (lp))) .fail)
  | _, _ => none
theorem loop48i : CodeOK Try.prog (fun _ σ => sumAt Try.f48.ntmps 464 [3, 4, 6, 7, 8, 9, 36, 37, 38] [288, 352, 416, 32, 16, 0] F48i σ) (.block 0 (.loop (loopOf Try.f48 0))) := by
  refine block_ok (own := fun _ => true) (lp := (look lpi48i)) (un := 0) (fuel := 1000) cfg22_ok lpi48i_ok fun az os R hF hok => ?_
  unfold F48i at hF
  split at hF
  · rename_i lq lp q s t r lq2 hh lp2 gg n2 x2 y2 z2 cl2 cur2 n x y z cl cur
    injection hF with hF
    subst hF
    have hg := hok.guard
    have hg' := hg
    simp only [Bool.and_eq_true, Nat.ble_eq, Nat.beq_eq, decide_eq_true_eq] at hg'
    obtain ⟨⟨⟨⟨rfl, rfl⟩, rfl⟩, hlq⟩, hlp⟩ := hg'
    refine for_fact (ids := [288, 352, 416, 32, 16, 0]) (fun _ => true) (lp) (I48i lp lq s t r gg hh n cur n2 cur2 x y z x2 y2 z2 cl cl2) (J48i lp lq s t r gg hh n cur n2 cur2 x y z x2 y2 z2 cl cl2) _ (.ret) (I48i lp lq s t r gg hh n cur n2 cur2 x y z x2 y2 z2 cl cl2) (I48i lp lq s t r gg hh n cur n2 cur2 x y z x2 y2 z2 cl cl2) (I48i lp lq s t r gg hh n cur n2 cur2 x y z x2 y2 z2 cl cl2 (lp)) (J48i lp lq s t r gg hh n cur n2 cur2 x y z x2 y2 z2 cl cl2 (lp)) rfl (OSims.self _) (fun _ => rfl) (fun _ => rfl) (fun _ => ALe.self _) (fun _ => rfl) (ALe.self _) (OSims.self _) rfl (fun h => by cases h) (fun k hk L h1 h2 h3 => ?_) fun L hL => ?_
    · rw [round48i]

      by_cases hkm : k < lp
      · refine condT (lt_dec hkm) ?_
        rw [wrap_succ (by omega)]
        refine condT (lt_dec hkm) ?_
        refine condT (by rw [decide_eq_true rfl, Nat.beq_refl, Nat.beq_refl, ble_of hlq]; rfl) ?_
        exact h1 hkm rfl _ (OSims.self (J48i lp lq s t r gg hh n cur n2 cur2 x y z x2 y2 z2 cl cl2 (k + 1)))
      · refine condE (ge_dec (by omega)) ?_
        obtain rfl : k = lp := by omega
        exact h3 rfl
    · exact ⟨fun _ => hL.1 hg, fun N _ h => by cases h⟩
  · cases hF

noncomputable def I104j (lp lq i s t r : Nat) (a0 a1 a2 b0 b1 b2 c0 c1 c2 d0 d1 d2 : Nat → Nat) (n cur n2 cur2 : Nat) (x y z x2 y2 z2 : Nat → Nat) (cl cl2 : Bool) (k : Nat) : List A := [.rop (.agg [.ro 3 n (.vecs .f32 x y z), .bool cl, .flt .f32 cur]) 0, .rop (.agg [.ro 3 n2 (.vecs .f32 x2 y2 z2), .bool cl2, .flt .f32 cur2]) 0, .ptr 0 0, .sl 48 lp, .sl 49 lp, .sl 176 lq, .sl 177 lq, .ptr 288 0, .int .i64 (Int.ofNat i), .int .i64 (Int.ofNat k)]
noncomputable def J104j (lp lq i s t r : Nat) (a0 a1 a2 b0 b1 b2 c0 c1 c2 d0 d1 d2 : Nat → Nat) (n cur n2 cur2 : Nat) (x y z x2 y2 z2 : Nat → Nat) (cl cl2 : Bool) (k : Nat) : List O := [.var [.flt .f32 (fbX (a0 i) (a1 i) (a2 i) (b0 i) (b1 i) (b2 i) (six c0 c1 c2 d0 d1 d2) s k), .flt .f32 (fbY (a0 i) (a1 i) (a2 i) (b0 i) (b1 i) (b2 i) (six c0 c1 c2 d0 d1 d2) t k), .flt .f32 (fbZ (a0 i) (a1 i) (a2 i) (b0 i) (b1 i) (b2 i) (six c0 c1 c2 d0 d1 d2) r k)], .row 0 3 lp (.vecs .f32 a0 a1 a2), .row 0 3 lp (.vecs .f32 b0 b1 b2), .row 0 3 lq (.vecs .f32 c0 c1 c2), .row 0 3 lq (.vecs .f32 d0 d1 d2), .var [.flt .f32 0, .flt .f32 0, .flt .f32 0]]
theorem round104j (lp lq i s t r : Nat) (a0 a1 a2 b0 b1 b2 c0 c1 c2 d0 d1 d2 : Nat → Nat) (n cur n2 cur2 : Nat) (x y z x2 y2 z2 : Nat → Nat) (cl cl2 : Bool) (k : Nat) (L : XK → List A → List (Option O) → Prop) :
    ((exec cfg22 (fun _ => true) (fun _ => none) 0 1000 (loopOf Try.f104 2) (litSt Try.f104.ntmps 416 [0, 1, 6, 7, 8, 9, 10, 11, 12, 13] [288, 48, 49, 176, 177, 0] (I104j lp lq i s t r a0 a1 a2 b0 b1 b2 c0 c1 c2 d0 d1 d2 n cur n2 cur2 x y z x2 y2 z2 cl cl2 k) (J104j lp lq i s t r a0 a1 a2 b0 b1 b2 c0 c1 c2 d0 d1 d2 n cur n2 cur2 x y z x2 y2 z2 cl cl2 k))).rt [0, 1, 6, 7, 8, 9, 10, 11, 12, 13] [288, 48, 49, 176, 177, 0]).Ok L =
    bif decide (Int.ofNat k < Int.ofNat lq) then
      bif decide (Int.ofNat k < Int.ofNat lq) && (decide (Int.ofNat i < Int.ofNat lp) && true) then
        bif forder FloatKind.f32 (inn (fop BinOp.sub FloatKind.f32 (b0 i) (d0 k)) (fop BinOp.sub FloatKind.f32 (b1 i) (d1 k)) (fop BinOp.sub FloatKind.f32 (b2 i) (d2 k)) (fop BinOp.sub FloatKind.f32 (b0 i) (d0 k)) (fop BinOp.sub FloatKind.f32 (b1 i) (d1 k)) (fop BinOp.sub FloatKind.f32 (b2 i) (d2 k))) (can FloatKind.f32 0) == some Ordering.gt then
          bif decide (Int.ofNat k < Int.ofNat lq) && (decide (Int.ofNat i < Int.ofNat lp) && true) then
            L (XK.normal) ([(A.agg [A.ro 3 n (Row.vecs FloatKind.f32 x y z), A.bool cl, A.flt FloatKind.f32 cur]).rop 0, (A.agg [A.ro 3 n2 (Row.vecs FloatKind.f32 x2 y2 z2), A.bool cl2, A.flt FloatKind.f32 cur2]).rop 0, A.ptr 0 0, A.sl 48 lp, A.sl 49 lp, A.sl 176 lq, A.sl 177 lq, A.ptr 288 0, A.int IntKind.i64 (Int.ofNat i), A.int IntKind.i64 (IntKind.i64.wrap (Int.ofNat k + Int.ofNat 1))]) ([some (O.var [A.flt FloatKind.f32 (fop BinOp.add FloatKind.f32 (fbX (a0 i) (a1 i) (a2 i) (b0 i) (b1 i) (b2 i) (six c0 c1 c2 d0 d1 d2) s k) (fop BinOp.mul FloatKind.f32 (fop BinOp.sub FloatKind.f32 (b0 i) (d0 k)) (fop BinOp.quo FloatKind.f32 (fneg FloatKind.f32 (inn (a0 i) (a1 i) (a2 i) (c0 k) (c1 k) (c2 k))) (fop BinOp.mul FloatKind.f32 (inn (fop BinOp.sub FloatKind.f32 (b0 i) (d0 k)) (fop BinOp.sub FloatKind.f32 (b1 i) (d1 k)) (fop BinOp.sub FloatKind.f32 (b2 i) (d2 k)) (fop BinOp.sub FloatKind.f32 (b0 i) (d0 k)) (fop BinOp.sub FloatKind.f32 (b1 i) (d1 k)) (fop BinOp.sub FloatKind.f32 (b2 i) (d2 k))) (root32 (inn (fop BinOp.sub FloatKind.f32 (b0 i) (d0 k)) (fop BinOp.sub FloatKind.f32 (b1 i) (d1 k)) (fop BinOp.sub FloatKind.f32 (b2 i) (d2 k)) (fop BinOp.sub FloatKind.f32 (b0 i) (d0 k)) (fop BinOp.sub FloatKind.f32 (b1 i) (d1 k)) (fop BinOp.sub FloatKind.f32 (b2 i) (d2 k)))))))), A.flt FloatKind.f32 (fop BinOp.add FloatKind.f32 (fbY (a0 i) (a1 i) (a2 i) (b0 i) (b1 i) (b2 i) (six c0 c1 c2 d0 d1 d2) t k) (fop BinOp.mul FloatKind.f32 (fop BinOp.sub FloatKind.f32 (b1 i) (d1 k)) (fop BinOp.quo FloatKind.f32 (fneg FloatKind.f32 (inn (a0 i) (a1 i) (a2 i) (c0 k) (c1 k) (c2 k))) (fop BinOp.mul FloatKind.f32 (inn (fop BinOp.sub FloatKind.f32 (b0 i) (d0 k)) (fop BinOp.sub FloatKind.f32 (b1 i) (d1 k)) (fop BinOp.sub FloatKind.f32 (b2 i) (d2 k)) (fop BinOp.sub FloatKind.f32 (b0 i) (d0 k)) (fop BinOp.sub FloatKind.f32 (b1 i) (d1 k)) (fop BinOp.sub FloatKind.f32 (b2 i) (d2 k))) (root32 (inn (fop BinOp.sub FloatKind.f32 (b0 i) (d0 k)) (fop BinOp.sub FloatKind.f32 (b1 i) (d1 k)) (fop BinOp.sub FloatKind.f32 (b2 i) (d2 k)) (fop BinOp.sub FloatKind.f32 (b0 i) (d0 k)) (fop BinOp.sub FloatKind.f32 (b1 i) (d1 k)) (fop BinOp.sub FloatKind.f32 (b2 i) (d2 k)))))))), A.flt FloatKind.f32 (fop BinOp.add FloatKind.f32 (fbZ (a0 i) (a1 i) (a2 i) (b0 i) (b1 i) (b2 i) (six c0 c1 c2 d0 d1 d2) r k) (fop BinOp.mul FloatKind.f32 (fop BinOp.sub FloatKind.f32 (b2 i) (d2 k)) (fop BinOp.quo FloatKind.f32 (fneg FloatKind.f32 (inn (a0 i) (a1 i) (a2 i) (c0 k) (c1 k) (c2 k))) (fop BinOp.mul FloatKind.f32 (inn (fop BinOp.sub FloatKind.f32 (b0 i) (d0 k)) (fop BinOp.sub FloatKind.f32 (b1 i) (d1 k)) (fop BinOp.sub FloatKind.f32 (b2 i) (d2 k)) (fop BinOp.sub FloatKind.f32 (b0 i) (d0 k)) (fop BinOp.sub FloatKind.f32 (b1 i) (d1 k)) (fop BinOp.sub FloatKind.f32 (b2 i) (d2 k))) (root32 (inn (fop BinOp.sub FloatKind.f32 (b0 i) (d0 k)) (fop BinOp.sub FloatKind.f32 (b1 i) (d1 k)) (fop BinOp.sub FloatKind.f32 (b2 i) (d2 k)) (fop BinOp.sub FloatKind.f32 (b0 i) (d0 k)) (fop BinOp.sub FloatKind.f32 (b1 i) (d1 k)) (fop BinOp.sub FloatKind.f32 (b2 i) (d2 k))))))))]), some (O.row 0 3 lp (Row.vecs FloatKind.f32 a0 a1 a2)), some (O.row 0 3 lp (Row.vecs FloatKind.f32 b0 b1 b2)), some (O.row 0 3 lq (Row.vecs FloatKind.f32 c0 c1 c2)), some (O.row 0 3 lq (Row.vecs FloatKind.f32 d0 d1 d2)), some (O.var [A.flt FloatKind.f32 0, A.flt FloatKind.f32 0, A.flt FloatKind.f32 0])])
          else
            False
        else
          L (XK.normal) ([(A.agg [A.ro 3 n (Row.vecs FloatKind.f32 x y z), A.bool cl, A.flt FloatKind.f32 cur]).rop 0, (A.agg [A.ro 3 n2 (Row.vecs FloatKind.f32 x2 y2 z2), A.bool cl2, A.flt FloatKind.f32 cur2]).rop 0, A.ptr 0 0, A.sl 48 lp, A.sl 49 lp, A.sl 176 lq, A.sl 177 lq, A.ptr 288 0, A.int IntKind.i64 (Int.ofNat i), A.int IntKind.i64 (IntKind.i64.wrap (Int.ofNat k + Int.ofNat 1))]) ([some (O.var [A.flt FloatKind.f32 (fbX (a0 i) (a1 i) (a2 i) (b0 i) (b1 i) (b2 i) (six c0 c1 c2 d0 d1 d2) s k), A.flt FloatKind.f32 (fbY (a0 i) (a1 i) (a2 i) (b0 i) (b1 i) (b2 i) (six c0 c1 c2 d0 d1 d2) t k), A.flt FloatKind.f32 (fbZ (a0 i) (a1 i) (a2 i) (b0 i) (b1 i) (b2 i) (six c0 c1 c2 d0 d1 d2) r k)]), some (O.row 0 3 lp (Row.vecs FloatKind.f32 a0 a1 a2)), some (O.row 0 3 lp (Row.vecs FloatKind.f32 b0 b1 b2)), some (O.row 0 3 lq (Row.vecs FloatKind.f32 c0 c1 c2)), some (O.row 0 3 lq (Row.vecs FloatKind.f32 d0 d1 d2)), some (O.var [A.flt FloatKind.f32 0, A.flt FloatKind.f32 0, A.flt FloatKind.f32 0])])
      else
        False
    else
      L (XK.exit 2) ([(A.agg [A.ro 3 n (Row.vecs FloatKind.f32 x y z), A.bool cl, A.flt FloatKind.f32 cur]).rop 0, (A.agg [A.ro 3 n2 (Row.vecs FloatKind.f32 x2 y2 z2), A.bool cl2, A.flt FloatKind.f32 cur2]).rop 0, A.ptr 0 0, A.sl 48 lp, A.sl 49 lp, A.sl 176 lq, A.sl 177 lq, A.ptr 288 0, A.int IntKind.i64 (Int.ofNat i), A.int IntKind.i64 (Int.ofNat k)]) ([some (O.var [A.flt FloatKind.f32 (fbX (a0 i) (a1 i) (a2 i) (b0 i) (b1 i) (b2 i) (six c0 c1 c2 d0 d1 d2) s k), A.flt FloatKind.f32 (fbY (a0 i) (a1 i) (a2 i) (b0 i) (b1 i) (b2 i) (six c0 c1 c2 d0 d1 d2) t k), A.flt FloatKind.f32 (fbZ (a0 i) (a1 i) (a2 i) (b0 i) (b1 i) (b2 i) (six c0 c1 c2 d0 d1 d2) r k)]), some (O.row 0 3 lp (Row.vecs FloatKind.f32 a0 a1 a2)), some (O.row 0 3 lp (Row.vecs FloatKind.f32 b0 b1 b2)), some (O.row 0 3 lq (Row.vecs FloatKind.f32 c0 c1 c2)), some (O.row 0 3 lq (Row.vecs FloatKind.f32 d0 d1 d2)), some (O.var [A.flt FloatKind.f32 0, A.flt FloatKind.f32 0, A.flt FloatKind.f32 0])]) := by kernel_rfl
noncomputable def F104j : List A → List (Option O) → Option R3
  | [.rop (.agg [.ro 3 n (.vecs .f32 x y z), .bool cl, .flt .f32 cur]) 0, .rop (.agg [.ro 3 n2 (.vecs .f32 x2 y2 z2), .bool cl2, .flt .f32 cur2]) 0, .ptr 0 0, .sl 48 lp, .sl 49 lp2, .sl 176 lq, .sl 177 lq2, .ptr 288 0, .int .i64 (.ofNat i), .int .i64 0], [some (.var [.flt .f32 s, .flt .f32 t, .flt .f32 r]), some (.row 0 3 lp3 (.vecs .f32 a0 a1 a2)), some (.row 0 3 lp4 (.vecs .f32 b0 b1 b2)), some (.row 0 3 lq3 (.vecs .f32 c0 c1 c2)), some (.row 0 3 lq4 (.vecs .f32 d0 d1 d2)), some (.var [.flt .f32 0, .flt .f32 0, .flt .f32 0])] => some (.ite (Nat.beq lp lp2 && Nat.beq lp lp3 && Nat.beq lp lp4 && Nat.beq lq lq2 && Nat.beq lq lq3 && Nat.beq lq lq4 && Nat.ble lq 100000 && Nat.blt i lp) (.leaf .normal (I104j lp lq i s t r a0 a1 a2 b0 b1 b2 c0 c1 c2 d0 d1 d2 n cur n2 cur2 x y z x2 y2 z2 cl cl2 (lq)) (J104j lp lq i s t r a0 a1 a2 b0 b1 b2 c0 c1 c2 d0 d1 d2 n cur n2 cur2 x y z x2 y2 z2 cl cl2 (lq))) .fail)
  | _, _ => none
theorem loop104j : CodeOK Try.prog (fun _ σ => sumAt Try.f104.ntmps 416 [0, 1, 6, 7, 8, 9, 10, 11, 12, 13] [288, 48, 49, 176, 177, 0] F104j σ) (.block 2 (.loop (loopOf Try.f104 2))) := by
  refine block_ok (own := fun _ => true) (lp := (fun _ => none)) (un := 0) (fuel := 1000) cfg22_ok (lp_none _) fun az os R hF hok => ?_
  unfold F104j at hF
  split at hF
  · rename_i n x y z cl cur n2 x2 y2 z2 cl2 cur2 lp lp2 lq lq2 i s t r lp3 a0 a1 a2 lp4 b0 b1 b2 lq3 c0 c1 c2 lq4 d0 d1 d2
    injection hF with hF
    subst hF
    have hg := hok.guard
    have hg' := hg
    simp only [Bool.and_eq_true, Nat.ble_eq, Nat.beq_eq, decide_eq_true_eq] at hg'
    obtain ⟨⟨⟨⟨⟨⟨⟨rfl, rfl⟩, rfl⟩, rfl⟩, rfl⟩, rfl⟩, hlq⟩, hi⟩ := hg'
    have hi := blt_lt' hi
    refine for_fact (ids := [288, 48, 49, 176, 177, 0]) (fun _ => true) (lq) (I104j lp lq i s t r a0 a1 a2 b0 b1 b2 c0 c1 c2 d0 d1 d2 n cur n2 cur2 x y z x2 y2 z2 cl cl2) (J104j lp lq i s t r a0 a1 a2 b0 b1 b2 c0 c1 c2 d0 d1 d2 n cur n2 cur2 x y z x2 y2 z2 cl cl2) _ (.ret) (I104j lp lq i s t r a0 a1 a2 b0 b1 b2 c0 c1 c2 d0 d1 d2 n cur n2 cur2 x y z x2 y2 z2 cl cl2) (I104j lp lq i s t r a0 a1 a2 b0 b1 b2 c0 c1 c2 d0 d1 d2 n cur n2 cur2 x y z x2 y2 z2 cl cl2) (I104j lp lq i s t r a0 a1 a2 b0 b1 b2 c0 c1 c2 d0 d1 d2 n cur n2 cur2 x y z x2 y2 z2 cl cl2 (lq)) (J104j lp lq i s t r a0 a1 a2 b0 b1 b2 c0 c1 c2 d0 d1 d2 n cur n2 cur2 x y z x2 y2 z2 cl cl2 (lq)) rfl (OSims.self _) (fun _ => rfl) (fun _ => rfl) (fun _ => ALe.self _) (fun _ => rfl) (ALe.self _) (OSims.self _) rfl (fun h => by cases h) (fun k hk L h1 h2 h3 => ?_) fun L hL => ?_
    · rw [round104j]

      by_cases hkm : k < lq
      · refine condT (lt_dec hkm) ?_
        rw [wrap_succ (by omega)]
        refine condT (by rw [lt_dec hkm, lt_dec hi]; rfl) ?_
        show cond (fbC (b0 i) (b1 i) (b2 i) (six c0 c1 c2 d0 d1 d2) k) _ _
        cases hs : fbC (b0 i) (b1 i) (b2 i) (six c0 c1 c2 d0 d1 d2) k
        · exact h1 hkm rfl _ (by unfold J104j; rw [fbX_f hs, fbY_f hs, fbZ_f hs]; exact OSims.self [_, _, _, _, _, _])
        · refine condT rfl ?_
          refine condT (by rw [lt_dec hkm, lt_dec hi]; rfl) ?_
          exact h1 hkm rfl _ (by unfold J104j; rw [fbX_t hs, fbY_t hs, fbZ_t hs]; exact OSims.self [_, _, _, _, _, _])
      · refine condE (ge_dec (by omega)) ?_
        obtain rfl : k = lq := by omega
        exact h3 rfl
    · exact ⟨fun _ => hL.1 hg, fun N _ h => by cases h⟩
  · cases hF

noncomputable def lpi104i : List (Nat × (St → T)) := [(2, sumAt Try.f104.ntmps 416 [0, 1, 6, 7, 8, 9, 10, 11, 12, 13] [288, 48, 49, 176, 177, 0] F104j)]
theorem lpi104i_ok : LpOK Try.prog (look lpi104i) (loopOf Try.f104 0) := lp_in (lp_loops (by kernel_rfl) (by kernel_rfl) fun p hp => by
  simp only [lpi104i, List.mem_cons, List.not_mem_nil, or_false] at hp
  rcases hp with rfl
  · exact loop104j) _
noncomputable def I104i (lp lq s t r : Nat) (a0 a1 a2 b0 b1 b2 c0 c1 c2 d0 d1 d2 : Nat → Nat) (n cur n2 cur2 : Nat) (x y z x2 y2 z2 : Nat → Nat) (cl cl2 : Bool) (k : Nat) : List A := [.rop (.agg [.ro 3 n (.vecs .f32 x y z), .bool cl, .flt .f32 cur]) 0, .rop (.agg [.ro 3 n2 (.vecs .f32 x2 y2 z2), .bool cl2, .flt .f32 cur2]) 0, .ptr 0 0, .sl 48 lp, .sl 49 lp, .sl 176 lq, .sl 177 lq, .ptr 288 0, .int .i64 (Int.ofNat k)]
noncomputable def J104i (lp lq s t r : Nat) (a0 a1 a2 b0 b1 b2 c0 c1 c2 d0 d1 d2 : Nat → Nat) (n cur n2 cur2 : Nat) (x y z x2 y2 z2 : Nat → Nat) (cl cl2 : Bool) (k : Nat) : List O := [.var [.flt .f32 (foX (six a0 a1 a2 b0 b1 b2) (six c0 c1 c2 d0 d1 d2) lq s k), .flt .f32 (foY (six a0 a1 a2 b0 b1 b2) (six c0 c1 c2 d0 d1 d2) lq t k), .flt .f32 (foZ (six a0 a1 a2 b0 b1 b2) (six c0 c1 c2 d0 d1 d2) lq r k)], .row 0 3 lp (.vecs .f32 a0 a1 a2), .row 0 3 lp (.vecs .f32 b0 b1 b2), .row 0 3 lq (.vecs .f32 c0 c1 c2), .row 0 3 lq (.vecs .f32 d0 d1 d2), .var [.flt .f32 0, .flt .f32 0, .flt .f32 0]]
theorem round104i (lp lq s t r : Nat) (a0 a1 a2 b0 b1 b2 c0 c1 c2 d0 d1 d2 : Nat → Nat) (n cur n2 cur2 : Nat) (x y z x2 y2 z2 : Nat → Nat) (cl cl2 : Bool) (k : Nat) (L : XK → List A → List (Option O) → Prop) :
    ((exec cfg22 (fun _ => true) (look lpi104i) 0 1000 (loopOf Try.f104 0) (litSt Try.f104.ntmps 336 [0, 1, 6, 7, 8, 9, 10, 11, 12] [288, 48, 49, 176, 177, 0] (I104i lp lq s t r a0 a1 a2 b0 b1 b2 c0 c1 c2 d0 d1 d2 n cur n2 cur2 x y z x2 y2 z2 cl cl2 k) (J104i lp lq s t r a0 a1 a2 b0 b1 b2 c0 c1 c2 d0 d1 d2 n cur n2 cur2 x y z x2 y2 z2 cl cl2 k))).rt [0, 1, 6, 7, 8, 9, 10, 11, 12] [288, 48, 49, 176, 177, 0]).Ok L =
    bif decide (Int.ofNat k < Int.ofNat lp) then
      bif lp.beq lp && lp.beq lp && lp.beq lp && lq.beq lq && lq.beq lq && lq.beq lq && lq.ble 100000 && k.blt lp then
        L (XK.normal) ([(A.agg [A.ro 3 n (Row.vecs FloatKind.f32 x y z), A.bool cl, A.flt FloatKind.f32 cur]).rop 0, (A.agg [A.ro 3 n2 (Row.vecs FloatKind.f32 x2 y2 z2), A.bool cl2, A.flt FloatKind.f32 cur2]).rop 0, A.ptr 0 0, A.sl 48 lp, A.sl 49 lp, A.sl 176 lq, A.sl 177 lq, A.ptr 288 0, A.int IntKind.i64 (IntKind.i64.wrap (Int.ofNat k + Int.ofNat 1))]) ([some (O.var [A.flt FloatKind.f32 (fbX (a0 k) (a1 k) (a2 k) (b0 k) (b1 k) (b2 k) (six c0 c1 c2 d0 d1 d2) (foX (six a0 a1 a2 b0 b1 b2) (six c0 c1 c2 d0 d1 d2) lq s k) lq), A.flt FloatKind.f32 (fbY (a0 k) (a1 k) (a2 k) (b0 k) (b1 k) (b2 k) (six c0 c1 c2 d0 d1 d2) (foY (six a0 a1 a2 b0 b1 b2) (six c0 c1 c2 d0 d1 d2) lq t k) lq), A.flt FloatKind.f32 (fbZ (a0 k) (a1 k) (a2 k) (b0 k) (b1 k) (b2 k) (six c0 c1 c2 d0 d1 d2) (foZ (six a0 a1 a2 b0 b1 b2) (six c0 c1 c2 d0 d1 d2) lq r k) lq)]), some (O.row 0 3 lp (Row.vecs FloatKind.f32 a0 a1 a2)), some (O.row 0 3 lp (Row.vecs FloatKind.f32 b0 b1 b2)), some (O.row 0 3 lq (Row.vecs FloatKind.f32 c0 c1 c2)), some (O.row 0 3 lq (Row.vecs FloatKind.f32 d0 d1 d2)), some (O.var [A.flt FloatKind.f32 0, A.flt FloatKind.f32 0, A.flt FloatKind.f32 0])])
      else
        False
    else
      L (XK.exit 0) ([(A.agg [A.ro 3 n (Row.vecs FloatKind.f32 x y z), A.bool cl, A.flt FloatKind.f32 cur]).rop 0, (A.agg [A.ro 3 n2 (Row.vecs FloatKind.f32 x2 y2 z2), A.bool cl2, A.flt FloatKind.f32 cur2]).rop 0, A.ptr 0 0, A.sl 48 lp, A.sl 49 lp, A.sl 176 lq, A.sl 177 lq, A.ptr 288 0, A.int IntKind.i64 (Int.ofNat k)]) ([some (O.var [A.flt FloatKind.f32 (foX (six a0 a1 a2 b0 b1 b2) (six c0 c1 c2 d0 d1 d2) lq s k), A.flt FloatKind.f32 (foY (six a0 a1 a2 b0 b1 b2) (six c0 c1 c2 d0 d1 d2) lq t k), A.flt FloatKind.f32 (foZ (six a0 a1 a2 b0 b1 b2) (six c0 c1 c2 d0 d1 d2) lq r k)]), some (O.row 0 3 lp (Row.vecs FloatKind.f32 a0 a1 a2)), some (O.row 0 3 lp (Row.vecs FloatKind.f32 b0 b1 b2)), some (O.row 0 3 lq (Row.vecs FloatKind.f32 c0 c1 c2)), some (O.row 0 3 lq (Row.vecs FloatKind.f32 d0 d1 d2)), some (O.var [A.flt FloatKind.f32 0, A.flt FloatKind.f32 0, A.flt FloatKind.f32 0])]) := by kernel_rfl
noncomputable def F104i : List A → List (Option O) → Option R3
  | [.rop (.agg [.ro 3 n (.vecs .f32 x y z), .bool cl, .flt .f32 cur]) 0, .rop (.agg [.ro 3 n2 (.vecs .f32 x2 y2 z2), .bool cl2, .flt .f32 cur2]) 0, .ptr 0 0, .sl 48 lp, .sl 49 lp2, .sl 176 lq, .sl 177 lq2, .ptr 288 0, .int .i64 0], [some (.var [.flt .f32 s, .flt .f32 t, .flt .f32 r]), some (.row 0 3 lp3 (.vecs .f32 a0 a1 a2)), some (.row 0 3 lp4 (.vecs .f32 b0 b1 b2)), some (.row 0 3 lq3 (.vecs .f32 c0 c1 c2)), some (.row 0 3 lq4 (.vecs .f32 d0 d1 d2)), some (.var [.flt .f32 0, .flt .f32 0, .flt .f32 0])] => some (.ite (Nat.beq lp lp2 && Nat.beq lp lp3 && Nat.beq lp lp4 && Nat.beq lq lq2 && Nat.beq lq lq3 && Nat.beq lq lq4 && Nat.ble lp 100000 && Nat.ble lq 100000) (.leaf .normal (I104i lp lq s t r a0 a1 a2 b0 b1 b2 c0 c1 c2 d0 d1 d2 n cur n2 cur2 x y z x2 y2 z2 cl cl2 (lp)) (J104i lp lq s t r a0 a1 a2 b0 b1 b2 c0 c1 c2 d0 d1 d2 n cur n2 cur2 x y z x2 y2 z2 cl cl2 (lp))) .fail)
  | _, _ => none
theorem loop104i : CodeOK Try.prog (fun _ σ => sumAt Try.f104.ntmps 336 [0, 1, 6, 7, 8, 9, 10, 11, 12] [288, 48, 49, 176, 177, 0] F104i σ) (.block 0 (.loop (loopOf Try.f104 0))) := by
  refine block_ok (own := fun _ => true) (lp := (look lpi104i)) (un := 0) (fuel := 1000) cfg22_ok lpi104i_ok fun az os R hF hok => ?_
  unfold F104i at hF
  split at hF
  · rename_i n x y z cl cur n2 x2 y2 z2 cl2 cur2 lp lp2 lq lq2 s t r lp3 a0 a1 a2 lp4 b0 b1 b2 lq3 c0 c1 c2 lq4 d0 d1 d2
    injection hF with hF
    subst hF
    have hg := hok.guard
    have hg' := hg
    simp only [Bool.and_eq_true, Nat.ble_eq, Nat.beq_eq, decide_eq_true_eq] at hg'
    obtain ⟨⟨⟨⟨⟨⟨⟨rfl, rfl⟩, rfl⟩, rfl⟩, rfl⟩, rfl⟩, hlp⟩, hlq⟩ := hg'
    refine for_fact (ids := [288, 48, 49, 176, 177, 0]) (fun _ => true) (lp) (I104i lp lq s t r a0 a1 a2 b0 b1 b2 c0 c1 c2 d0 d1 d2 n cur n2 cur2 x y z x2 y2 z2 cl cl2) (J104i lp lq s t r a0 a1 a2 b0 b1 b2 c0 c1 c2 d0 d1 d2 n cur n2 cur2 x y z x2 y2 z2 cl cl2) _ (.ret) (I104i lp lq s t r a0 a1 a2 b0 b1 b2 c0 c1 c2 d0 d1 d2 n cur n2 cur2 x y z x2 y2 z2 cl cl2) (I104i lp lq s t r a0 a1 a2 b0 b1 b2 c0 c1 c2 d0 d1 d2 n cur n2 cur2 x y z x2 y2 z2 cl cl2) (I104i lp lq s t r a0 a1 a2 b0 b1 b2 c0 c1 c2 d0 d1 d2 n cur n2 cur2 x y z x2 y2 z2 cl cl2 (lp)) (J104i lp lq s t r a0 a1 a2 b0 b1 b2 c0 c1 c2 d0 d1 d2 n cur n2 cur2 x y z x2 y2 z2 cl cl2 (lp)) rfl (OSims.self _) (fun _ => rfl) (fun _ => rfl) (fun _ => ALe.self _) (fun _ => rfl) (ALe.self _) (OSims.self _) rfl (fun h => by cases h) (fun k hk L h1 h2 h3 => ?_) fun L hL => ?_
    · rw [round104i]

      by_cases hkm : k < lp
      · refine condT (lt_dec hkm) ?_
        rw [wrap_succ (by omega)]
        refine condT (by rw [Nat.beq_refl, Nat.beq_refl, ble_of hlq, lt_blt hkm]; rfl) ?_
        exact h1 hkm rfl _ (OSims.self (J104i lp lq s t r a0 a1 a2 b0 b1 b2 c0 c1 c2 d0 d1 d2 n cur n2 cur2 x y z x2 y2 z2 cl cl2 (k + 1)))
      · refine condE (ge_dec (by omega)) ?_
        obtain rfl : k = lp := by omega
        exact h3 rfl
    · exact ⟨fun _ => hL.1 hg, fun N _ h => by cases h⟩
  · cases hF

end Go.Fw.W1

/-
  Forces between wires: the law.
-/
namespace Go.Fw.W1
open Go.Proofs

noncomputable def two3 (n cur : Nat) (x y z : Nat → Nat) (n2 cur2 : Nat) (x2 y2 z2 : Nat → Nat) (p : Int) : Bool := bif bif okW n cur x y z then okW n2 cur2 x2 y2 z2 else false then inI p 1 8 else false
theorem two3_ok {n cur : Nat} {x y z : Nat → Nat} {n2 cur2 : Nat} {x2 y2 z2 : Nat → Nat} {p : Int} (h : two3 n cur x y z n2 cur2 x2 y2 z2 p = true) : (2 ≤ n ∧ n ≤ 48) ∧ (2 ≤ n2 ∧ n2 ≤ 48) ∧ 1 ≤ p ∧ p ≤ 8 := by
  unfold two3 at h
  cases h1 : okW n cur x y z
  · rw [h1] at h; cases h
  cases h2 : okW n2 cur2 x2 y2 z2
  · rw [h1, h2] at h; cases h
  rw [h1, h2] at h
  have h4 : inI p 1 8 = true := h
  unfold inI at h4
  cases h5 : decide (p ≥ 1)
  · rw [h5] at h4; cases h4
  · rw [h5] at h4
    exact ⟨okW_n h1, okW_n h2, of_decide_eq_true h5, of_decide_eq_true h4⟩
theorem not_two3 (n cur : Nat) (x y z : Nat → Nat) (n2 cur2 : Nat) (x2 y2 z2 : Nat → Nat) (p : Int) : (bif bif !okW n cur x y z then true else !okW n2 cur2 x2 y2 z2 then true else !inI p (Int.ofNat 1) (Int.ofNat 8)) = !two3 n cur x y z n2 cur2 x2 y2 z2 p := by
  show (bif bif !okW n cur x y z then true else !okW n2 cur2 x2 y2 z2 then true else !inI p 1 8) = _
  unfold two3
  cases okW n cur x y z <;> cases okW n2 cur2 x2 y2 z2 <;> cases inI p 1 8 <;> rfl
theorem two3_neg (n cur : Nat) (x y z : Nat → Nat) (n2 cur2 : Nat) (x2 y2 z2 : Nat → Nat) (pp : Nat) : two3 n cur x y z n2 cur2 x2 y2 z2 (Int.negSucc pp) = false := by
  cases h : two3 n cur x y z n2 cur2 x2 y2 z2 (Int.negSucc pp)
  · rfl
  · have := (two3_ok h).2.2.1; omega
noncomputable def fwXb (n cur : Nat) (x y z : Nat → Nat) (cl : Bool) (n2 cur2 : Nat) (x2 y2 z2 : Nat → Nat) (cl2 : Bool) (pp : Nat) : Nat := fop .mul .f32 (foX (pc (sg n x y z) pp) (pc (sg n2 x2 y2 z2) pp) (pp * cnt n2 cl2) 0 (pp * cnt n cl)) (fop .mul .f32 cur cur2)
noncomputable def fwYb (n cur : Nat) (x y z : Nat → Nat) (cl : Bool) (n2 cur2 : Nat) (x2 y2 z2 : Nat → Nat) (cl2 : Bool) (pp : Nat) : Nat := fop .mul .f32 (foY (pc (sg n x y z) pp) (pc (sg n2 x2 y2 z2) pp) (pp * cnt n2 cl2) 0 (pp * cnt n cl)) (fop .mul .f32 cur cur2)
noncomputable def fwZb (n cur : Nat) (x y z : Nat → Nat) (cl : Bool) (n2 cur2 : Nat) (x2 y2 z2 : Nat → Nat) (cl2 : Bool) (pp : Nat) : Nat := fop .mul .f32 (foZ (pc (sg n x y z) pp) (pc (sg n2 x2 y2 z2) pp) (pp * cnt n2 cl2) 0 (pp * cnt n cl)) (fop .mul .f32 cur cur2)
noncomputable def fbOk (n cur : Nat) (x y z : Nat → Nat) (cl : Bool) (n2 cur2 : Nat) (x2 y2 z2 : Nat → Nat) (cl2 : Bool) (pp : Nat) : Bool := two3 n cur x y z n2 cur2 x2 y2 z2 (Int.ofNat pp) && vfin (fwXb n cur x y z cl n2 cur2 x2 y2 z2 cl2 pp) (fwYb n cur x y z cl n2 cur2 x2 y2 z2 cl2 pp) (fwZb n cur x y z cl n2 cur2 x2 y2 z2 cl2 pp)
noncomputable def lp104 : List (Nat × (St → T)) := [(0, sumAt Try.f104.ntmps 336 [0, 1, 6, 7, 8, 9, 10, 11, 12] [288, 48, 49, 176, 177, 0] F104i)]
theorem lp104_ok : LpOK Try.prog (look lp104) (bodyOf Try.f104) := lp_loops (by kernel_rfl) (by kernel_rfl) fun p hp => by
  simp only [lp104, List.mem_cons, List.not_mem_nil, or_false] at hp
  rcases hp with rfl
  · exact loop104i
theorem auto104 (n cur n2 cur2 pp : Nat) (x y z x2 y2 z2 : Nat → Nat) (cl cl2 : Bool) : autoLp cfg22 (look lp104) Try.f104 [.rop (.agg [.ro 3 n (.vecs .f32 x y z), .bool cl, .flt .f32 cur]) 0, .rop (.agg [.ro 3 n2 (.vecs .f32 x2 y2 z2), .bool cl2, .flt .f32 cur2]) 0, .int .i64 (.ofNat pp)] =
    some (Nat.ble 1 n && n.ble 1000 && pp.ble 32 && (Nat.ble 1 n2 && n2.ble 1000 && pp.ble 32 && ((pp * cnt n cl).beq (pp * cnt n cl) && (pp * cnt n cl).beq (pp * cnt n cl) && (pp * cnt n cl).beq (pp * cnt n cl) && (pp * cnt n2 cl2).beq (pp * cnt n2 cl2) && (pp * cnt n2 cl2).beq (pp * cnt n2 cl2) && (pp * cnt n2 cl2).beq (pp * cnt n2 cl2) && (pp * cnt n cl).ble 100000 && (pp * cnt n2 cl2).ble 100000 && true)), A.agg [A.flt FloatKind.f32 (fop BinOp.mul FloatKind.f32 (foX (six (fun j => pc (sg n x y z) pp j 0) (fun j => pc (sg n x y z) pp j 1) (fun j => pc (sg n x y z) pp j 2) (fun j => pc (sg n x y z) pp j 3) (fun j => pc (sg n x y z) pp j 4) fun j => pc (sg n x y z) pp j 5) (six (fun j => pc (sg n2 x2 y2 z2) pp j 0) (fun j => pc (sg n2 x2 y2 z2) pp j 1) (fun j => pc (sg n2 x2 y2 z2) pp j 2) (fun j => pc (sg n2 x2 y2 z2) pp j 3) (fun j => pc (sg n2 x2 y2 z2) pp j 4) fun j => pc (sg n2 x2 y2 z2) pp j 5) (pp * cnt n2 cl2) 0 (pp * cnt n cl)) (fop BinOp.mul FloatKind.f32 cur cur2)), A.flt FloatKind.f32 (fop BinOp.mul FloatKind.f32 (foY (six (fun j => pc (sg n x y z) pp j 0) (fun j => pc (sg n x y z) pp j 1) (fun j => pc (sg n x y z) pp j 2) (fun j => pc (sg n x y z) pp j 3) (fun j => pc (sg n x y z) pp j 4) fun j => pc (sg n x y z) pp j 5) (six (fun j => pc (sg n2 x2 y2 z2) pp j 0) (fun j => pc (sg n2 x2 y2 z2) pp j 1) (fun j => pc (sg n2 x2 y2 z2) pp j 2) (fun j => pc (sg n2 x2 y2 z2) pp j 3) (fun j => pc (sg n2 x2 y2 z2) pp j 4) fun j => pc (sg n2 x2 y2 z2) pp j 5) (pp * cnt n2 cl2) 0 (pp * cnt n cl)) (fop BinOp.mul FloatKind.f32 cur cur2)), A.flt FloatKind.f32 (fop BinOp.mul FloatKind.f32 (foZ (six (fun j => pc (sg n x y z) pp j 0) (fun j => pc (sg n x y z) pp j 1) (fun j => pc (sg n x y z) pp j 2) (fun j => pc (sg n x y z) pp j 3) (fun j => pc (sg n x y z) pp j 4) fun j => pc (sg n x y z) pp j 5) (six (fun j => pc (sg n2 x2 y2 z2) pp j 0) (fun j => pc (sg n2 x2 y2 z2) pp j 1) (fun j => pc (sg n2 x2 y2 z2) pp j 2) (fun j => pc (sg n2 x2 y2 z2) pp j 3) (fun j => pc (sg n2 x2 y2 z2) pp j 4) fun j => pc (sg n2 x2 y2 z2) pp j 5) (pp * cnt n2 cl2) 0 (pp * cnt n cl)) (fop BinOp.mul FloatKind.f32 cur cur2))]) := by kernel_rfl
noncomputable def s104 : List A → Option (Bool × A)
  | [.rop (.agg [.ro 3 n (.vecs .f32 x y z), .bool cl, .flt .f32 cur]) 0, .rop (.agg [.ro 3 n2 (.vecs .f32 x2 y2 z2), .bool cl2, .flt .f32 cur2]) 0, .int .i64 (.ofNat pp)] => some (Nat.ble 1 n && Nat.ble n 1000 && Nat.ble 1 n2 && Nat.ble n2 1000 && Nat.ble pp 32, .agg [.flt .f32 (fwXb n cur x y z cl n2 cur2 x2 y2 z2 cl2 pp), .flt .f32 (fwYb n cur x y z cl n2 cur2 x2 y2 z2 cl2 pp), .flt .f32 (fwZb n cur x y z cl n2 cur2 x2 y2 z2 cl2 pp)])
  | _ => none
theorem s104_at : EnvAt Try.prog 104 s104 := of_auto cfg22_ok lp104_ok Try.func104 (by kernel_rfl) (by kernel_rfl) fun ds cc rr h hc => by
  unfold s104 at h
  split at h
  · rename_i n x y z cl cur n2 x2 y2 z2 cl2 cur2 pp
    simp only [Option.some.injEq, Prod.mk.injEq] at h
    obtain ⟨rfl, rfl⟩ := h
    refine auto_fit (auto104 n cur n2 cur2 pp x y z x2 y2 z2 cl cl2) ?_ ?_
    · unfold fwXb fwYb fwZb; rw [← six_pc (sg n x y z) pp, ← six_pc (sg n2 x2 y2 z2) pp]; rfl
    · simp only [Bool.and_eq_true, Nat.ble_eq] at hc
      obtain ⟨⟨⟨⟨k1, k2⟩, k3⟩, k4⟩, k5⟩ := hc
      rw [ble_of k1, ble_of k2, ble_of k3, ble_of k4, ble_of k5, Nat.beq_refl, Nat.beq_refl, ble_of (pcnt_le (cl := cl) k2 k5), ble_of (pcnt_le (cl := cl2) k4 k5)]; rfl
  · cases h

noncomputable def env23 : List (Nat × (List A → Option (Bool × A))) := (104, s104) :: env22
theorem env23_ok : EnvOK Try.prog (look env23) := (env_cons s104_at env22_ok)
noncomputable def cfg23 : Cfg := mkCfg tab [] xts (look env23)
theorem cfg23_ok : CfgOK Try.prog cfg23 := cfg_ok tab_eq (no_fts _) xts_ok env23_ok mixed
theorem auto47a (n cur n2 cur2 pp : Nat) (x y z x2 y2 z2 : Nat → Nat) (cl cl2 : Bool) : autoLp cfg23 (fun _ => none) Try.f47 [.agg [.ro 3 n (.vecs .f32 x y z), .bool cl, .flt .f32 cur], .agg [.ro 3 n2 (.vecs .f32 x2 y2 z2), .bool cl2, .flt .f32 cur2], .int .i64 (.ofNat pp)] =
    some (n.ble 4611686018427387000 && ((n2.ble 4611686018427387000 || !(!okW n cur x y z) == false) && bif bif bif !okW n cur x y z then true else !okW n2 cur2 x2 y2 z2 then true else !inI (Int.ofNat pp) (Int.ofNat 1) (Int.ofNat 8) then true else Nat.ble 1 n && n.ble 1000 && Nat.ble 1 n2 && n2.ble 1000 && pp.ble 32 && true), A.tup [A.agg [A.flt FloatKind.f32 (bif bif bif !okW n cur x y z then true else !okW n2 cur2 x2 y2 z2 then true else !inI (Int.ofNat pp) (Int.ofNat 1) (Int.ofNat 8) then 0 else bif vfin (fwXb n cur x y z cl n2 cur2 x2 y2 z2 cl2 pp) (fwYb n cur x y z cl n2 cur2 x2 y2 z2 cl2 pp) (fwZb n cur x y z cl n2 cur2 x2 y2 z2 cl2 pp) then fwXb n cur x y z cl n2 cur2 x2 y2 z2 cl2 pp else can FloatKind.f32 0), A.flt FloatKind.f32 (bif bif bif !okW n cur x y z then true else !okW n2 cur2 x2 y2 z2 then true else !inI (Int.ofNat pp) (Int.ofNat 1) (Int.ofNat 8) then 0 else bif vfin (fwXb n cur x y z cl n2 cur2 x2 y2 z2 cl2 pp) (fwYb n cur x y z cl n2 cur2 x2 y2 z2 cl2 pp) (fwZb n cur x y z cl n2 cur2 x2 y2 z2 cl2 pp) then fwYb n cur x y z cl n2 cur2 x2 y2 z2 cl2 pp else can FloatKind.f32 0), A.flt FloatKind.f32 (bif bif bif !okW n cur x y z then true else !okW n2 cur2 x2 y2 z2 then true else !inI (Int.ofNat pp) (Int.ofNat 1) (Int.ofNat 8) then 0 else bif vfin (fwXb n cur x y z cl n2 cur2 x2 y2 z2 cl2 pp) (fwYb n cur x y z cl n2 cur2 x2 y2 z2 cl2 pp) (fwZb n cur x y z cl n2 cur2 x2 y2 z2 cl2 pp) then fwZb n cur x y z cl n2 cur2 x2 y2 z2 cl2 pp else can FloatKind.f32 0)], A.bool (bif bif bif !okW n cur x y z then true else !okW n2 cur2 x2 y2 z2 then true else !inI (Int.ofNat pp) (Int.ofNat 1) (Int.ofNat 8) then false else vfin (fwXb n cur x y z cl n2 cur2 x2 y2 z2 cl2 pp) (fwYb n cur x y z cl n2 cur2 x2 y2 z2 cl2 pp) (fwZb n cur x y z cl n2 cur2 x2 y2 z2 cl2 pp))]) := by kernel_rfl
noncomputable def s47a : List A → Option (Bool × A)
  | [.agg [.ro 3 n (.vecs .f32 x y z), .bool cl, .flt .f32 cur], .agg [.ro 3 n2 (.vecs .f32 x2 y2 z2), .bool cl2, .flt .f32 cur2], .int .i64 (.ofNat pp)] => some (Nat.ble n 1048576 && Nat.ble n2 1048576, .tup [.agg [.flt .f32 (bif fbOk n cur x y z cl n2 cur2 x2 y2 z2 cl2 pp then fwXb n cur x y z cl n2 cur2 x2 y2 z2 cl2 pp else 0), .flt .f32 (bif fbOk n cur x y z cl n2 cur2 x2 y2 z2 cl2 pp then fwYb n cur x y z cl n2 cur2 x2 y2 z2 cl2 pp else 0), .flt .f32 (bif fbOk n cur x y z cl n2 cur2 x2 y2 z2 cl2 pp then fwZb n cur x y z cl n2 cur2 x2 y2 z2 cl2 pp else 0)], .bool (fbOk n cur x y z cl n2 cur2 x2 y2 z2 cl2 pp)])
  | _ => none
theorem s47a_at : EnvAt Try.prog 47 s47a := of_auto cfg23_ok (lp_none _) Try.func47 (by kernel_rfl) (by kernel_rfl) fun ds cc rr h hc => by
  unfold s47a at h
  split at h
  · rename_i n x y z cl cur n2 x2 y2 z2 cl2 cur2 pp
    simp only [Option.some.injEq, Prod.mk.injEq] at h
    obtain ⟨rfl, rfl⟩ := h
    refine auto_fit (auto47a n cur n2 cur2 pp x y z x2 y2 z2 cl cl2) ?_ ?_
    · rw [not_two3]
      unfold fbOk
      cases two3 n cur x y z n2 cur2 x2 y2 z2 (Int.ofNat pp) <;> rfl
    · simp only [Bool.and_eq_true, Nat.ble_eq] at hc
      rw [ble_of (show n ≤ 4611686018427387000 by omega), ble_of (show n2 ≤ 4611686018427387000 by omega), not_two3]
      cases ht : two3 n cur x y z n2 cur2 x2 y2 z2 (Int.ofNat pp)
      · simp
      · obtain ⟨k1, k2, k3, k4⟩ := two3_ok ht
        simp at k4
        rw [ble_of (show 1 ≤ n by omega), ble_of (show n ≤ 1000 by omega), ble_of (show 1 ≤ n2 by omega), ble_of (show n2 ≤ 1000 by omega), ble_of (show pp ≤ 32 by omega)]
        simp
  · cases h

theorem auto47b (n cur n2 cur2 pp : Nat) (x y z x2 y2 z2 : Nat → Nat) (cl cl2 : Bool) : autoS cfg23 (fun _ => none) true Try.f47 [.agg [.ro 3 n (.vecs .f32 x y z), .bool cl, .flt .f32 cur], .agg [.ro 3 n2 (.vecs .f32 x2 y2 z2), .bool cl2, .flt .f32 cur2], .int .i64 (.negSucc pp)] =
    some (n.ble 4611686018427387000 && ((n2.ble 4611686018427387000 || !(!okW n cur x y z) == false) && ((bif bif !okW n cur x y z then true else !okW n2 cur2 x2 y2 z2 then true else !inI (Int.negSucc pp) (Int.ofNat 1) (Int.ofNat 8)) && true)), A.tup [A.agg [A.flt FloatKind.f32 0, A.flt FloatKind.f32 0, A.flt FloatKind.f32 0], A.bool false]) := by kernel_rfl
noncomputable def s47b : List A → Option (Bool × A)
  | [.agg [.ro 3 n (.vecs .f32 x y z), .bool cl, .flt .f32 cur], .agg [.ro 3 n2 (.vecs .f32 x2 y2 z2), .bool cl2, .flt .f32 cur2], .int .i64 (.negSucc pp)] => some (Nat.ble n 1048576 && Nat.ble n2 1048576, .tup [.agg [.flt .f32 0, .flt .f32 0, .flt .f32 0], .bool false])
  | _ => none
theorem s47b_at : EnvAt Try.prog 47 s47b := of_autoS cfg23_ok (lp_none _) Try.func47 (by kernel_rfl) (by kernel_rfl) fun ds cc rr h hc => by
  unfold s47b at h
  split at h
  · rename_i n x y z cl cur n2 x2 y2 z2 cl2 cur2 pp
    simp only [Option.some.injEq, Prod.mk.injEq] at h
    obtain ⟨rfl, rfl⟩ := h
    refine auto_fit (auto47b n cur n2 cur2 pp x y z x2 y2 z2 cl cl2) ?_ ?_
    · rfl
    · simp only [Bool.and_eq_true, Nat.ble_eq] at hc
      rw [ble_of (show n ≤ 4611686018427387000 by omega), ble_of (show n2 ≤ 4611686018427387000 by omega), not_two3, two3_neg]
      simp
  · cases h

noncomputable def s47 : List A → Option (Bool × A)
  | [a, b, .int .i64 (.ofNat pp)] => s47a [a, b, .int .i64 (.ofNat pp)]
  | ds => s47b ds
theorem s47_at : EnvAt Try.prog 47 s47 := by
  refine ⟨s47a_at.1, fun ds c r h hc => ?_⟩
  unfold s47 at h
  split at h
  · exact s47a_at.2 _ _ _ h hc
  · exact s47b_at.2 _ _ _ h hc
noncomputable def lp48a : List (Nat × (St → T)) := [(0, sumAt Try.f48.ntmps 464 [3, 4, 6, 7, 8, 9, 36, 37, 38] [288, 352, 416, 32, 16, 0] F48i)]
theorem lp48a_ok : LpOK Try.prog (look lp48a) (bodyOf Try.f48) := lp_loops (by kernel_rfl) (by kernel_rfl) fun p hp => by
  simp only [lp48a, List.mem_cons, List.not_mem_nil, or_false] at hp
  rcases hp with rfl
  · exact loop48i
theorem auto48a (n cur n2 cur2 pp : Nat) (x y z x2 y2 z2 : Nat → Nat) (cl cl2 : Bool) : autoLp cfg23 (look lp48a) Try.f48 [.agg [.ro 3 n (.vecs .f32 x y z), .bool cl, .flt .f32 cur], .agg [.ro 3 n2 (.vecs .f32 x2 y2 z2), .bool cl2, .flt .f32 cur2], .int .i64 (.ofNat pp)] =
    some (n.ble 4611686018427387000 && ((n2.ble 4611686018427387000 || !(!okW n cur x y z) == false) && bif bif bif !okW n cur x y z then true else !okW n2 cur2 x2 y2 z2 then true else !inI (Int.ofNat pp) (Int.ofNat 1) (Int.ofNat 8) then true else Nat.ble 1 n2 && n2.ble 1000 && pp.ble 32 && (Nat.ble 1 n && n.ble 1000 && pp.ble 32 && (decide (Int.ofNat (pp * cnt n cl) = Int.ofNat (pp * cnt n cl)) && (pp * cnt n cl).beq (pp * cnt n cl) && (pp * cnt n2 cl2).beq (pp * cnt n2 cl2) && (pp * cnt n2 cl2).ble 100000 && (pp * cnt n cl).ble 100000 && true))), A.tup [A.agg [A.flt FloatKind.f32 (bif bif bif !okW n cur x y z then true else !okW n2 cur2 x2 y2 z2 then true else !inI (Int.ofNat pp) (Int.ofNat 1) (Int.ofNat 8) then 0 else bif vfin (fop BinOp.mul FloatKind.f32 (foX (pc (sg n x y z) pp) (pc (sg n2 x2 y2 z2) pp) (pp * cnt n2 cl2) 0 (pp * cnt n cl)) (fop BinOp.mul FloatKind.f32 cur cur2)) (fop BinOp.mul FloatKind.f32 (foY (pc (sg n x y z) pp) (pc (sg n2 x2 y2 z2) pp) (pp * cnt n2 cl2) 0 (pp * cnt n cl)) (fop BinOp.mul FloatKind.f32 cur cur2)) (fop BinOp.mul FloatKind.f32 (foZ (pc (sg n x y z) pp) (pc (sg n2 x2 y2 z2) pp) (pp * cnt n2 cl2) 0 (pp * cnt n cl)) (fop BinOp.mul FloatKind.f32 cur cur2)) then fop BinOp.mul FloatKind.f32 (foX (pc (sg n x y z) pp) (pc (sg n2 x2 y2 z2) pp) (pp * cnt n2 cl2) 0 (pp * cnt n cl)) (fop BinOp.mul FloatKind.f32 cur cur2) else can FloatKind.f32 0), A.flt FloatKind.f32 (bif bif bif !okW n cur x y z then true else !okW n2 cur2 x2 y2 z2 then true else !inI (Int.ofNat pp) (Int.ofNat 1) (Int.ofNat 8) then 0 else bif vfin (fop BinOp.mul FloatKind.f32 (foX (pc (sg n x y z) pp) (pc (sg n2 x2 y2 z2) pp) (pp * cnt n2 cl2) 0 (pp * cnt n cl)) (fop BinOp.mul FloatKind.f32 cur cur2)) (fop BinOp.mul FloatKind.f32 (foY (pc (sg n x y z) pp) (pc (sg n2 x2 y2 z2) pp) (pp * cnt n2 cl2) 0 (pp * cnt n cl)) (fop BinOp.mul FloatKind.f32 cur cur2)) (fop BinOp.mul FloatKind.f32 (foZ (pc (sg n x y z) pp) (pc (sg n2 x2 y2 z2) pp) (pp * cnt n2 cl2) 0 (pp * cnt n cl)) (fop BinOp.mul FloatKind.f32 cur cur2)) then fop BinOp.mul FloatKind.f32 (foY (pc (sg n x y z) pp) (pc (sg n2 x2 y2 z2) pp) (pp * cnt n2 cl2) 0 (pp * cnt n cl)) (fop BinOp.mul FloatKind.f32 cur cur2) else can FloatKind.f32 0), A.flt FloatKind.f32 (bif bif bif !okW n cur x y z then true else !okW n2 cur2 x2 y2 z2 then true else !inI (Int.ofNat pp) (Int.ofNat 1) (Int.ofNat 8) then 0 else bif vfin (fop BinOp.mul FloatKind.f32 (foX (pc (sg n x y z) pp) (pc (sg n2 x2 y2 z2) pp) (pp * cnt n2 cl2) 0 (pp * cnt n cl)) (fop BinOp.mul FloatKind.f32 cur cur2)) (fop BinOp.mul FloatKind.f32 (foY (pc (sg n x y z) pp) (pc (sg n2 x2 y2 z2) pp) (pp * cnt n2 cl2) 0 (pp * cnt n cl)) (fop BinOp.mul FloatKind.f32 cur cur2)) (fop BinOp.mul FloatKind.f32 (foZ (pc (sg n x y z) pp) (pc (sg n2 x2 y2 z2) pp) (pp * cnt n2 cl2) 0 (pp * cnt n cl)) (fop BinOp.mul FloatKind.f32 cur cur2)) then fop BinOp.mul FloatKind.f32 (foZ (pc (sg n x y z) pp) (pc (sg n2 x2 y2 z2) pp) (pp * cnt n2 cl2) 0 (pp * cnt n cl)) (fop BinOp.mul FloatKind.f32 cur cur2) else can FloatKind.f32 0)], A.bool (bif bif bif !okW n cur x y z then true else !okW n2 cur2 x2 y2 z2 then true else !inI (Int.ofNat pp) (Int.ofNat 1) (Int.ofNat 8) then false else vfin (fop BinOp.mul FloatKind.f32 (foX (pc (sg n x y z) pp) (pc (sg n2 x2 y2 z2) pp) (pp * cnt n2 cl2) 0 (pp * cnt n cl)) (fop BinOp.mul FloatKind.f32 cur cur2)) (fop BinOp.mul FloatKind.f32 (foY (pc (sg n x y z) pp) (pc (sg n2 x2 y2 z2) pp) (pp * cnt n2 cl2) 0 (pp * cnt n cl)) (fop BinOp.mul FloatKind.f32 cur cur2)) (fop BinOp.mul FloatKind.f32 (foZ (pc (sg n x y z) pp) (pc (sg n2 x2 y2 z2) pp) (pp * cnt n2 cl2) 0 (pp * cnt n cl)) (fop BinOp.mul FloatKind.f32 cur cur2)))]) := by kernel_rfl
noncomputable def s48a : List A → Option (Bool × A)
  | [.agg [.ro 3 n (.vecs .f32 x y z), .bool cl, .flt .f32 cur], .agg [.ro 3 n2 (.vecs .f32 x2 y2 z2), .bool cl2, .flt .f32 cur2], .int .i64 (.ofNat pp)] => some (Nat.ble n 1048576 && Nat.ble n2 1048576, .tup [.agg [.flt .f32 (bif fbOk n cur x y z cl n2 cur2 x2 y2 z2 cl2 pp then fwXb n cur x y z cl n2 cur2 x2 y2 z2 cl2 pp else 0), .flt .f32 (bif fbOk n cur x y z cl n2 cur2 x2 y2 z2 cl2 pp then fwYb n cur x y z cl n2 cur2 x2 y2 z2 cl2 pp else 0), .flt .f32 (bif fbOk n cur x y z cl n2 cur2 x2 y2 z2 cl2 pp then fwZb n cur x y z cl n2 cur2 x2 y2 z2 cl2 pp else 0)], .bool (fbOk n cur x y z cl n2 cur2 x2 y2 z2 cl2 pp)])
  | _ => none
theorem s48a_at : EnvAt Try.prog 48 s48a := of_auto cfg23_ok lp48a_ok Try.func48 (by kernel_rfl) (by kernel_rfl) fun ds cc rr h hc => by
  unfold s48a at h
  split at h
  · rename_i n x y z cl cur n2 x2 y2 z2 cl2 cur2 pp
    simp only [Option.some.injEq, Prod.mk.injEq] at h
    obtain ⟨rfl, rfl⟩ := h
    refine auto_fit (auto48a n cur n2 cur2 pp x y z x2 y2 z2 cl cl2) ?_ ?_
    · rw [not_two3]
      unfold fbOk
      cases two3 n cur x y z n2 cur2 x2 y2 z2 (Int.ofNat pp) <;> rfl
    · simp only [Bool.and_eq_true, Nat.ble_eq] at hc
      rw [ble_of (show n ≤ 4611686018427387000 by omega), ble_of (show n2 ≤ 4611686018427387000 by omega), not_two3]
      cases ht : two3 n cur x y z n2 cur2 x2 y2 z2 (Int.ofNat pp)
      · simp
      · obtain ⟨k1, k2, k3, k4⟩ := two3_ok ht
        simp at k4
        rw [ble_of (show 1 ≤ n by omega), ble_of (show n ≤ 1000 by omega), ble_of (show 1 ≤ n2 by omega), ble_of (show n2 ≤ 1000 by omega), ble_of (show pp ≤ 32 by omega), decide_eq_true rfl, Nat.beq_refl, Nat.beq_refl, ble_of (pcnt_le (cl := cl) (show n ≤ 1000 by omega) (show pp ≤ 32 by omega)), ble_of (pcnt_le (cl := cl2) (show n2 ≤ 1000 by omega) (show pp ≤ 32 by omega))]
        simp
  · cases h

noncomputable def lp48b : List (Nat × (St → T)) := [(0, sumAt Try.f48.ntmps 464 [3, 4, 6, 7, 8, 9, 36, 37, 38] [288, 352, 416, 32, 16, 0] F48i)]
theorem lp48b_ok : LpOK Try.prog (look lp48b) (bodyOf Try.f48) := lp_loops (by kernel_rfl) (by kernel_rfl) fun p hp => by
  simp only [lp48b, List.mem_cons, List.not_mem_nil, or_false] at hp
  rcases hp with rfl
  · exact loop48i
theorem auto48b (n cur n2 cur2 pp : Nat) (x y z x2 y2 z2 : Nat → Nat) (cl cl2 : Bool) : autoS cfg23 (look lp48b) true Try.f48 [.agg [.ro 3 n (.vecs .f32 x y z), .bool cl, .flt .f32 cur], .agg [.ro 3 n2 (.vecs .f32 x2 y2 z2), .bool cl2, .flt .f32 cur2], .int .i64 (.negSucc pp)] =
    some (n.ble 4611686018427387000 && ((n2.ble 4611686018427387000 || !(!okW n cur x y z) == false) && ((bif bif !okW n cur x y z then true else !okW n2 cur2 x2 y2 z2 then true else !inI (Int.negSucc pp) (Int.ofNat 1) (Int.ofNat 8)) && true)), A.tup [A.agg [A.flt FloatKind.f32 0, A.flt FloatKind.f32 0, A.flt FloatKind.f32 0], A.bool false]) := by kernel_rfl
noncomputable def s48b : List A → Option (Bool × A)
  | [.agg [.ro 3 n (.vecs .f32 x y z), .bool cl, .flt .f32 cur], .agg [.ro 3 n2 (.vecs .f32 x2 y2 z2), .bool cl2, .flt .f32 cur2], .int .i64 (.negSucc pp)] => some (Nat.ble n 1048576 && Nat.ble n2 1048576, .tup [.agg [.flt .f32 0, .flt .f32 0, .flt .f32 0], .bool false])
  | _ => none
theorem s48b_at : EnvAt Try.prog 48 s48b := of_autoS cfg23_ok lp48b_ok Try.func48 (by kernel_rfl) (by kernel_rfl) fun ds cc rr h hc => by
  unfold s48b at h
  split at h
  · rename_i n x y z cl cur n2 x2 y2 z2 cl2 cur2 pp
    simp only [Option.some.injEq, Prod.mk.injEq] at h
    obtain ⟨rfl, rfl⟩ := h
    refine auto_fit (auto48b n cur n2 cur2 pp x y z x2 y2 z2 cl cl2) ?_ ?_
    · rfl
    · simp only [Bool.and_eq_true, Nat.ble_eq] at hc
      rw [ble_of (show n ≤ 4611686018427387000 by omega), ble_of (show n2 ≤ 4611686018427387000 by omega), not_two3, two3_neg]
      simp
  · cases h

noncomputable def s48 : List A → Option (Bool × A)
  | [a, b, .int .i64 (.ofNat pp)] => s48a [a, b, .int .i64 (.ofNat pp)]
  | ds => s48b ds
theorem s48_at : EnvAt Try.prog 48 s48 := by
  refine ⟨s48a_at.1, fun ds c r h hc => ?_⟩
  unfold s48 at h
  split at h
  · exact s48a_at.2 _ _ _ h hc
  · exact s48b_at.2 _ _ _ h hc
noncomputable def env24 : List (Nat × (List A → Option (Bool × A))) := (47, s47) :: (48, s48) :: env23
theorem env24_ok : EnvOK Try.prog (look env24) := (env_cons s47_at (env_cons s48_at env23_ok))
noncomputable def cfg24 : Cfg := mkCfg tab [] xts (look env24)
theorem cfg24_ok : CfgOK Try.prog cfg24 := cfg_ok tab_eq (no_fts _) xts_ok env24_ok mixed
theorem fbP (n cur n2 cur2 pp : Nat) (x y z x2 y2 z2 : Nat → Nat) (cl cl2 : Bool) : autoLp cfg24 (fun _ => none) Try.f11 [.agg [.ro 3 n (.vecs .f32 x y z), .bool cl, .flt .f32 cur], .agg [.ro 3 n2 (.vecs .f32 x2 y2 z2), .bool cl2, .flt .f32 cur2], .int .i64 (.ofNat pp)] =
    some (bif decide (sz1 1048576 n < 0) then true else bif decide (sz1 (sz1 1048576 n) n2 < 0) then true else n.ble 1048576 && n2.ble 1048576 && (n2.ble 1073741824 && (n.ble 1073741824 && true)) && (n.ble 1073741824 && (n2.ble 1073741824 && (n.ble 1048576 && n2.ble 1048576 && bif bif !sameV (bif fbOk n cur x y z cl n2 cur2 x2 y2 z2 cl2 pp then fwXb n cur x y z cl n2 cur2 x2 y2 z2 cl2 pp else 0) (bif fbOk n cur x y z cl n2 cur2 x2 y2 z2 cl2 pp then fwYb n cur x y z cl n2 cur2 x2 y2 z2 cl2 pp else 0) (bif fbOk n cur x y z cl n2 cur2 x2 y2 z2 cl2 pp then fwZb n cur x y z cl n2 cur2 x2 y2 z2 cl2 pp else 0) (bif fbOk n cur x y z cl n2 cur2 x2 y2 z2 cl2 pp then fwXb n cur x y z cl n2 cur2 x2 y2 z2 cl2 pp else 0) (bif fbOk n cur x y z cl n2 cur2 x2 y2 z2 cl2 pp then fwYb n cur x y z cl n2 cur2 x2 y2 z2 cl2 pp else 0) (bif fbOk n cur x y z cl n2 cur2 x2 y2 z2 cl2 pp then fwZb n cur x y z cl n2 cur2 x2 y2 z2 cl2 pp else 0) then true else !fbOk n cur x y z cl n2 cur2 x2 y2 z2 cl2 pp == fbOk n cur x y z cl n2 cur2 x2 y2 z2 cl2 pp then true else n.ble 1073741824 && true && ((n.beq n && n.ble 4611686018427387000 && allUpTo (sameVAt x y z x y z) n && bif !cl == cl then true else bif !sameF (fcvt FloatKind.f32 FloatKind.f64 cur) (fcvt FloatKind.f32 FloatKind.f64 cur) then true else true) && bif !bif !cl == cl then false else bif !sameF (fcvt FloatKind.f32 FloatKind.f64 cur) (fcvt FloatKind.f32 FloatKind.f64 cur) then false else true then true else n2.ble 1073741824 && true && ((n2.beq n2 && n2.ble 4611686018427387000 && allUpTo (sameVAt x2 y2 z2 x2 y2 z2) n2 && bif !cl2 == cl2 then true else bif !sameF (fcvt FloatKind.f32 FloatKind.f64 cur2) (fcvt FloatKind.f32 FloatKind.f64 cur2) then true else true) && bif !bif !cl2 == cl2 then false else bif !sameF (fcvt FloatKind.f32 FloatKind.f64 cur2) (fcvt FloatKind.f32 FloatKind.f64 cur2) then false else true then true else true))))), A.bool (bif decide (sz1 1048576 n < 0) then true else bif decide (sz1 (sz1 1048576 n) n2 < 0) then true else bif bif !sameV (bif fbOk n cur x y z cl n2 cur2 x2 y2 z2 cl2 pp then fwXb n cur x y z cl n2 cur2 x2 y2 z2 cl2 pp else 0) (bif fbOk n cur x y z cl n2 cur2 x2 y2 z2 cl2 pp then fwYb n cur x y z cl n2 cur2 x2 y2 z2 cl2 pp else 0) (bif fbOk n cur x y z cl n2 cur2 x2 y2 z2 cl2 pp then fwZb n cur x y z cl n2 cur2 x2 y2 z2 cl2 pp else 0) (bif fbOk n cur x y z cl n2 cur2 x2 y2 z2 cl2 pp then fwXb n cur x y z cl n2 cur2 x2 y2 z2 cl2 pp else 0) (bif fbOk n cur x y z cl n2 cur2 x2 y2 z2 cl2 pp then fwYb n cur x y z cl n2 cur2 x2 y2 z2 cl2 pp else 0) (bif fbOk n cur x y z cl n2 cur2 x2 y2 z2 cl2 pp then fwZb n cur x y z cl n2 cur2 x2 y2 z2 cl2 pp else 0) then true else !fbOk n cur x y z cl n2 cur2 x2 y2 z2 cl2 pp == fbOk n cur x y z cl n2 cur2 x2 y2 z2 cl2 pp then false else bif !bif !cl == cl then false else bif !sameF (fcvt FloatKind.f32 FloatKind.f64 cur) (fcvt FloatKind.f32 FloatKind.f64 cur) then false else true then false else bif !bif !cl2 == cl2 then false else bif !sameF (fcvt FloatKind.f32 FloatKind.f64 cur2) (fcvt FloatKind.f32 FloatKind.f64 cur2) then false else true then false else true)) := by kernel_rfl
theorem fbN (n cur n2 cur2 pp : Nat) (x y z x2 y2 z2 : Nat → Nat) (cl cl2 : Bool) : autoLp cfg24 (fun _ => none) Try.f11 [.agg [.ro 3 n (.vecs .f32 x y z), .bool cl, .flt .f32 cur], .agg [.ro 3 n2 (.vecs .f32 x2 y2 z2), .bool cl2, .flt .f32 cur2], .int .i64 (.negSucc pp)] =
    some (bif decide (sz1 1048576 n < 0) then true else bif decide (sz1 (sz1 1048576 n) n2 < 0) then true else n.ble 1048576 && n2.ble 1048576 && (n2.ble 1073741824 && (n.ble 1073741824 && true)) && (n.ble 1073741824 && (n2.ble 1073741824 && (n.ble 1048576 && n2.ble 1048576 && bif bif !sameV 0 0 0 0 0 0 then true else false then true else n.ble 1073741824 && true && ((n.beq n && n.ble 4611686018427387000 && allUpTo (sameVAt x y z x y z) n && bif !cl == cl then true else bif !sameF (fcvt FloatKind.f32 FloatKind.f64 cur) (fcvt FloatKind.f32 FloatKind.f64 cur) then true else true) && bif !bif !cl == cl then false else bif !sameF (fcvt FloatKind.f32 FloatKind.f64 cur) (fcvt FloatKind.f32 FloatKind.f64 cur) then false else true then true else n2.ble 1073741824 && true && ((n2.beq n2 && n2.ble 4611686018427387000 && allUpTo (sameVAt x2 y2 z2 x2 y2 z2) n2 && bif !cl2 == cl2 then true else bif !sameF (fcvt FloatKind.f32 FloatKind.f64 cur2) (fcvt FloatKind.f32 FloatKind.f64 cur2) then true else true) && bif !bif !cl2 == cl2 then false else bif !sameF (fcvt FloatKind.f32 FloatKind.f64 cur2) (fcvt FloatKind.f32 FloatKind.f64 cur2) then false else true then true else true))))), A.bool (bif decide (sz1 1048576 n < 0) then true else bif decide (sz1 (sz1 1048576 n) n2 < 0) then true else bif bif !sameV 0 0 0 0 0 0 then true else false then false else bif !bif !cl == cl then false else bif !sameF (fcvt FloatKind.f32 FloatKind.f64 cur) (fcvt FloatKind.f32 FloatKind.f64 cur) then false else true then false else bif !bif !cl2 == cl2 then false else bif !sameF (fcvt FloatKind.f32 FloatKind.f64 cur2) (fcvt FloatKind.f32 FloatKind.f64 cur2) then false else true then false else true)) := by kernel_rfl
theorem law11 {a b : A} {p : Int} (ha : WireA a) (hb : WireA b) (_hp : IntA p) : PureCall Try.prog 11 [a, b, .int .i64 p] (.bool true) := by
  obtain ⟨n, x, y, z, cl, cur, hn, rfl⟩ := ha
  obtain ⟨n2, x2, y2, z2, cl2, cur2, hn2, rfl⟩ := hb
  have key : ∀ pp, (PureCall Try.prog 11 [.agg [.ro 3 n (.vecs .f32 x y z), .bool cl, .flt .f32 cur], .agg [.ro 3 n2 (.vecs .f32 x2 y2 z2), .bool cl2, .flt .f32 cur2], .int .i64 (.ofNat pp)] (.bool true)) ∧ (PureCall Try.prog 11 [.agg [.ro 3 n (.vecs .f32 x y z), .bool cl, .flt .f32 cur], .agg [.ro 3 n2 (.vecs .f32 x2 y2 z2), .bool cl2, .flt .f32 cur2], .int .i64 (.negSucc pp)] (.bool true)) := fun pp => by
    have kP := (auto_at cfg24_ok Try.func11 (by kernel_rfl) (by kernel_rfl)).2 _ _ _ (fbP n cur n2 cur2 pp x y z x2 y2 z2 cl cl2)
    have kN := (auto_at cfg24_ok Try.func11 (by kernel_rfl) (by kernel_rfl)).2 _ _ _ (fbN n cur n2 cur2 pp x y z x2 y2 z2 cl cl2)
    rcases sz1_le (left := 1048576) (n := n) (by omega) (by omega) hn with ⟨e, h1⟩ | ⟨e, h1⟩
    · rw [e] at kP kN; exact ⟨kP rfl, kN rfl⟩
    rw [e, decide_eq_false (p := (1048576 : Int) - (n : Int) < 0) (by omega)] at kP kN
    rcases sz1_le (left := (1048576 : Int) - (n : Int)) (n := n2) (by omega) (by omega) hn2 with ⟨e', h1'⟩ | ⟨e', h1'⟩
    · rw [e'] at kP kN; exact ⟨kP rfl, kN rfl⟩
    rw [e', decide_eq_false (p := (1048576 : Int) - (n : Int) - (n2 : Int) < 0) (by omega)] at kP kN
    have h2 : n ≤ 1048576 := by omega
    have h3 : n2 ≤ 1048576 := by omega
    simp only [sameVs_self, sameV_self, sameF_self, bne_self_eq_false, Bool.cond_self, beq_self_eq_true, Nat.beq_refl, Bool.not_true, cond_false, Bool.and_true, Bool.true_or, ble_of h2, ble_of h3, ble_of (show n ≤ 1073741824 by omega), ble_of (show n ≤ 4611686018427387000 by omega), ble_of (show n2 ≤ 1073741824 by omega), ble_of (show n2 ≤ 4611686018427387000 by omega)] at kP kN
    exact ⟨kP trivial, kN trivial⟩
  cases p with
  | ofNat pp => exact (key pp).1
  | negSucc pp => exact (key pp).2
end Go.Fw.W1

/-
  Lists of wires: fields.
-/
namespace Go.Fw.W1
open Go.Proofs

noncomputable def okAt (n : Nat → Nat) (x y z : Nat → Nat → Nat) (cur : Nat → Nat) (i : Nat) : Bool := okW (n i) (cur i) (x i) (y i) (z i)
theorem W.at_ok {m : Nat} {f : Nat → Bool} (h : allUpTo f m = true) {k : Nat} (hk : k < m) : f k = true := allUpTo_iff.1 h k hk
def smallW (n : Nat → Nat) (i : Nat) : Bool := Nat.ble 1 (n i) && Nat.ble (n i) 1000
theorem smallW_ok {n : Nat → Nat} {k : Nat} (h : smallW n k = true) : 1 ≤ n k ∧ n k ≤ 1000 := by
  unfold smallW at h
  simp only [Bool.and_eq_true, Nat.ble_eq] at h
  exact h
noncomputable def faX (n : Nat → Nat) (x y z : Nat → Nat → Nat) (cl : Nat → Bool) (cur : Nat → Nat) (p q r s : Nat) : Nat → Nat
  | 0 => s
  | k + 1 => fop .add .f32 (faX n x y z cl cur p q r s k) (fwX (n k) (x k) (y k) (z k) (cl k) (cur k) p q r)
noncomputable def faY (n : Nat → Nat) (x y z : Nat → Nat → Nat) (cl : Nat → Bool) (cur : Nat → Nat) (p q r s : Nat) : Nat → Nat
  | 0 => s
  | k + 1 => fop .add .f32 (faY n x y z cl cur p q r s k) (fwY (n k) (x k) (y k) (z k) (cl k) (cur k) p q r)
noncomputable def faZ (n : Nat → Nat) (x y z : Nat → Nat → Nat) (cl : Nat → Bool) (cur : Nat → Nat) (p q r s : Nat) : Nat → Nat
  | 0 => s
  | k + 1 => fop .add .f32 (faZ n x y z cl cur p q r s k) (fwZ (n k) (x k) (y k) (z k) (cl k) (cur k) p q r)
noncomputable def I118 (m : Nat) (n : Nat → Nat) (x y z : Nat → Nat → Nat) (cl : Nat → Bool) (cur : Nat → Nat) (p q r s t u s2 t2 u2 : Nat) (k : Nat) : List A := [.ptr 0 0, .ptr 16 0, .bool false, .ptr 64 0, .ro 3 m (.wires n x y z cl cur), .int .i64 (Int.ofNat m), .int .i64 (Int.ofNat k)]
noncomputable def J118 (m : Nat) (n : Nat → Nat) (x y z : Nat → Nat → Nat) (cl : Nat → Bool) (cur : Nat → Nat) (p q r s t u s2 t2 u2 : Nat) (k : Nat) : List O := [.var [.flt .f32 (faX n x y z cl cur p q r s k), .flt .f32 (faY n x y z cl cur p q r t k), .flt .f32 (faZ n x y z cl cur p q r u k)], .var [.flt .f32 s2, .flt .f32 t2, .flt .f32 u2], .var [.flt .f32 p, .flt .f32 q, .flt .f32 r]]
theorem round118 (m : Nat) (n : Nat → Nat) (x y z : Nat → Nat → Nat) (cl : Nat → Bool) (cur : Nat → Nat) (p q r s t u s2 t2 u2 : Nat) (k : Nat) (L : XK → List A → List (Option O) → Prop) :
    ((exec cfg24 (fun _ => true) (fun _ => none) 0 1000 (loopOf Try.f118 0) (litSt Try.f118.ntmps 144 [3, 4, 5, 6, 10, 11, 12] [64, 16, 0] (I118 m n x y z cl cur p q r s t u s2 t2 u2 k) (J118 m n x y z cl cur p q r s t u s2 t2 u2 k))).rt [3, 4, 5, 6, 10, 11, 12] [64, 16, 0]).Ok L =
    bif decide (Int.ofNat k < Int.ofNat m) then
      bif decide (Int.ofNat k < Int.ofNat m) then
        bif Nat.ble 1 (n k) && (n k).ble 1073741824 && true then
          L (XK.normal) ([A.ptr 0 0, A.ptr 16 0, A.bool false, A.ptr 64 0, A.ro 3 m (Row.wires n x y z cl cur), A.int IntKind.i64 (Int.ofNat m), A.int IntKind.i64 (IntKind.i64.wrap (Int.ofNat k + Int.ofNat 1))]) ([some (O.var [A.flt FloatKind.f32 (fop BinOp.add FloatKind.f32 (faX n x y z cl cur p q r s k) (fwX (n k) (x (Int.ofNat k).toNat) (y (Int.ofNat k).toNat) (z (Int.ofNat k).toNat) (cl k) (cur k) p q r)), A.flt FloatKind.f32 (fop BinOp.add FloatKind.f32 (faY n x y z cl cur p q r t k) (fwY (n k) (x (Int.ofNat k).toNat) (y (Int.ofNat k).toNat) (z (Int.ofNat k).toNat) (cl k) (cur k) p q r)), A.flt FloatKind.f32 (fop BinOp.add FloatKind.f32 (faZ n x y z cl cur p q r u k) (fwZ (n k) (x (Int.ofNat k).toNat) (y (Int.ofNat k).toNat) (z (Int.ofNat k).toNat) (cl k) (cur k) p q r))]), some (O.var [A.flt FloatKind.f32 s2, A.flt FloatKind.f32 t2, A.flt FloatKind.f32 u2]), some (O.var [A.flt FloatKind.f32 p, A.flt FloatKind.f32 q, A.flt FloatKind.f32 r])])
        else
          False
      else
        False
    else
      L (XK.exit 0) ([A.ptr 0 0, A.ptr 16 0, A.bool false, A.ptr 64 0, A.ro 3 m (Row.wires n x y z cl cur), A.int IntKind.i64 (Int.ofNat m), A.int IntKind.i64 (Int.ofNat k)]) ([some (O.var [A.flt FloatKind.f32 (faX n x y z cl cur p q r s k), A.flt FloatKind.f32 (faY n x y z cl cur p q r t k), A.flt FloatKind.f32 (faZ n x y z cl cur p q r u k)]), some (O.var [A.flt FloatKind.f32 s2, A.flt FloatKind.f32 t2, A.flt FloatKind.f32 u2]), some (O.var [A.flt FloatKind.f32 p, A.flt FloatKind.f32 q, A.flt FloatKind.f32 r])]) := by kernel_rfl
noncomputable def F118 : List A → List (Option O) → Option R3
  | [.ptr 0 0, .ptr 16 0, .bool false, .ptr 64 0, .ro 3 m (.wires n x y z cl cur), .int .i64 l, .int .i64 0], [some (.var [.flt .f32 s, .flt .f32 t, .flt .f32 u]), some (.var [.flt .f32 s2, .flt .f32 t2, .flt .f32 u2]), some (.var [.flt .f32 p, .flt .f32 q, .flt .f32 r])] => some (.ite (decide (l = Int.ofNat m) && Nat.ble m 1048576 && allUpTo (smallW n) m) (.leaf .normal (I118 m n x y z cl cur p q r s t u s2 t2 u2 (m)) (J118 m n x y z cl cur p q r s t u s2 t2 u2 (m))) .fail)
  | _, _ => none
theorem loop118 : CodeOK Try.prog (fun _ σ => sumAt Try.f118.ntmps 144 [3, 4, 5, 6, 10, 11, 12] [64, 16, 0] F118 σ) (.block 0 (.loop (loopOf Try.f118 0))) := by
  refine block_ok (own := fun _ => true) (lp := (fun _ => none)) (un := 0) (fuel := 1000) cfg24_ok (lp_none _) fun az os R hF hok => ?_
  unfold F118 at hF
  split at hF
  · rename_i m n x y z cl cur l s t u s2 t2 u2 p q r
    injection hF with hF
    subst hF
    have hg := hok.guard
    have hg' := hg
    simp only [Bool.and_eq_true, Nat.ble_eq, Nat.beq_eq, decide_eq_true_eq] at hg'
    obtain ⟨⟨rfl, hm⟩, hsm⟩ := hg'
    refine for_fact (ids := [64, 16, 0]) (fun _ => true) (m) (I118 m n x y z cl cur p q r s t u s2 t2 u2) (J118 m n x y z cl cur p q r s t u s2 t2 u2) _ (.ret) (I118 m n x y z cl cur p q r s t u s2 t2 u2) (I118 m n x y z cl cur p q r s t u s2 t2 u2) (I118 m n x y z cl cur p q r s t u s2 t2 u2 (m)) (J118 m n x y z cl cur p q r s t u s2 t2 u2 (m)) rfl (OSims.self _) (fun _ => rfl) (fun _ => rfl) (fun _ => ALe.self _) (fun _ => rfl) (ALe.self _) (OSims.self _) rfl (fun h => by cases h) (fun k hk L h1 h2 h3 => ?_) fun L hL => ?_
    · rw [round118]

      by_cases hkm : k < m
      · refine condT (lt_dec hkm) ?_
        obtain ⟨k1, k2⟩ := smallW_ok (W.at_ok hsm hkm)
        rw [wrap_succ (by omega)]
        refine condT (lt_dec hkm) ?_
        refine condT (by rw [ble_of k1, ble_of (show n k ≤ 1073741824 by omega)]; rfl) ?_
        exact h1 hkm rfl _ (OSims.self (J118 m n x y z cl cur p q r s t u s2 t2 u2 (k + 1)))
      · refine condE (ge_dec (by omega)) ?_
        obtain rfl : k = m := by omega
        exact h3 rfl
    · exact ⟨fun _ => hL.1 hg, fun N _ h => by cases h⟩
  · cases hF

noncomputable def I116a (m : Nat) (n : Nat → Nat) (x y z : Nat → Nat → Nat) (cl : Nat → Bool) (cur : Nat → Nat) (p q r s t u s2 t2 u2 : Nat) (k : Nat) : List A := [.ro 3 m (.wires n x y z cl cur), .ptr 0 0, .ptr 16 0, .ptr 80 0, .int .i64 (Int.ofNat k)]
noncomputable def J116a (m : Nat) (n : Nat → Nat) (x y z : Nat → Nat → Nat) (cl : Nat → Bool) (cur : Nat → Nat) (p q r s t u s2 t2 u2 : Nat) (k : Nat) : List O := [.var [.flt .f32 (faX n x y z cl cur p q r s k), .flt .f32 (faY n x y z cl cur p q r t k), .flt .f32 (faZ n x y z cl cur p q r u k)], .var [.flt .f32 s2, .flt .f32 t2, .flt .f32 u2], .var [.flt .f32 p, .flt .f32 q, .flt .f32 r]]
theorem round116a (m : Nat) (n : Nat → Nat) (x y z : Nat → Nat → Nat) (cl : Nat → Bool) (cur : Nat → Nat) (p q r s t u s2 t2 u2 : Nat) (k : Nat) (L : XK → List A → List (Option O) → Prop) :
    ((exec cfg24 (fun _ => true) (fun _ => none) 0 1000 (loopOf Try.f116 0) (litSt Try.f116.ntmps 192 [0, 3, 4, 5, 6] [80, 16, 0] (I116a m n x y z cl cur p q r s t u s2 t2 u2 k) (J116a m n x y z cl cur p q r s t u s2 t2 u2 k))).rt [0, 3, 4, 5, 6] [80, 16, 0]).Ok L =
    bif decide (Int.ofNat k < Int.ofNat m) then
      bif Nat.ble 1 (n k) && (n k).ble 1073741824 && (decide (Int.ofNat k < Int.ofNat m) && true) then
        L (XK.normal) ([A.ro 3 m (Row.wires n x y z cl cur), A.ptr 0 0, A.ptr 16 0, A.ptr 80 0, A.int IntKind.i64 (IntKind.i64.wrap (Int.ofNat k + Int.ofNat 1))]) ([some (O.var [A.flt FloatKind.f32 (fop BinOp.add FloatKind.f32 (faX n x y z cl cur p q r s k) (fwX (n k) (x (Int.ofNat k).toNat) (y (Int.ofNat k).toNat) (z (Int.ofNat k).toNat) (cl k) (cur k) p q r)), A.flt FloatKind.f32 (fop BinOp.add FloatKind.f32 (faY n x y z cl cur p q r t k) (fwY (n k) (x (Int.ofNat k).toNat) (y (Int.ofNat k).toNat) (z (Int.ofNat k).toNat) (cl k) (cur k) p q r)), A.flt FloatKind.f32 (fop BinOp.add FloatKind.f32 (faZ n x y z cl cur p q r u k) (fwZ (n k) (x (Int.ofNat k).toNat) (y (Int.ofNat k).toNat) (z (Int.ofNat k).toNat) (cl k) (cur k) p q r))]), some (O.var [A.flt FloatKind.f32 s2, A.flt FloatKind.f32 t2, A.flt FloatKind.f32 u2]), some (O.var [A.flt FloatKind.f32 p, A.flt FloatKind.f32 q, A.flt FloatKind.f32 r])])
      else
        False
    else
      L (XK.exit 0) ([A.ro 3 m (Row.wires n x y z cl cur), A.ptr 0 0, A.ptr 16 0, A.ptr 80 0, A.int IntKind.i64 (Int.ofNat k)]) ([some (O.var [A.flt FloatKind.f32 (faX n x y z cl cur p q r s k), A.flt FloatKind.f32 (faY n x y z cl cur p q r t k), A.flt FloatKind.f32 (faZ n x y z cl cur p q r u k)]), some (O.var [A.flt FloatKind.f32 s2, A.flt FloatKind.f32 t2, A.flt FloatKind.f32 u2]), some (O.var [A.flt FloatKind.f32 p, A.flt FloatKind.f32 q, A.flt FloatKind.f32 r])]) := by kernel_rfl
noncomputable def F116a : List A → List (Option O) → Option R3
  | [.ro 3 m (.wires n x y z cl cur), .ptr 0 0, .ptr 16 0, .ptr 80 0, .int .i64 0], [some (.var [.flt .f32 s, .flt .f32 t, .flt .f32 u]), some (.var [.flt .f32 s2, .flt .f32 t2, .flt .f32 u2]), some (.var [.flt .f32 p, .flt .f32 q, .flt .f32 r])] => some (.ite (Nat.ble m 1048576 && allUpTo (smallW n) m) (.leaf .normal (I116a m n x y z cl cur p q r s t u s2 t2 u2 (m)) (J116a m n x y z cl cur p q r s t u s2 t2 u2 (m))) .fail)
  | _, _ => none
theorem loop116a : CodeOK Try.prog (fun _ σ => sumAt Try.f116.ntmps 192 [0, 3, 4, 5, 6] [80, 16, 0] F116a σ) (.block 0 (.loop (loopOf Try.f116 0))) := by
  refine block_ok (own := fun _ => true) (lp := (fun _ => none)) (un := 0) (fuel := 1000) cfg24_ok (lp_none _) fun az os R hF hok => ?_
  unfold F116a at hF
  split at hF
  · rename_i m n x y z cl cur s t u s2 t2 u2 p q r
    injection hF with hF
    subst hF
    have hg := hok.guard
    have hg' := hg
    simp only [Bool.and_eq_true, Nat.ble_eq, Nat.beq_eq, decide_eq_true_eq] at hg'
    obtain ⟨hm, hsm⟩ := hg'
    refine for_fact (ids := [80, 16, 0]) (fun _ => true) (m) (I116a m n x y z cl cur p q r s t u s2 t2 u2) (J116a m n x y z cl cur p q r s t u s2 t2 u2) _ (.ret) (I116a m n x y z cl cur p q r s t u s2 t2 u2) (I116a m n x y z cl cur p q r s t u s2 t2 u2) (I116a m n x y z cl cur p q r s t u s2 t2 u2 (m)) (J116a m n x y z cl cur p q r s t u s2 t2 u2 (m)) rfl (OSims.self _) (fun _ => rfl) (fun _ => rfl) (fun _ => ALe.self _) (fun _ => rfl) (ALe.self _) (OSims.self _) rfl (fun h => by cases h) (fun k hk L h1 h2 h3 => ?_) fun L hL => ?_
    · rw [round116a]

      by_cases hkm : k < m
      · refine condT (lt_dec hkm) ?_
        obtain ⟨k1, k2⟩ := smallW_ok (W.at_ok hsm hkm)
        rw [wrap_succ (by omega)]
        refine condT (by rw [ble_of k1, ble_of (show n k ≤ 1073741824 by omega), lt_dec hkm]; rfl) ?_
        exact h1 hkm rfl _ (OSims.self (J116a m n x y z cl cur p q r s t u s2 t2 u2 (k + 1)))
      · refine condE (ge_dec (by omega)) ?_
        obtain rfl : k = m := by omega
        exact h3 rfl
    · exact ⟨fun _ => hL.1 hg, fun N _ h => by cases h⟩
  · cases hF

noncomputable def I116b (m : Nat) (n : Nat → Nat) (x y z : Nat → Nat → Nat) (cl : Nat → Bool) (cur : Nat → Nat) (p q r s t u s2 t2 u2 : Nat) (k : Nat) : List A := [.ro 3 m (.wires n x y z cl cur), .ptr 0 0, .ptr 16 0, .ptr 80 0, .int .i64 (Int.ofNat k)]
noncomputable def J116b (m : Nat) (n : Nat → Nat) (x y z : Nat → Nat → Nat) (cl : Nat → Bool) (cur : Nat → Nat) (p q r s t u s2 t2 u2 : Nat) (k : Nat) : List O := [.var [.flt .f32 (faX n x y z cl cur p q r s k), .flt .f32 (faY n x y z cl cur p q r t k), .flt .f32 (faZ n x y z cl cur p q r u k)], .var [.flt .f32 s2, .flt .f32 t2, .flt .f32 u2], .var [.flt .f32 p, .flt .f32 q, .flt .f32 r]]
theorem round116b (m : Nat) (n : Nat → Nat) (x y z : Nat → Nat → Nat) (cl : Nat → Bool) (cur : Nat → Nat) (p q r s t u s2 t2 u2 : Nat) (k : Nat) (L : XK → List A → List (Option O) → Prop) :
    ((exec cfg24 (fun _ => true) (fun _ => none) 0 1000 (loopOf Try.f116 0) (litSt Try.f116.ntmps 160 [0, 3, 4, 5, 6] [80, 16, 0] (I116b m n x y z cl cur p q r s t u s2 t2 u2 k) (J116b m n x y z cl cur p q r s t u s2 t2 u2 k))).rt [0, 3, 4, 5, 6] [80, 16, 0]).Ok L =
    bif decide (Int.ofNat k < Int.ofNat m) then
      bif Nat.ble 1 (n k) && (n k).ble 1073741824 && (decide (Int.ofNat k < Int.ofNat m) && true) then
        L (XK.normal) ([A.ro 3 m (Row.wires n x y z cl cur), A.ptr 0 0, A.ptr 16 0, A.ptr 80 0, A.int IntKind.i64 (IntKind.i64.wrap (Int.ofNat k + Int.ofNat 1))]) ([some (O.var [A.flt FloatKind.f32 (fop BinOp.add FloatKind.f32 (faX n x y z cl cur p q r s k) (fwX (n k) (x (Int.ofNat k).toNat) (y (Int.ofNat k).toNat) (z (Int.ofNat k).toNat) (cl k) (cur k) p q r)), A.flt FloatKind.f32 (fop BinOp.add FloatKind.f32 (faY n x y z cl cur p q r t k) (fwY (n k) (x (Int.ofNat k).toNat) (y (Int.ofNat k).toNat) (z (Int.ofNat k).toNat) (cl k) (cur k) p q r)), A.flt FloatKind.f32 (fop BinOp.add FloatKind.f32 (faZ n x y z cl cur p q r u k) (fwZ (n k) (x (Int.ofNat k).toNat) (y (Int.ofNat k).toNat) (z (Int.ofNat k).toNat) (cl k) (cur k) p q r))]), some (O.var [A.flt FloatKind.f32 s2, A.flt FloatKind.f32 t2, A.flt FloatKind.f32 u2]), some (O.var [A.flt FloatKind.f32 p, A.flt FloatKind.f32 q, A.flt FloatKind.f32 r])])
      else
        False
    else
      L (XK.exit 0) ([A.ro 3 m (Row.wires n x y z cl cur), A.ptr 0 0, A.ptr 16 0, A.ptr 80 0, A.int IntKind.i64 (Int.ofNat k)]) ([some (O.var [A.flt FloatKind.f32 (faX n x y z cl cur p q r s k), A.flt FloatKind.f32 (faY n x y z cl cur p q r t k), A.flt FloatKind.f32 (faZ n x y z cl cur p q r u k)]), some (O.var [A.flt FloatKind.f32 s2, A.flt FloatKind.f32 t2, A.flt FloatKind.f32 u2]), some (O.var [A.flt FloatKind.f32 p, A.flt FloatKind.f32 q, A.flt FloatKind.f32 r])]) := by kernel_rfl
noncomputable def F116b : List A → List (Option O) → Option R3
  | [.ro 3 m (.wires n x y z cl cur), .ptr 0 0, .ptr 16 0, .ptr 80 0, .int .i64 0], [some (.var [.flt .f32 s, .flt .f32 t, .flt .f32 u]), some (.var [.flt .f32 s2, .flt .f32 t2, .flt .f32 u2]), some (.var [.flt .f32 p, .flt .f32 q, .flt .f32 r])] => some (.ite (Nat.ble m 1048576 && allUpTo (smallW n) m) (.leaf .normal (I116b m n x y z cl cur p q r s t u s2 t2 u2 (m)) (J116b m n x y z cl cur p q r s t u s2 t2 u2 (m))) .fail)
  | _, _ => none
theorem loop116b : CodeOK Try.prog (fun _ σ => sumAt Try.f116.ntmps 160 [0, 3, 4, 5, 6] [80, 16, 0] F116b σ) (.block 0 (.loop (loopOf Try.f116 0))) := by
  refine block_ok (own := fun _ => true) (lp := (fun _ => none)) (un := 0) (fuel := 1000) cfg24_ok (lp_none _) fun az os R hF hok => ?_
  unfold F116b at hF
  split at hF
  · rename_i m n x y z cl cur s t u s2 t2 u2 p q r
    injection hF with hF
    subst hF
    have hg := hok.guard
    have hg' := hg
    simp only [Bool.and_eq_true, Nat.ble_eq, Nat.beq_eq, decide_eq_true_eq] at hg'
    obtain ⟨hm, hsm⟩ := hg'
    refine for_fact (ids := [80, 16, 0]) (fun _ => true) (m) (I116b m n x y z cl cur p q r s t u s2 t2 u2) (J116b m n x y z cl cur p q r s t u s2 t2 u2) _ (.ret) (I116b m n x y z cl cur p q r s t u s2 t2 u2) (I116b m n x y z cl cur p q r s t u s2 t2 u2) (I116b m n x y z cl cur p q r s t u s2 t2 u2 (m)) (J116b m n x y z cl cur p q r s t u s2 t2 u2 (m)) rfl (OSims.self _) (fun _ => rfl) (fun _ => rfl) (fun _ => ALe.self _) (fun _ => rfl) (ALe.self _) (OSims.self _) rfl (fun h => by cases h) (fun k hk L h1 h2 h3 => ?_) fun L hL => ?_
    · rw [round116b]

      by_cases hkm : k < m
      · refine condT (lt_dec hkm) ?_
        obtain ⟨k1, k2⟩ := smallW_ok (W.at_ok hsm hkm)
        rw [wrap_succ (by omega)]
        refine condT (by rw [ble_of k1, ble_of (show n k ≤ 1073741824 by omega), lt_dec hkm]; rfl) ?_
        exact h1 hkm rfl _ (OSims.self (J116b m n x y z cl cur p q r s t u s2 t2 u2 (k + 1)))
      · refine condE (ge_dec (by omega)) ?_
        obtain rfl : k = m := by omega
        exact h3 rfl
    · exact ⟨fun _ => hL.1 hg, fun N _ h => by cases h⟩
  · cases hF

noncomputable def N116 (σ : St) : T := match Nat.beq σ.next 192 with
  | true => sumAt Try.f116.ntmps 192 [0, 3, 4, 5, 6] [80, 16, 0] F116a σ
  | false => sumAt Try.f116.ntmps 160 [0, 3, 4, 5, 6] [80, 16, 0] F116b σ
theorem loopN116 : CodeOK Try.prog (fun _ σ => N116 σ) (.block 0 (.loop (loopOf Try.f116 0))) := by
  intro σ L hok
  replace hok : (N116 σ).Ok Try.prog L := hok
  unfold N116 at hok
  split at hok
  · exact loop116a σ L hok
  · exact loop116b σ L hok
noncomputable def st0 (p q r c : Nat) : Nat := bif vfin p q r then 0 else fop .sub .f32 c c
noncomputable def fOkA (m : Nat) (n : Nat → Nat) (x y z : Nat → Nat → Nat) (cl : Nat → Bool) (cur : Nat → Nat) (p q r : Nat) : Bool := vfin (faX n x y z cl cur p q r 0 m) (faY n x y z cl cur p q r 0 m) (faZ n x y z cl cur p q r 0 m)
noncomputable def lp118 : List (Nat × (St → T)) := [(0, sumAt Try.f118.ntmps 144 [3, 4, 5, 6, 10, 11, 12] [64, 16, 0] F118)]
theorem lp118_ok : LpOK Try.prog (look lp118) (bodyOf Try.f118) := lp_loops (by kernel_rfl) (by kernel_rfl) fun p hp => by
  simp only [lp118, List.mem_cons, List.not_mem_nil, or_false] at hp
  rcases hp with rfl
  · exact loop118
theorem auto118 (m : Nat) (n : Nat → Nat) (x y z : Nat → Nat → Nat) (cl : Nat → Bool) (cur : Nat → Nat) (p q r : Nat) : autoLp cfg24 (look lp118) Try.f118 [.ro 3 m (.wires n x y z cl cur), .agg [.flt .f32 p, .flt .f32 q, .flt .f32 r]] =
    some (decide (Int.ofNat m = Int.ofNat m) && m.ble 1048576 && allUpTo (smallW n) m && true, A.tup [A.agg [A.flt FloatKind.f32 (faX n x y z cl cur p q r 0 m), A.flt FloatKind.f32 (faY n x y z cl cur p q r 0 m), A.flt FloatKind.f32 (faZ n x y z cl cur p q r 0 m)], A.bool (bif vfin p q r then vfin (faX n x y z cl cur p q r 0 m) (faY n x y z cl cur p q r 0 m) (faZ n x y z cl cur p q r 0 m) else false)]) := by kernel_rfl
noncomputable def s118 : List A → Option (Bool × A)
  | [.ro 3 m (.wires n x y z cl cur), .agg [.flt .f32 p, .flt .f32 q, .flt .f32 r]] => some (Nat.ble m 1048576 && allUpTo (smallW n) m, .tup [.agg [.flt .f32 (faX n x y z cl cur p q r 0 m), .flt .f32 (faY n x y z cl cur p q r 0 m), .flt .f32 (faZ n x y z cl cur p q r 0 m)], .bool (bif vfin p q r then fOkA m n x y z cl cur p q r else false)])
  | _ => none
theorem s118_at : EnvAt Try.prog 118 s118 := of_auto cfg24_ok lp118_ok Try.func118 (by kernel_rfl) (by kernel_rfl) fun ds cc rr h hc => by
  unfold s118 at h
  split at h
  · rename_i m n x y z cl cur p q r
    simp only [Option.some.injEq, Prod.mk.injEq] at h
    obtain ⟨rfl, rfl⟩ := h
    refine auto_fit (auto118 m n x y z cl cur p q r) ?_ ?_
    · rfl
    · simp only [Bool.and_eq_true] at hc; rw [hc.1, hc.2, decide_eq_true rfl]; simp
  · cases h

noncomputable def lp116 : List (Nat × (St → T)) := [(0, N116)]
theorem lp116_ok : LpOK Try.prog (look lp116) (bodyOf Try.f116) := lp_loops (by kernel_rfl) (by kernel_rfl) fun p hp => by
  simp only [lp116, List.mem_cons, List.not_mem_nil, or_false] at hp
  rcases hp with rfl
  · exact loopN116
theorem auto116 (m : Nat) (n : Nat → Nat) (x y z : Nat → Nat → Nat) (cl : Nat → Bool) (cur : Nat → Nat) (p q r : Nat) : autoLp cfg24 (look lp116) Try.f116 [.ro 3 m (.wires n x y z cl cur), .agg [.flt .f32 p, .flt .f32 q, .flt .f32 r]] =
    some (bif vfin p q r then m.ble 1048576 && allUpTo (smallW n) m && true else m.ble 1048576 && allUpTo (smallW n) m && true, A.agg [A.flt FloatKind.f32 (bif vfin p q r then faX n x y z cl cur p q r 0 m else faX n x y z cl cur p q r (fop BinOp.sub FloatKind.f32 p p) m), A.flt FloatKind.f32 (bif vfin p q r then faY n x y z cl cur p q r 0 m else faY n x y z cl cur p q r (fop BinOp.sub FloatKind.f32 q q) m), A.flt FloatKind.f32 (bif vfin p q r then faZ n x y z cl cur p q r 0 m else faZ n x y z cl cur p q r (fop BinOp.sub FloatKind.f32 r r) m)]) := by kernel_rfl
noncomputable def s116 : List A → Option (Bool × A)
  | [.ro 3 m (.wires n x y z cl cur), .agg [.flt .f32 p, .flt .f32 q, .flt .f32 r]] => some (Nat.ble m 1048576 && allUpTo (smallW n) m, .agg [.flt .f32 (faX n x y z cl cur p q r (st0 p q r p) m), .flt .f32 (faY n x y z cl cur p q r (st0 p q r q) m), .flt .f32 (faZ n x y z cl cur p q r (st0 p q r r) m)])
  | _ => none
theorem s116_at : EnvAt Try.prog 116 s116 := of_auto cfg24_ok lp116_ok Try.func116 (by kernel_rfl) (by kernel_rfl) fun ds cc rr h hc => by
  unfold s116 at h
  split at h
  · rename_i m n x y z cl cur p q r
    simp only [Option.some.injEq, Prod.mk.injEq] at h
    obtain ⟨rfl, rfl⟩ := h
    refine auto_fit (auto116 m n x y z cl cur p q r) ?_ ?_
    · unfold st0; cases vfin p q r <;> rfl
    · rw [hc]; simp
  · cases h

theorem auto139 (n cur : Nat) (x y z : Nat → Nat) (cl : Bool) : autoLp cfg24 (fun _ => none) Try.f139 [.agg [.ro 3 n (.vecs .f32 x y z), .bool cl, .flt .f32 cur]] =
    some (n.ble 4611686018427387000 && true, A.bool !okW n cur x y z) := by kernel_rfl
noncomputable def s139 : List A → Option (Bool × A)
  | [.agg [.ro 3 n (.vecs .f32 x y z), .bool cl, .flt .f32 cur]] => some (Nat.ble n 4611686018427387000, .bool (!okW n cur x y z))
  | _ => none
theorem s139_at : EnvAt Try.prog 139 s139 := of_auto cfg24_ok (lp_none _) Try.func139 (by kernel_rfl) (by kernel_rfl) fun ds cc rr h hc => by
  unfold s139 at h
  split at h
  · rename_i n x y z cl cur
    simp only [Option.some.injEq, Prod.mk.injEq] at h
    obtain ⟨rfl, rfl⟩ := h
    refine auto_fit (auto139 n cur x y z cl) ?_ ?_
    · rfl
    · rw [hc]; rfl
  · cases h

noncomputable def env25 : List (Nat × (List A → Option (Bool × A))) := (118, s118) :: (116, s116) :: (139, s139) :: env24
theorem env25_ok : EnvOK Try.prog (look env25) := (env_cons s118_at (env_cons s116_at (env_cons s139_at env24_ok)))
noncomputable def cfg25 : Cfg := mkCfg tab [] xts (look env25)
theorem cfg25_ok : CfgOK Try.prog cfg25 := cfg_ok tab_eq (no_fts _) xts_ok env25_ok mixed
def shortW (n : Nat → Nat) (i : Nat) : Bool := Nat.ble (n i) 1048576
theorem shortW_ok {n : Nat → Nat} {k : Nat} (h : shortW n k = true) : n k ≤ 1048576 := by unfold shortW at h; simpa using h
noncomputable def I150 (m : Nat) (n : Nat → Nat) (x y z : Nat → Nat → Nat) (cl : Nat → Bool) (cur : Nat → Nat) (k : Nat) : List A := [.ro 3 m (.wires n x y z cl cur), .fn 139 [], .int .i64 (Int.ofNat 0), .int .i64 (Int.ofNat m), .int .i64 (Int.ofNat k)]
noncomputable def J150 (m : Nat) (n : Nat → Nat) (x y z : Nat → Nat → Nat) (cl : Nat → Bool) (cur : Nat → Nat) (k : Nat) : List O := []
theorem round150 (m : Nat) (n : Nat → Nat) (x y z : Nat → Nat → Nat) (cl : Nat → Bool) (cur : Nat → Nat) (k : Nat) (L : XK → List A → List (Option O) → Prop) :
    ((exec cfg25 (fun _ => true) (fun _ => none) 0 1000 (loopOf Try.f150 0) (litSt Try.f150.ntmps 64 [0, 1, 4, 7, 8] [] (I150 m n x y z cl cur k) (J150 m n x y z cl cur k))).rt [0, 1, 4, 7, 8] []).Ok L =
    bif decide (Int.ofNat k < Int.ofNat m) then
      bif decide (Int.ofNat k < Int.ofNat m) then
        bif (n k).ble 4611686018427387000 then
          bif !okW (n k) (cur k) (x (Int.ofNat k).toNat) (y (Int.ofNat k).toNat) (z (Int.ofNat k).toNat) then
            L (XK.ret) ([A.ro 3 m (Row.wires n x y z cl cur), A.fn 139 [], A.int IntKind.i64 (Int.ofNat k), A.int IntKind.i64 (Int.ofNat m), A.int IntKind.i64 (Int.ofNat k)]) ([])
          else
            L (XK.normal) ([A.ro 3 m (Row.wires n x y z cl cur), A.fn 139 [], A.int IntKind.i64 (Int.ofNat 0), A.int IntKind.i64 (Int.ofNat m), A.int IntKind.i64 (IntKind.i64.wrap (Int.ofNat k + Int.ofNat 1))]) ([])
        else
          False
      else
        False
    else
      L (XK.exit 0) ([A.ro 3 m (Row.wires n x y z cl cur), A.fn 139 [], A.int IntKind.i64 (Int.ofNat 0), A.int IntKind.i64 (Int.ofNat m), A.int IntKind.i64 (Int.ofNat k)]) ([]) := by kernel_rfl
noncomputable def F150 : List A → List (Option O) → Option R3
  | [.ro 3 m (.wires n x y z cl cur), .fn 139 [], .int .i64 0, .int .i64 l, .int .i64 0], [] => some (.ite (decide (l = Int.ofNat m) && Nat.ble m 1048576 && allUpTo (shortW n) m) (.ite (allUpTo (okAt n x y z cur) (m)) (.leaf .normal (I150 m n x y z cl cur (m)) (J150 m n x y z cl cur (m))) (.leaf (.ret) ((fun k => [.ro 3 m (.wires n x y z cl cur), A.fn 139 [], A.int IntKind.i64 (Int.ofNat k), A.int IntKind.i64 (Int.ofNat m), A.int IntKind.i64 (Int.ofNat k)]) (firstIdx (okAt n x y z cur) (m))) (J150 m n x y z cl cur (firstIdx (okAt n x y z cur) (m))))) .fail)
  | _, _ => none
theorem loop150 : CodeOK Try.prog (fun _ σ => sumAt Try.f150.ntmps 64 [0, 1, 4, 7, 8] [] F150 σ) (.block 0 (.loop (loopOf Try.f150 0))) := by
  refine block_ok (own := fun _ => true) (lp := (fun _ => none)) (un := 0) (fuel := 1000) cfg25_ok (lp_none _) fun az os R hF hok => ?_
  unfold F150 at hF
  split at hF
  · rename_i m n x y z cl cur l
    injection hF with hF
    subst hF
    have hg := hok.guard
    have hg' := hg
    simp only [Bool.and_eq_true, Nat.ble_eq, Nat.beq_eq, decide_eq_true_eq] at hg'
    obtain ⟨⟨rfl, hm⟩, hsm⟩ := hg'
    refine for_fact (ids := []) (okAt n x y z cur) (m) (I150 m n x y z cl cur) (J150 m n x y z cl cur) _ (.ret) (fun k => [.ro 3 m (.wires n x y z cl cur), A.fn 139 [], A.int IntKind.i64 (Int.ofNat k), A.int IntKind.i64 (Int.ofNat m), A.int IntKind.i64 (Int.ofNat k)]) (fun k => [.ro 3 m (.wires n x y z cl cur), A.fn 139 [], A.int IntKind.i64 (Int.ofNat k), A.int IntKind.i64 (Int.ofNat m), A.int IntKind.i64 (Int.ofNat k)]) (I150 m n x y z cl cur (m)) (J150 m n x y z cl cur (m)) rfl (OSims.self _) (fun _ => rfl) (fun _ => rfl) (fun _ => ALe.self _) (fun _ => rfl) (ALe.self _) (OSims.self _) rfl (fun h => by cases h) (fun k hk L h1 h2 h3 => ?_) fun L hL => ?_
    · rw [round150]

      by_cases hkm : k < m
      · refine condT (lt_dec hkm) ?_
        have k1 := shortW_ok (W.at_ok hsm hkm)
        rw [wrap_succ (by omega)]
        refine condT (lt_dec hkm) ?_
        refine condT (ble_of (show n k ≤ 4611686018427387000 by omega)) ?_
        show cond (!(okAt n x y z cur k)) _ _
        cases hs : okAt n x y z cur k
        · exact h2 hkm hs
        · exact h1 hkm hs _ trivial
      · refine condE (ge_dec (by omega)) ?_
        obtain rfl : k = m := by omega
        exact h3 rfl
    · exact ⟨fun h => (hL.1 hg).1 h, fun N hN hf hall => by
        have := (hL.1 hg).2 (allUpTo_false hN hf)
        rw [firstIdx_eq hN hf hall] at this
        exact this⟩
  · cases hF

noncomputable def lp150 : List (Nat × (St → T)) := [(0, sumAt Try.f150.ntmps 64 [0, 1, 4, 7, 8] [] F150)]
theorem lp150_ok : LpOK Try.prog (look lp150) (bodyOf Try.f150) := lp_loops (by kernel_rfl) (by kernel_rfl) fun p hp => by
  simp only [lp150, List.mem_cons, List.not_mem_nil, or_false] at hp
  rcases hp with rfl
  · exact loop150
theorem auto150 (m : Nat) (n : Nat → Nat) (x y z : Nat → Nat → Nat) (cl : Nat → Bool) (cur : Nat → Nat) : autoLp cfg25 (look lp150) Try.f150 [.ro 3 m (.wires n x y z cl cur), .fn 139 []] =
    some (decide (Int.ofNat m = Int.ofNat m) && m.ble 1048576 && allUpTo (shortW n) m && bif allUpTo (okAt n x y z cur) m then true else true, A.int IntKind.i64 (bif allUpTo (okAt n x y z cur) m then Int.negSucc 0 else Int.ofNat (Fw.firstIdx (okAt n x y z cur) m))) := by kernel_rfl
noncomputable def s150 : List A → Option (Bool × A)
  | [.ro 3 m (.wires n x y z cl cur), .fn 139 []] => some (Nat.ble m 1048576 && allUpTo (shortW n) m, .int .i64 (idx (okAt n x y z cur) m))
  | _ => none
theorem s150_at : EnvAt Try.prog 150 s150 := of_auto cfg25_ok lp150_ok Try.func150 (by kernel_rfl) (by kernel_rfl) fun ds cc rr h hc => by
  unfold s150 at h
  split at h
  · rename_i m n x y z cl cur
    simp only [Option.some.injEq, Prod.mk.injEq] at h
    obtain ⟨rfl, rfl⟩ := h
    refine auto_fit (auto150 m n x y z cl cur) ?_ ?_
    · rfl
    · simp only [Bool.and_eq_true] at hc; rw [hc.1, hc.2]; simp
  · cases h

noncomputable def env26 : List (Nat × (List A → Option (Bool × A))) := (150, s150) :: env25
theorem env26_ok : EnvOK Try.prog (look env26) := (env_cons s150_at env25_ok)
noncomputable def cfg26 : Cfg := mkCfg tab [] xts (look env26)
theorem cfg26_ok : CfgOK Try.prog cfg26 := cfg_ok tab_eq (no_fts _) xts_ok env26_ok mixed
theorem auto138 (m : Nat) (n : Nat → Nat) (x y z : Nat → Nat → Nat) (cl : Nat → Bool) (cur : Nat → Nat) : autoLp cfg26 (fun _ => none) Try.f138 [.ro 3 m (.wires n x y z cl cur), .fn 139 []] =
    some (m.ble 1048576 && allUpTo (shortW n) m && true, A.bool (decide (idx (okAt n x y z cur) m ≥ 0))) := by kernel_rfl
noncomputable def s138 : List A → Option (Bool × A)
  | [.ro 3 m (.wires n x y z cl cur), .fn 139 []] => some (Nat.ble m 1048576 && allUpTo (shortW n) m, .bool (!allUpTo (okAt n x y z cur) m))
  | _ => none
theorem s138_at : EnvAt Try.prog 138 s138 := of_auto cfg26_ok (lp_none _) Try.func138 (by kernel_rfl) (by kernel_rfl) fun ds cc rr h hc => by
  unfold s138 at h
  split at h
  · rename_i m n x y z cl cur
    simp only [Option.some.injEq, Prod.mk.injEq] at h
    obtain ⟨rfl, rfl⟩ := h
    refine auto_fit (auto138 m n x y z cl cur) ?_ ?_
    · rw [← idx_ge]
    · simpa using hc
  · cases h

noncomputable def env27 : List (Nat × (List A → Option (Bool × A))) := (138, s138) :: env26
theorem env27_ok : EnvOK Try.prog (look env27) := (env_cons s138_at env26_ok)
noncomputable def cfg27 : Cfg := mkCfg tab [] xts (look env27)
theorem cfg27_ok : CfgOK Try.prog cfg27 := cfg_ok tab_eq (no_fts _) xts_ok env27_ok mixed
noncomputable def areW (m : Nat) (n : Nat → Nat) (x y z : Nat → Nat → Nat) (cur : Nat → Nat) : Bool := decide (m ≤ 8) && allUpTo (okAt n x y z cur) m
theorem areW_ok {m : Nat} {n : Nat → Nat} {x y z : Nat → Nat → Nat} {cur : Nat → Nat} (h : areW m n x y z cur = true) : m ≤ 8 ∧ allUpTo (smallW n) m = true := by
  unfold areW at h
  simp only [Bool.and_eq_true, decide_eq_true_eq] at h
  refine ⟨h.1, allUpTo_iff.2 fun i hi => ?_⟩
  have h2 := okW_n (W.at_ok h.2 hi)
  unfold smallW
  simp only [Bool.and_eq_true, Nat.ble_eq]; omega
theorem auto117 (m : Nat) (n : Nat → Nat) (x y z : Nat → Nat → Nat) (cl : Nat → Bool) (cur : Nat → Nat) : autoLp cfg27 (fun _ => none) Try.f117 [.ro 3 m (.wires n x y z cl cur)] =
    some ((m.ble 1048576 && allUpTo (shortW n) m || !decide (Int.ofNat m ≤ 8) == true) && true, A.bool (bif decide (Int.ofNat m ≤ 8) then !!allUpTo (okAt n x y z cur) m else false)) := by kernel_rfl
noncomputable def s117 : List A → Option (Bool × A)
  | [.ro 3 m (.wires n x y z cl cur)] => some (Nat.ble m 1048576 && allUpTo (shortW n) m, .bool (areW m n x y z cur))
  | _ => none
theorem s117_at : EnvAt Try.prog 117 s117 := of_auto cfg27_ok (lp_none _) Try.func117 (by kernel_rfl) (by kernel_rfl) fun ds cc rr h hc => by
  unfold s117 at h
  split at h
  · rename_i m n x y z cl cur
    simp only [Option.some.injEq, Prod.mk.injEq] at h
    obtain ⟨rfl, rfl⟩ := h
    refine auto_fit (auto117 m n x y z cl cur) ?_ ?_
    · unfold areW
      by_cases h : m ≤ 8
      · rw [decide_eq_true h, decide_eq_true (p := Int.ofNat m ≤ 8) (by simp; omega)]; simp
      · rw [decide_eq_false h, decide_eq_false (p := Int.ofNat m ≤ 8) (by simp; omega)]; rfl
    · rw [hc]; rfl
  · cases h

def if8 (m : Nat) : Nat := bif Nat.ble m 8 then m else 0
theorem if8_yes {m : Nat} (h : m ≤ 8) : if8 m = m := by unfold if8; rw [ble_of h]; rfl
theorem if8_no {m : Nat} (h : ¬ m ≤ 8) : if8 m = 0 := by
  unfold if8
  cases hb : Nat.ble m 8
  · rfl
  · exact absurd (Nat.le_of_ble_eq_true hb) h
theorem if8_lt {m k : Nat} (h : k < if8 m) : (bif decide (Int.ofNat k < Int.ofNat m) then decide (Int.ofNat m ≤ 8) else false) = true ∧ k < m ∧ m ≤ 8 := by
  by_cases h8 : m ≤ 8
  · rw [if8_yes h8] at h
    exact ⟨by rw [lt_dec h, decide_eq_true (p := Int.ofNat m ≤ 8) (by simp; omega)]; rfl, h, h8⟩
  · rw [if8_no h8] at h; omega
theorem if8_ge {m k : Nat} (h : if8 m ≤ k) : (bif decide (Int.ofNat k < Int.ofNat m) then decide (Int.ofNat m ≤ 8) else false) = false := by
  by_cases h8 : m ≤ 8
  · rw [if8_yes h8] at h; rw [ge_dec h]; rfl
  · rw [decide_eq_false (p := Int.ofNat m ≤ 8) (by simp; omega)]; simp
noncomputable def I115 (m : Nat) (n : Nat → Nat) (x y z : Nat → Nat → Nat) (cl : Nat → Bool) (cur : Nat → Nat) (k : Nat) : List A := [.ro 3 m (.wires n x y z cl cur), .bool false, .int .i64 (Int.ofNat k)]
noncomputable def J115 (m : Nat) (n : Nat → Nat) (x y z : Nat → Nat → Nat) (cl : Nat → Bool) (cur : Nat → Nat) (k : Nat) : List O := []
theorem round115 (m : Nat) (n : Nat → Nat) (x y z : Nat → Nat → Nat) (cl : Nat → Bool) (cur : Nat → Nat) (k : Nat) (L : XK → List A → List (Option O) → Prop) :
    ((exec cfg27 (fun _ => true) (fun _ => none) 0 1000 (loopOf Try.f115 0) (litSt Try.f115.ntmps 32 [0, 2, 3] [] (I115 m n x y z cl cur k) (J115 m n x y z cl cur k))).rt [0, 2, 3] []).Ok L =
    bif bif decide (Int.ofNat k < Int.ofNat m) then decide (Int.ofNat m ≤ 8) else false then
      bif decide (Int.ofNat k < Int.ofNat m) then
        bif (n k).ble 4611686018427387000 then
          bif !okW (n k) (cur k) (x (Int.ofNat k).toNat) (y (Int.ofNat k).toNat) (z (Int.ofNat k).toNat) then
            L (XK.ret) ([A.ro 3 m (Row.wires n x y z cl cur), A.bool false, A.int IntKind.i64 (Int.ofNat k)]) ([])
          else
            L (XK.normal) ([A.ro 3 m (Row.wires n x y z cl cur), A.bool false, A.int IntKind.i64 (IntKind.i64.wrap (Int.ofNat k + Int.ofNat 1))]) ([])
        else
          False
      else
        False
    else
      L (XK.exit 0) ([A.ro 3 m (Row.wires n x y z cl cur), A.bool false, A.int IntKind.i64 (Int.ofNat k)]) ([]) := by kernel_rfl
noncomputable def F115 : List A → List (Option O) → Option R3
  | [.ro 3 m (.wires n x y z cl cur), .bool false, .int .i64 0], [] => some (.ite (Nat.ble m 1048576 && allUpTo (shortW n) m) (.ite (allUpTo (okAt n x y z cur) ((if8 m))) (.leaf .normal (I115 m n x y z cl cur ((if8 m))) (J115 m n x y z cl cur ((if8 m)))) (.leaf (.ret) ((I115 m n x y z cl cur) (firstIdx (okAt n x y z cur) ((if8 m)))) (J115 m n x y z cl cur (firstIdx (okAt n x y z cur) ((if8 m)))))) .fail)
  | _, _ => none
theorem loop115 : CodeOK Try.prog (fun _ σ => sumAt Try.f115.ntmps 32 [0, 2, 3] [] F115 σ) (.block 0 (.loop (loopOf Try.f115 0))) := by
  refine block_ok (own := fun _ => true) (lp := (fun _ => none)) (un := 0) (fuel := 1000) cfg27_ok (lp_none _) fun az os R hF hok => ?_
  unfold F115 at hF
  split at hF
  · rename_i m n x y z cl cur
    injection hF with hF
    subst hF
    have hg := hok.guard
    have hg' := hg
    simp only [Bool.and_eq_true, Nat.ble_eq, Nat.beq_eq, decide_eq_true_eq] at hg'
    obtain ⟨hm, hsm⟩ := hg'
    refine for_fact (ids := []) (okAt n x y z cur) ((if8 m)) (I115 m n x y z cl cur) (J115 m n x y z cl cur) _ (.ret) (I115 m n x y z cl cur) (I115 m n x y z cl cur) (I115 m n x y z cl cur ((if8 m))) (J115 m n x y z cl cur ((if8 m))) rfl (OSims.self _) (fun _ => rfl) (fun _ => rfl) (fun _ => ALe.self _) (fun _ => rfl) (ALe.self _) (OSims.self _) rfl (fun h => by cases h) (fun k hk L h1 h2 h3 => ?_) fun L hL => ?_
    · rw [round115]

      by_cases hkm : k < (if8 m)
      · refine condT ((if8_lt hkm).1) ?_
        obtain ⟨_, hkm', h8⟩ := if8_lt hkm
        have k1 := shortW_ok (W.at_ok hsm hkm')
        rw [wrap_succ (by omega)]
        refine condT (lt_dec hkm') ?_
        refine condT (ble_of (show n k ≤ 4611686018427387000 by omega)) ?_
        show cond (!(okAt n x y z cur k)) _ _
        cases hs : okAt n x y z cur k
        · exact h2 hkm hs
        · exact h1 hkm hs _ trivial
      · refine condE (if8_ge (by omega)) ?_
        obtain rfl : k = (if8 m) := by omega
        exact h3 rfl
    · exact ⟨fun h => (hL.1 hg).1 h, fun N hN hf hall => by
        have := (hL.1 hg).2 (allUpTo_false hN hf)
        rw [firstIdx_eq hN hf hall] at this
        exact this⟩
  · cases hF

noncomputable def lp115 : List (Nat × (St → T)) := [(0, sumAt Try.f115.ntmps 32 [0, 2, 3] [] F115)]
theorem lp115_ok : LpOK Try.prog (look lp115) (bodyOf Try.f115) := lp_loops (by kernel_rfl) (by kernel_rfl) fun p hp => by
  simp only [lp115, List.mem_cons, List.not_mem_nil, or_false] at hp
  rcases hp with rfl
  · exact loop115
theorem auto115 (m : Nat) (n : Nat → Nat) (x y z : Nat → Nat → Nat) (cl : Nat → Bool) (cur : Nat → Nat) : autoLp cfg27 (look lp115) Try.f115 [.ro 3 m (.wires n x y z cl cur)] =
    some (m.ble 1048576 && allUpTo (shortW n) m && bif allUpTo (okAt n x y z cur) (if8 m) then true else true, A.bool (bif allUpTo (okAt n x y z cur) (if8 m) then decide (Int.ofNat m ≤ 8) else false)) := by kernel_rfl
noncomputable def s115 : List A → Option (Bool × A)
  | [.ro 3 m (.wires n x y z cl cur)] => some (Nat.ble m 1048576 && allUpTo (shortW n) m, .bool (areW m n x y z cur))
  | _ => none
theorem s115_at : EnvAt Try.prog 115 s115 := of_auto cfg27_ok lp115_ok Try.func115 (by kernel_rfl) (by kernel_rfl) fun ds cc rr h hc => by
  unfold s115 at h
  split at h
  · rename_i m n x y z cl cur
    simp only [Option.some.injEq, Prod.mk.injEq] at h
    obtain ⟨rfl, rfl⟩ := h
    refine auto_fit (auto115 m n x y z cl cur) ?_ ?_
    · unfold areW
      by_cases h : m ≤ 8
      · rw [decide_eq_true h, if8_yes h, decide_eq_true (p := Int.ofNat m ≤ 8) (by simp; omega)]; cases allUpTo (okAt n x y z cur) m <;> rfl
      · rw [decide_eq_false h, if8_no h, decide_eq_false (p := Int.ofNat m ≤ 8) (by simp; omega)]; rfl
    · simp only [Bool.and_eq_true] at hc; rw [hc.1, hc.2]; simp
  · cases h

noncomputable def env28 : List (Nat × (List A → Option (Bool × A))) := (117, s117) :: (115, s115) :: env27
theorem env28_ok : EnvOK Try.prog (look env28) := (env_cons s117_at (env_cons s115_at env27_ok))
noncomputable def cfg28 : Cfg := mkCfg tab [] xts (look env28)
theorem cfg28_ok : CfgOK Try.prog cfg28 := cfg_ok tab_eq (no_fts _) xts_ok env28_ok mixed
end Go.Fw.W1

/-
  Lists of wires: measured, copied, compared.
-/
namespace Go.Fw.W1
open Go.Proofs

def szW (n : Nat → Nat) (left : Int) : Nat → Int
  | 0 => left
  | k + 1 => sz1 (szW n left k) (n k)
noncomputable def I51 (m : Nat) (n : Nat → Nat) (x y z : Nat → Nat → Nat) (cl : Nat → Bool) (cur : Nat → Nat) (left : Int) (k : Nat) : List A := [.ro 3 m (.wires n x y z cl cur), .int .i64 (szW n left k), .int .i64 0, .int .i64 (Int.ofNat k)]
noncomputable def J51 (m : Nat) (n : Nat → Nat) (x y z : Nat → Nat → Nat) (cl : Nat → Bool) (cur : Nat → Nat) (left : Int) (k : Nat) : List O := []
theorem round51 (m : Nat) (n : Nat → Nat) (x y z : Nat → Nat → Nat) (cl : Nat → Bool) (cur : Nat → Nat) (left : Int) (k : Nat) (L : XK → List A → List (Option O) → Prop) :
    ((exec cfg28 (fun _ => true) (fun _ => none) 0 1000 (loopOf Try.f51 0) (litSt Try.f51.ntmps 144 [0, 1, 4, 5] [] (I51 m n x y z cl cur left k) (J51 m n x y z cl cur left k))).rt [0, 1, 4, 5] []).Ok L =
    bif decide (Int.ofNat k < Int.ofNat m) then
      bif decide (Int.ofNat k < Int.ofNat m) then
        bif decide (sz1 (szW n left k) (n (Int.ofNat k).toNat) < 0) then
          L (XK.ret) ([A.ro 3 m (Row.wires n x y z cl cur), A.int IntKind.i64 (sz1 (szW n left k) (n k)), A.int IntKind.i64 (Int.negSucc 0), A.int IntKind.i64 (Int.ofNat k)]) ([])
        else
          L (XK.normal) ([A.ro 3 m (Row.wires n x y z cl cur), A.int IntKind.i64 (sz1 (szW n left k) (n k)), A.int IntKind.i64 (Int.ofNat 0), A.int IntKind.i64 (IntKind.i64.wrap (Int.ofNat k + Int.ofNat 1))]) ([])
      else
        False
    else
      L (XK.exit 0) ([A.ro 3 m (Row.wires n x y z cl cur), A.int IntKind.i64 (szW n left k), A.int IntKind.i64 (Int.ofNat 0), A.int IntKind.i64 (Int.ofNat k)]) ([]) := by kernel_rfl
noncomputable def F51 : List A → List (Option O) → Option R3
  | [.ro 3 m (.wires n x y z cl cur), .int .i64 left, .int .i64 0, .int .i64 0], [] => some (.ite (Nat.ble m 4611686018427387000) (.ite (allUpTo (fun k => !decide (szW n left (k + 1) < 0)) (m)) (.leaf .normal (I51 m n x y z cl cur left (m)) (J51 m n x y z cl cur left (m))) (.leaf (.ret) ((fun k => [.ro 3 m (.wires n x y z cl cur), .int .i64 (szW n left (k + 1)), .int .i64 (Int.negSucc 0), .int .i64 (Int.ofNat k)]) (firstIdx (fun k => !decide (szW n left (k + 1) < 0)) (m))) (J51 m n x y z cl cur left (firstIdx (fun k => !decide (szW n left (k + 1) < 0)) (m))))) .fail)
  | _, _ => none
theorem loop51 : CodeOK Try.prog (fun _ σ => sumAt Try.f51.ntmps 144 [0, 1, 4, 5] [] F51 σ) (.block 0 (.loop (loopOf Try.f51 0))) := by
  refine block_ok (own := fun _ => true) (lp := (fun _ => none)) (un := 0) (fuel := 1000) cfg28_ok (lp_none _) fun az os R hF hok => ?_
  unfold F51 at hF
  split at hF
  · rename_i m n x y z cl cur left
    injection hF with hF
    subst hF
    have hg := hok.guard
    have hg' := hg
    simp only [Bool.and_eq_true, Nat.ble_eq, Nat.beq_eq, decide_eq_true_eq] at hg'
    have hm := hg'
    refine for_fact (ids := []) (fun k => !decide (szW n left (k + 1) < 0)) (m) (I51 m n x y z cl cur left) (J51 m n x y z cl cur left) _ (.ret) (fun k => [.ro 3 m (.wires n x y z cl cur), .int .i64 (szW n left (k + 1)), .int .i64 (Int.negSucc 0), .int .i64 (Int.ofNat k)]) (fun k => [.ro 3 m (.wires n x y z cl cur), .int .i64 (szW n left (k + 1)), .int .i64 (Int.negSucc 0), .int .i64 (Int.ofNat k)]) (I51 m n x y z cl cur left (m)) (J51 m n x y z cl cur left (m)) rfl (OSims.self _) (fun _ => rfl) (fun _ => rfl) (fun _ => ALe.self _) (fun _ => rfl) (ALe.self _) (OSims.self _) rfl (fun h => by cases h) (fun k hk L h1 h2 h3 => ?_) fun L hL => ?_
    · rw [round51]

      by_cases hkm : k < m
      · refine condT (lt_dec hkm) ?_
        rw [wrap_succ (by omega)]
        refine condT (lt_dec hkm) ?_
        show cond (decide (szW n left (k + 1) < 0)) _ _
        cases hs : decide (szW n left (k + 1) < 0)
        · exact h1 hkm (by rw [hs]; rfl) _ trivial
        · exact h2 hkm (by rw [hs]; rfl)
      · refine condE (ge_dec (by omega)) ?_
        obtain rfl : k = m := by omega
        exact h3 rfl
    · exact ⟨fun h => (hL.1 hg).1 h, fun N hN hf hall => by
        have := (hL.1 hg).2 (allUpTo_false hN hf)
        rw [firstIdx_eq hN hf hall] at this
        exact this⟩
  · cases hF

def szWs (left : Int) (m : Nat) (n : Nat → Nat) : Int := bif decide (IntKind.i64.wrap (left - Int.ofNat m) < 0) then Int.negSucc 0 else bif allUpTo (fun k => !decide (szW n (IntKind.i64.wrap (left - Int.ofNat m)) (k + 1) < 0)) m then szW n (IntKind.i64.wrap (left - Int.ofNat m)) m else Int.negSucc 0
theorem szWs_le {left : Int} {m : Nat} {n : Nat → Nat} (h0 : 0 ≤ left) (h1 : left ≤ 1048576) (hm : m ≤ 9223372036854775807) (hn : ∀ i, n i ≤ 9223372036854775807) : szWs left m n = -1 ∨ (0 ≤ szWs left m n ∧ szWs left m n ≤ left ∧ (m : Int) ≤ left ∧ ∀ k, k < m → (n k : Int) ≤ left) := by
  have e : IntKind.i64.wrap (left - Int.ofNat m) = left - m := by
    simp [IntKind.wrap, IntKind.bits, IntKind.signed]
    omega
  unfold szWs
  rw [e]
  by_cases h : left - (m : Int) < 0
  · rw [decide_eq_true h]; exact .inl rfl
  rw [decide_eq_false h]
  cases ha : allUpTo (fun k => !decide (szW n (left - m) (k + 1) < 0)) m
  · exact .inl rfl
  · have hall := allUpTo_iff.1 ha
    have key : ∀ k, k ≤ m → 0 ≤ szW n (left - m) k ∧ szW n (left - m) k ≤ left - m ∧ ∀ j, j < k → (n j : Int) ≤ left - m := by
      intro k
      induction k with
      | zero => intro _; exact ⟨by show 0 ≤ left - (m : Int); omega, Int.le_refl _, fun j hj => absurd hj (by omega)⟩
      | succ k ih =>
        intro hk
        obtain ⟨i1, i2, i3⟩ := ih (by omega)
        have hk2 := hall k (by omega)
        simp only [Bool.not_eq_true', decide_eq_false_iff_not] at hk2
        have e2 : szW n (left - m) (k + 1) = sz1 (szW n (left - m) k) (n k) := rfl
        rw [e2] at hk2 ⊢
        rcases sz1_le i1 (by omega) (hn k) with ⟨e3, _⟩ | ⟨e3, h3⟩
        · rw [e3] at hk2; omega
        · rw [e3] at hk2 ⊢
          refine ⟨by omega, by omega, fun j hj => ?_⟩
          rcases Nat.lt_or_ge j k with hjk | hjk
          · exact i3 j hjk
          · obtain rfl : j = k := by omega
            omega
    obtain ⟨k1, k2, k3⟩ := key m (Nat.le_refl _)
    exact .inr ⟨k1, by show szW n (left - m) m ≤ left; omega, by omega, fun k hk => by have := k3 k hk; omega⟩
theorem gen_set {f g : Nat → A} {k p : Nat} : (match decide (p = k) with | true => f k | false => match decide (p < k) with | true => f p | false => g p) = match decide (p < k + 1) with | true => f p | false => g p := by
  by_cases h : p = k
  · subst h; simp
  · have : (p < k + 1) = (p < k) := by simp; omega
    simp [h, this]
noncomputable def lp51 : List (Nat × (St → T)) := [(0, sumAt Try.f51.ntmps 144 [0, 1, 4, 5] [] F51)]
theorem lp51_ok : LpOK Try.prog (look lp51) (bodyOf Try.f51) := lp_loops (by kernel_rfl) (by kernel_rfl) fun p hp => by
  simp only [lp51, List.mem_cons, List.not_mem_nil, or_false] at hp
  rcases hp with rfl
  · exact loop51
theorem auto51 (m : Nat) (n : Nat → Nat) (x y z : Nat → Nat → Nat) (cl : Nat → Bool) (cur : Nat → Nat) (left : Int) : autoLp cfg28 (look lp51) Try.f51 [.ro 3 m (.wires n x y z cl cur), .int .i64 left] =
    some (bif decide (IntKind.i64.wrap (left - Int.ofNat m) < 0) then true else m.ble 4611686018427387000 && bif allUpTo (fun k => !decide (szW n (IntKind.i64.wrap (left - Int.ofNat m)) (k + 1) < 0)) m then true else true, A.int IntKind.i64 (bif decide (IntKind.i64.wrap (left - Int.ofNat m) < 0) then Int.negSucc 0 else bif allUpTo (fun k => !decide (szW n (IntKind.i64.wrap (left - Int.ofNat m)) (k + 1) < 0)) m then szW n (IntKind.i64.wrap (left - Int.ofNat m)) m else Int.negSucc 0)) := by kernel_rfl
noncomputable def s51 : List A → Option (Bool × A)
  | [.ro 3 m (.wires n x y z cl cur), .int .i64 left] => some (Nat.ble m 4611686018427387000, .int .i64 (szWs left m n))
  | _ => none
theorem s51_at : EnvAt Try.prog 51 s51 := of_auto cfg28_ok lp51_ok Try.func51 (by kernel_rfl) (by kernel_rfl) fun ds cc rr h hc => by
  unfold s51 at h
  split at h
  · rename_i m n x y z cl cur left
    simp only [Option.some.injEq, Prod.mk.injEq] at h
    obtain ⟨rfl, rfl⟩ := h
    refine auto_fit (auto51 m n x y z cl cur left) ?_ ?_
    · rfl
    · rw [hc]; simp
  · cases h

noncomputable def I53 (m : Nat) (n : Nat → Nat) (x y z : Nat → Nat → Nat) (cl : Nat → Bool) (cur : Nat → Nat) (g : Nat → A) (k : Nat) : List A := [.ro 3 m (.wires n x y z cl cur), .sl 48 m, .int .i64 (Int.ofNat k)]
noncomputable def J53 (m : Nat) (n : Nat → Nat) (x y z : Nat → Nat → Nat) (cl : Nat → Bool) (cur : Nat → Nat) (g : Nat → A) (k : Nat) : List O := [.row 36 3 m (.gen fun j => match decide (j < k) with | true => (Row.wires n x y z cl cur : Row A).at j | false => g j)]
theorem round53 (m : Nat) (n : Nat → Nat) (x y z : Nat → Nat → Nat) (cl : Nat → Bool) (cur : Nat → Nat) (g : Nat → A) (k : Nat) (L : XK → List A → List (Option O) → Prop) :
    ((exec cfg28 (fun _ => false) (fun _ => none) 0 1000 (loopOf Try.f53 0) (litSt Try.f53.ntmps 96 [0, 3, 4] [48] (I53 m n x y z cl cur g k) (J53 m n x y z cl cur g k))).rt [0, 3, 4] [48]).Ok L =
    bif decide (Int.ofNat k < Int.ofNat m) then
      bif decide (Int.ofNat k < Int.ofNat m) then
        bif (n k).ble 1073741824 then
          bif decide (Int.ofNat k < Int.ofNat m) then
            L (XK.normal) ([A.ro 3 m (Row.wires n x y z cl cur), A.sl 48 m, A.int IntKind.i64 (IntKind.i64.wrap (Int.ofNat k + Int.ofNat 1))]) ([some     (O.row 36 3 m       (Row.gen fun j =>         match decide (j = (Int.ofNat k).toNat) with         | true => A.agg [A.ro 3 (n k) (Row.vecs FloatKind.f32 (x k) (y k) (z k)), A.bool (cl k), A.flt FloatKind.f32 (cur k)]         | false =>           match decide (j < k) with           | true => A.agg [A.ro 3 (n j) (Row.vecs FloatKind.f32 (x j) (y j) (z j)), A.bool (cl j), A.flt FloatKind.f32 (cur j)]           | false => g j))])
          else
            False
        else
          False
      else
        False
    else
      L (XK.exit 0) ([A.ro 3 m (Row.wires n x y z cl cur), A.sl 48 m, A.int IntKind.i64 (Int.ofNat k)]) ([some     (O.row 36 3 m       (Row.gen fun j =>         match decide (j < k) with         | true => A.agg [A.ro 3 (n j) (Row.vecs FloatKind.f32 (x j) (y j) (z j)), A.bool (cl j), A.flt FloatKind.f32 (cur j)]         | false => g j))]) := by kernel_rfl
noncomputable def F53 : List A → List (Option O) → Option R3
  | [.ro 3 m (.wires n x y z cl cur), .sl 48 m1, .int .i64 0], [some (.row 36 3 m3 (.gen g))] => some (.ite (Nat.beq m m1 && Nat.beq m m3 && Nat.ble m 1048576 && allUpTo (shortW n) m) (.leaf .normal (I53 m n x y z cl cur g (m)) [.row 36 3 m (.wires n x y z cl cur)]) .fail)
  | _, _ => none
theorem loop53 : CodeOK Try.prog (fun _ σ => sumAt Try.f53.ntmps 96 [0, 3, 4] [48] F53 σ) (.block 0 (.loop (loopOf Try.f53 0))) := by
  refine block_ok (own := fun _ => false) (lp := (fun _ => none)) (un := 0) (fuel := 1000) cfg28_ok (lp_none _) fun az os R hF hok => ?_
  unfold F53 at hF
  split at hF
  · rename_i m n x y z cl cur m1 m3 g
    injection hF with hF
    subst hF
    have hg := hok.guard
    have hg' := hg
    simp only [Bool.and_eq_true, Nat.ble_eq, Nat.beq_eq, decide_eq_true_eq] at hg'
    obtain ⟨⟨⟨rfl, rfl⟩, hm⟩, hsm⟩ := hg'
    refine for_fact (ids := [48]) (fun _ => true) (m) (I53 m n x y z cl cur g) (J53 m n x y z cl cur g) _ (.ret) (I53 m n x y z cl cur g) (I53 m n x y z cl cur g) (I53 m n x y z cl cur g (m)) [.row 36 3 m (.wires n x y z cl cur)] rfl (by unfold J53; exact ⟨⟨36, _, rfl, .inr rfl, fun _ _ => rfl⟩, trivial⟩) (fun _ => rfl) (fun _ => rfl) (fun _ => ALe.self _) (fun _ => rfl) (ALe.self _) (by unfold J53; exact ⟨⟨36, _, rfl, .inr rfl, fun p hp => by show (match decide (p < m) with | true => _ | false => _) = _; rw [decide_eq_true hp]⟩, trivial⟩) rfl (fun h => by cases h) (fun k hk L h1 h2 h3 => ?_) fun L hL => ?_
    · rw [round53]

      by_cases hkm : k < m
      · refine condT (lt_dec hkm) ?_
        have k1 := shortW_ok (W.at_ok hsm hkm)
        rw [wrap_succ (by omega)]
        refine condT (lt_dec hkm) ?_
        refine condT (ble_of (show n k ≤ 1073741824 by omega)) ?_
        refine condT (lt_dec hkm) ?_
        exact h1 hkm rfl _ ⟨⟨36, _, rfl, .inr rfl, fun p hp => gen_set (f := (Row.wires n x y z cl cur : Row A).at)⟩, trivial⟩
      · refine condE (ge_dec (by omega)) ?_
        obtain rfl : k = m := by omega
        exact h3 rfl
    · exact ⟨fun _ => hL.1 hg, fun N _ h => by cases h⟩
  · cases hF

theorem auto27 (n cur n2 cur2 : Nat) (x y z x2 y2 z2 : Nat → Nat) (cl cl2 : Bool) : autoLp cfg28 (fun _ => none) Try.f27 [.agg [.ro 3 n (.vecs .f32 x y z), .bool cl, .flt .f32 cur], .agg [.ro 3 n2 (.vecs .f32 x2 y2 z2), .bool cl2, .flt .f32 cur2]] =
    some (n2.beq n && n.ble 4611686018427387000 && allUpTo (sameVAt x y z x2 y2 z2) n && bif !cl == cl2 then true else bif !sameF (fcvt FloatKind.f32 FloatKind.f64 cur) (fcvt FloatKind.f32 FloatKind.f64 cur2) then true else true, A.bool (bif !cl == cl2 then false else bif !sameF (fcvt FloatKind.f32 FloatKind.f64 cur) (fcvt FloatKind.f32 FloatKind.f64 cur2) then false else true)) := by kernel_rfl
noncomputable def s27 : List A → Option (Bool × A)
  | [.agg [.ro 3 n (.vecs .f32 x y z), .bool cl, .flt .f32 cur], .agg [.ro 3 n2 (.vecs .f32 x2 y2 z2), .bool cl2, .flt .f32 cur2]] => some (Nat.beq n2 n && Nat.ble n 1048576 && allUpTo (sameVAt x y z x2 y2 z2) n && (cl == cl2) && sameF (fcvt .f32 .f64 cur) (fcvt .f32 .f64 cur2), .bool true)
  | _ => none
theorem s27_at : EnvAt Try.prog 27 s27 := of_auto cfg28_ok (lp_none _) Try.func27 (by kernel_rfl) (by kernel_rfl) fun ds cc rr h hc => by
  unfold s27 at h
  split at h
  · rename_i n x y z cl cur n2 x2 y2 z2 cl2 cur2
    simp only [Option.some.injEq, Prod.mk.injEq] at h
    obtain ⟨rfl, rfl⟩ := h
    refine auto_fit (auto27 n cur n2 cur2 x y z x2 y2 z2 cl cl2) ?_ ?_
    · simp only [Bool.and_eq_true, beq_iff_eq] at hc
      rw [hc.1.2, hc.2]; simp
    · simp only [Bool.and_eq_true, beq_iff_eq, Nat.ble_eq] at hc
      rw [hc.1.1.2, hc.1.2, hc.2, ble_of (show n ≤ 4611686018427387000 by omega), beq_of (Nat.eq_of_beq_eq_true hc.1.1.1.1)]; simp
  · cases h

def eqWAt (n : Nat → Nat) (x y z : Nat → Nat → Nat) (cl : Nat → Bool) (cur : Nat → Nat) (n2 : Nat → Nat) (x2 y2 z2 : Nat → Nat → Nat) (cl2 : Nat → Bool) (cur2 : Nat → Nat) (i : Nat) : Bool := Nat.beq (n2 i) (n i) && Nat.ble (n i) 1048576 && allUpTo (sameVAt (x i) (y i) (z i) (x2 i) (y2 i) (z2 i)) (n i) && (cl i == cl2 i) && sameF (fcvt .f32 .f64 (cur i)) (fcvt .f32 .f64 (cur2 i))
noncomputable def env29 : List (Nat × (List A → Option (Bool × A))) := (51, s51) :: (27, s27) :: env28
theorem env29_ok : EnvOK Try.prog (look env29) := (env_cons s51_at (env_cons s27_at env28_ok))
noncomputable def cfg29 : Cfg := mkCfg tab [] xts (look env29)
theorem cfg29_ok : CfgOK Try.prog cfg29 := cfg_ok tab_eq (no_fts _) xts_ok env29_ok mixed
noncomputable def I40 (m : Nat) (n : Nat → Nat) (x y z : Nat → Nat → Nat) (cl : Nat → Bool) (cur : Nat → Nat) (m2 : Nat) (n2 : Nat → Nat) (x2 y2 z2 : Nat → Nat → Nat) (cl2 : Nat → Bool) (cur2 : Nat → Nat) (k : Nat) : List A := [.ro 3 m (.wires n x y z cl cur), .ro 3 m2 (.wires n2 x2 y2 z2 cl2 cur2), .bool false, .int .i64 (Int.ofNat k)]
noncomputable def J40 (m : Nat) (n : Nat → Nat) (x y z : Nat → Nat → Nat) (cl : Nat → Bool) (cur : Nat → Nat) (m2 : Nat) (n2 : Nat → Nat) (x2 y2 z2 : Nat → Nat → Nat) (cl2 : Nat → Bool) (cur2 : Nat → Nat) (k : Nat) : List O := []
theorem round40 (m : Nat) (n : Nat → Nat) (x y z : Nat → Nat → Nat) (cl : Nat → Bool) (cur : Nat → Nat) (m2 : Nat) (n2 : Nat → Nat) (x2 y2 z2 : Nat → Nat → Nat) (cl2 : Nat → Bool) (cur2 : Nat → Nat) (k : Nat) (L : XK → List A → List (Option O) → Prop) :
    ((exec cfg29 (fun _ => true) (fun _ => none) 0 1000 (loopOf Try.f40 0) (litSt Try.f40.ntmps 112 [0, 1, 4, 5] [] (I40 m n x y z cl cur m2 n2 x2 y2 z2 cl2 cur2 k) (J40 m n x y z cl cur m2 n2 x2 y2 z2 cl2 cur2 k))).rt [0, 1, 4, 5] []).Ok L =
    bif decide (Int.ofNat k < Int.ofNat m) then
      bif decide (Int.ofNat k < Int.ofNat m2) && (decide (Int.ofNat k < Int.ofNat m) && true) then
        bif (n2 k).beq (n k) && (n k).ble 1048576 && allUpTo (sameVAt (x (Int.ofNat k).toNat) (y (Int.ofNat k).toNat) (z (Int.ofNat k).toNat) (x2 (Int.ofNat k).toNat) (y2 (Int.ofNat k).toNat) (z2 (Int.ofNat k).toNat)) (n k) && cl k == cl2 k && sameF (fcvt FloatKind.f32 FloatKind.f64 (cur k)) (fcvt FloatKind.f32 FloatKind.f64 (cur2 k)) then
          L (XK.normal) ([A.ro 3 m (Row.wires n x y z cl cur), A.ro 3 m2 (Row.wires n2 x2 y2 z2 cl2 cur2), A.bool false, A.int IntKind.i64 (IntKind.i64.wrap (Int.ofNat k + Int.ofNat 1))]) ([])
        else
          False
      else
        False
    else
      L (XK.exit 0) ([A.ro 3 m (Row.wires n x y z cl cur), A.ro 3 m2 (Row.wires n2 x2 y2 z2 cl2 cur2), A.bool false, A.int IntKind.i64 (Int.ofNat k)]) ([]) := by kernel_rfl
noncomputable def F40 : List A → List (Option O) → Option R3
  | [.ro 3 m (.wires n x y z cl cur), .ro 3 m2 (.wires n2 x2 y2 z2 cl2 cur2), .bool false, .int .i64 0], [] => some (.ite (Nat.beq m2 m && Nat.ble m 1048576 && allUpTo (eqWAt n x y z cl cur n2 x2 y2 z2 cl2 cur2) m) (.leaf .normal (I40 m n x y z cl cur m2 n2 x2 y2 z2 cl2 cur2 (m)) (J40 m n x y z cl cur m2 n2 x2 y2 z2 cl2 cur2 (m))) .fail)
  | _, _ => none
theorem loop40 : CodeOK Try.prog (fun _ σ => sumAt Try.f40.ntmps 112 [0, 1, 4, 5] [] F40 σ) (.block 0 (.loop (loopOf Try.f40 0))) := by
  refine block_ok (own := fun _ => true) (lp := (fun _ => none)) (un := 0) (fuel := 1000) cfg29_ok (lp_none _) fun az os R hF hok => ?_
  unfold F40 at hF
  split at hF
  · rename_i m n x y z cl cur m2 n2 x2 y2 z2 cl2 cur2
    injection hF with hF
    subst hF
    have hg := hok.guard
    have hg' := hg
    simp only [Bool.and_eq_true, Nat.ble_eq, Nat.beq_eq, decide_eq_true_eq] at hg'
    obtain ⟨⟨hm2, hm⟩, hsm⟩ := hg'
    refine for_fact (ids := []) (fun _ => true) (m) (I40 m n x y z cl cur m2 n2 x2 y2 z2 cl2 cur2) (J40 m n x y z cl cur m2 n2 x2 y2 z2 cl2 cur2) _ (.ret) (I40 m n x y z cl cur m2 n2 x2 y2 z2 cl2 cur2) (I40 m n x y z cl cur m2 n2 x2 y2 z2 cl2 cur2) (I40 m n x y z cl cur m2 n2 x2 y2 z2 cl2 cur2 (m)) (J40 m n x y z cl cur m2 n2 x2 y2 z2 cl2 cur2 (m)) rfl (OSims.self _) (fun _ => rfl) (fun _ => rfl) (fun _ => ALe.self _) (fun _ => rfl) (ALe.self _) (OSims.self _) rfl (fun h => by cases h) (fun k hk L h1 h2 h3 => ?_) fun L hL => ?_
    · rw [round40]

      by_cases hkm : k < m
      · refine condT (lt_dec hkm) ?_
        rw [wrap_succ (by omega)]
        refine condT (by rw [hm2, lt_dec hkm]; rfl) ?_
        refine condT (W.at_ok hsm hkm) ?_
        exact h1 hkm rfl _ trivial
      · refine condE (ge_dec (by omega)) ?_
        obtain rfl : k = m := by omega
        exact h3 rfl
    · exact ⟨fun _ => hL.1 hg, fun N _ h => by cases h⟩
  · cases hF

noncomputable def lp40 : List (Nat × (St → T)) := [(0, sumAt Try.f40.ntmps 112 [0, 1, 4, 5] [] F40)]
theorem lp40_ok : LpOK Try.prog (look lp40) (bodyOf Try.f40) := lp_loops (by kernel_rfl) (by kernel_rfl) fun p hp => by
  simp only [lp40, List.mem_cons, List.not_mem_nil, or_false] at hp
  rcases hp with rfl
  · exact loop40
theorem auto40 (m : Nat) (n : Nat → Nat) (x y z : Nat → Nat → Nat) (cl : Nat → Bool) (cur : Nat → Nat) (m2 : Nat) (n2 : Nat → Nat) (x2 y2 z2 : Nat → Nat → Nat) (cl2 : Nat → Bool) (cur2 : Nat → Nat) : autoLp cfg29 (look lp40) Try.f40 [.ro 3 m (.wires n x y z cl cur), .ro 3 m2 (.wires n2 x2 y2 z2 cl2 cur2)] =
    some (bif Int.ofNat m != Int.ofNat m2 then true else m2.beq m && m.ble 1048576 && allUpTo (eqWAt n x y z cl cur n2 x2 y2 z2 cl2 cur2) m && true, A.bool (bif Int.ofNat m != Int.ofNat m2 then false else true)) := by kernel_rfl
noncomputable def s40 : List A → Option (Bool × A)
  | [.ro 3 m (.wires n x y z cl cur), .ro 3 m2 (.wires n2 x2 y2 z2 cl2 cur2)] => some (Nat.beq m2 m && Nat.ble m 1048576 && allUpTo (eqWAt n x y z cl cur n2 x2 y2 z2 cl2 cur2) m, .bool true)
  | _ => none
theorem s40_at : EnvAt Try.prog 40 s40 := of_auto cfg29_ok lp40_ok Try.func40 (by kernel_rfl) (by kernel_rfl) fun ds cc rr h hc => by
  unfold s40 at h
  split at h
  · rename_i m n x y z cl cur m2 n2 x2 y2 z2 cl2 cur2
    simp only [Option.some.injEq, Prod.mk.injEq] at h
    obtain ⟨rfl, rfl⟩ := h
    refine auto_fit (auto40 m n x y z cl cur m2 n2 x2 y2 z2 cl2 cur2) ?_ ?_
    · simp only [Bool.and_eq_true, Nat.beq_eq] at hc
      rw [hc.1.1]; simp
    · have hc' := hc
      simp only [Bool.and_eq_true, Nat.beq_eq] at hc'
      rw [hc]; simp
  · cases h


end Go.Fw.W1

/-
  The sine of turns: what it calls.
-/
namespace Go.Fw.W1
open Go.Proofs

def absN (x : Nat) : Nat := x % 9223372036854775808
theorem sw64 : FloatKind.f64.format.signWeight = 9223372036854775808 := Eq.trans (show FloatKind.f64.format.signWeight = 2 ^ 63 by rfl) (by simp)
theorem auto129 (x : Nat) : autoLp cfg29 (fun _ => none) Try.f129 [.flt .f64 x] =
    some (!isNaN FloatKind.f64 x && (decide (0 ≤ bclr IntKind.u64 (Int.ofNat x) 9223372036854775808) && decide (bclr IntKind.u64 (Int.ofNat x) 9223372036854775808 < 18446744073709551616) && true), A.flt FloatKind.f64 (can FloatKind.f64 (bclr IntKind.u64 (Int.ofNat x) (Int.ofNat 9223372036854775808)).toNat)) := by kernel_rfl
noncomputable def s129 : List A → Option (Bool × A)
  | [.flt .f64 x] => some (!isNaN .f64 x, .flt .f64 (absN x))
  | _ => none
theorem s129_at : EnvAt Try.prog 129 s129 := of_auto cfg29_ok (lp_none _) Try.func129 (by kernel_rfl) (by kernel_rfl) fun ds cc rr h hc => by
  unfold s129 at h
  split at h
  · rename_i x
    simp only [Option.some.injEq, Prod.mk.injEq] at h
    obtain ⟨rfl, rfl⟩ := h
    refine auto_fit (auto129 x) ?_ ?_
    · have h1 : isNaN .f64 (x % 9223372036854775808) = false := by rw [isNaN_eq] at hc ⊢; rw [sw64] at hc ⊢; rw [Nat.mod_mod]; simpa using hc
      show A.flt .f64 (can .f64 (bclr .u64 (Int.ofNat x) 9223372036854775808).toNat) = _
      rw [bclr_abs]
      show A.flt .f64 (can .f64 (x % 9223372036854775808)) = A.flt .f64 (x % 9223372036854775808)
      rw [can_of_not h1]
    · rw [bclr_abs, hc, dec0]
      have := Nat.mod_lt x (show 0 < 9223372036854775808 by decide)
      simp; omega
  · cases h

theorem auto141 : autoLp cfg29 (fun _ => none) Try.f141 [] = some (true, A.flt FloatKind.f64 (can FloatKind.f64 9221120237041090561)) := by kernel_rfl
noncomputable def s141 : List A → Option (Bool × A)
  | [] => some (true, .flt .f64 (qnan .f64))
  | _ => none
theorem s141_at : EnvAt Try.prog 141 s141 := of_auto cfg29_ok (lp_none _) Try.func141 (by kernel_rfl) (by kernel_rfl) fun ds cc rr h hc => by
  unfold s141 at h
  split at h
  · simp only [Option.some.injEq, Prod.mk.injEq] at h
    obtain ⟨rfl, rfl⟩ := h
    exact auto_fit auto141 (by rw [show can .f64 9221120237041090561 = qnan .f64 by decide +kernel]) rfl
  · cases h
noncomputable def env30 : List (Nat × (List A → Option (Bool × A))) := (129, s129) :: (141, s141) :: env29
theorem env30_ok : EnvOK Try.prog (look env30) := (env_cons s129_at (env_cons s141_at env29_ok))
noncomputable def cfg30 : Cfg := mkCfg tab [] xts (look env30)
theorem cfg30_ok : CfgOK Try.prog cfg30 := cfg_ok tab_eq (no_fts _) xts_ok env30_ok mixed
theorem auto128 : autoLp cfg30 (fun _ => none) Try.f128 [] = some (fcvtOk .f64 .f32 (qnan .f64), A.flt .f32 (fcvt .f64 .f32 (qnan .f64))) := by kernel_rfl
noncomputable def s128 : List A → Option (Bool × A)
  | [] => some (true, .flt .f32 (qnan .f32))
  | _ => none
theorem s128_at : EnvAt Try.prog 128 s128 := of_auto cfg30_ok (lp_none _) Try.func128 (by kernel_rfl) (by kernel_rfl) fun ds cc rr h hc => by
  unfold s128 at h
  split at h
  · simp only [Option.some.injEq, Prod.mk.injEq] at h
    obtain ⟨rfl, rfl⟩ := h
    exact auto_fit auto128 (by rw [show fcvt .f64 .f32 (qnan .f64) = qnan .f32 by decide +kernel]) (by decide +kernel)
  · cases h
noncomputable def env31 : List (Nat × (List A → Option (Bool × A))) := (128, s128) :: env30
theorem env31_ok : EnvOK Try.prog (look env31) := (env_cons s128_at env30_ok)
noncomputable def cfg31 : Cfg := mkCfg tab [] xts (look env31)
theorem cfg31_ok : CfgOK Try.prog cfg31 := cfg_ok tab_eq (no_fts _) xts_ok env31_ok mixed
end Go.Fw.W1

/-
  The sine of turns: its eight steps.
-/
namespace Go.Fw.W1
open Go.Proofs

def kI (k : Nat) : Int := 8 - Int.ofNat k
def kF (k : Nat) : Nat := fofInt .f64 (8 - Int.ofNat k)
theorem kI_step {k : Nat} (h : k < 8) : fofInt FloatKind.f64 (IntKind.i64.wrap (IntKind.i64.wrap (Int.ofNat 2 * kI k) * IntKind.i64.wrap (IntKind.i64.wrap (Int.ofNat 2 * kI k) + Int.ofNat 1))) = den k ∧ IntKind.i64.wrap (kI k - Int.ofNat 1) = kI (k + 1) := by
  have e : ∀ k, k < 8 → IntKind.i64.wrap (IntKind.i64.wrap (Int.ofNat 2 * kI k) * IntKind.i64.wrap (IntKind.i64.wrap (Int.ofNat 2 * kI k) + Int.ofNat 1)) = denI k ∧ IntKind.i64.wrap (kI k - Int.ofNat 1) = kI (k + 1) := by decide +kernel
  exact ⟨by rw [(e k h).1]; rfl, (e k h).2⟩
theorem kI_test {k : Nat} (h : k < 8) : decide (kI k ≥ 1) = true := by
  unfold kI; simp; omega
theorem kI_end {k : Nat} (h : k = 8) : decide (kI k ≥ 1) = false := by
  subst h; decide
theorem kF_step {k : Nat} (h : k < 8) : fop BinOp.mul FloatKind.f64 (fop BinOp.mul FloatKind.f64 (can FloatKind.f64 4611686018427387904) (kF k)) (fop BinOp.add FloatKind.f64 (fop BinOp.mul FloatKind.f64 (can FloatKind.f64 4611686018427387904) (kF k)) (can FloatKind.f64 4607182418800017408)) = den k ∧ fop BinOp.sub FloatKind.f64 (kF k) (can FloatKind.f64 4607182418800017408) = kF (k + 1) := by
  have e : ∀ k, k < 8 → fop BinOp.mul FloatKind.f64 (fop BinOp.mul FloatKind.f64 (can FloatKind.f64 4611686018427387904) (kF k)) (fop BinOp.add FloatKind.f64 (fop BinOp.mul FloatKind.f64 (can FloatKind.f64 4611686018427387904) (kF k)) (can FloatKind.f64 4607182418800017408)) = den k ∧ fop BinOp.sub FloatKind.f64 (kF k) (can FloatKind.f64 4607182418800017408) = kF (k + 1) := by decide +kernel
  exact e k h
theorem kF_test {k : Nat} (h : k < 8) : (forder FloatKind.f64 (kF k) (can FloatKind.f64 4607182418800017408) == some Ordering.gt || forder FloatKind.f64 (kF k) (can FloatKind.f64 4607182418800017408) == some Ordering.eq) = true := by
  have e : ∀ k, k < 8 → (forder FloatKind.f64 (kF k) (can FloatKind.f64 4607182418800017408) == some Ordering.gt || forder FloatKind.f64 (kF k) (can FloatKind.f64 4607182418800017408) == some Ordering.eq) = true := by decide +kernel
  exact e k h
theorem kF_end {k : Nat} (h : k = 8) : (forder FloatKind.f64 (kF k) (can FloatKind.f64 4607182418800017408) == some Ordering.gt || forder FloatKind.f64 (kF k) (can FloatKind.f64 4607182418800017408) == some Ordering.eq) = false := by
  subst h; decide +kernel
noncomputable def I132a (t : Bool) (z u : Nat) (k : Nat) : List A := [.bool t, .flt .f64 z, .flt .f64 u, .flt .f64 (sp u k), .int .i64 (kI k)]
noncomputable def J132a (t : Bool) (z u : Nat) (k : Nat) : List O := []
theorem round132a (t : Bool) (z u : Nat) (k : Nat) (L : XK → List A → List (Option O) → Prop) :
    ((exec cfg31 (fun _ => true) (fun _ => none) 0 1000 (loopOf Try.f132 0) (litSt Try.f132.ntmps 544 [4, 5, 6, 7, 8] [] (I132a t z u k) (J132a t z u k))).rt [4, 5, 6, 7, 8] []).Ok L =
    bif decide (kI k ≥ 1) then
      L (XK.normal) ([A.bool t, A.flt FloatKind.f64 z, A.flt FloatKind.f64 u, A.flt FloatKind.f64 (fop BinOp.sub FloatKind.f64 (can FloatKind.f64 4607182418800017408) (fop BinOp.quo FloatKind.f64 (fop BinOp.mul FloatKind.f64 u (sp u k)) (fofInt FloatKind.f64 (IntKind.i64.wrap (IntKind.i64.wrap (Int.ofNat 2 * kI k) * IntKind.i64.wrap (IntKind.i64.wrap (Int.ofNat 2 * kI k) + Int.ofNat 1)))))), A.int IntKind.i64 (IntKind.i64.wrap (kI k - Int.ofNat 1))]) ([])
    else
      L (XK.exit 0) ([A.bool t, A.flt FloatKind.f64 z, A.flt FloatKind.f64 u, A.flt FloatKind.f64 (sp u k), A.int IntKind.i64 (kI k)]) ([]) := by kernel_rfl
noncomputable def F132a : List A → List (Option O) → Option R3
  | [.bool t, .flt .f64 z, .flt .f64 u, .flt .f64 p, .int .i64 k8], [] => some (.ite (Nat.beq p (sp u 0) && decide (k8 = kI 0)) (.leaf .normal (I132a t z u (8)) (J132a t z u (8))) .fail)
  | _, _ => none
theorem loop132a : CodeOK Try.prog (fun _ σ => sumAt Try.f132.ntmps 544 [4, 5, 6, 7, 8] [] F132a σ) (.block 0 (.loop (loopOf Try.f132 0))) := by
  refine block_ok (own := fun _ => true) (lp := (fun _ => none)) (un := 0) (fuel := 1000) cfg31_ok (lp_none _) fun az os R hF hok => ?_
  unfold F132a at hF
  split at hF
  · rename_i t z u p k8
    injection hF with hF
    subst hF
    have hg := hok.guard
    have hg' := hg
    simp only [Bool.and_eq_true, Nat.ble_eq, Nat.beq_eq, decide_eq_true_eq] at hg'
    obtain ⟨rfl, rfl⟩ := hg'
    refine for_fact (ids := []) (fun _ => true) (8) (I132a t z u) (J132a t z u) _ (.ret) (I132a t z u) (I132a t z u) (I132a t z u (8)) (J132a t z u (8)) rfl (OSims.self _) (fun _ => rfl) (fun _ => rfl) (fun _ => ALe.self _) (fun _ => rfl) (ALe.self _) (OSims.self _) rfl (fun h => by cases h) (fun k hk L h1 h2 h3 => ?_) fun L hL => ?_
    · rw [round132a]

      by_cases hkm : k < 8
      · refine condT (kI_test hkm) ?_
        rw [(kI_step hkm).1, (kI_step hkm).2]
        exact h1 hkm rfl _ trivial
      · refine condE (kI_end (by omega)) ?_
        obtain rfl : k = 8 := by omega
        exact h3 rfl
    · exact ⟨fun _ => hL.1 hg, fun N _ h => by cases h⟩
  · cases hF

noncomputable def I132b (t : Bool) (z u : Nat) (k : Nat) : List A := [.bool t, .flt .f64 z, .flt .f64 u, .flt .f64 (sp u k), .int .i64 (kI k)]
noncomputable def J132b (t : Bool) (z u : Nat) (k : Nat) : List O := []
theorem round132b (t : Bool) (z u : Nat) (k : Nat) (L : XK → List A → List (Option O) → Prop) :
    ((exec cfg31 (fun _ => true) (fun _ => none) 0 1000 (loopOf Try.f132 0) (litSt Try.f132.ntmps 592 [4, 5, 6, 7, 8] [] (I132b t z u k) (J132b t z u k))).rt [4, 5, 6, 7, 8] []).Ok L =
    bif decide (kI k ≥ 1) then
      L (XK.normal) ([A.bool t, A.flt FloatKind.f64 z, A.flt FloatKind.f64 u, A.flt FloatKind.f64 (fop BinOp.sub FloatKind.f64 (can FloatKind.f64 4607182418800017408) (fop BinOp.quo FloatKind.f64 (fop BinOp.mul FloatKind.f64 u (sp u k)) (fofInt FloatKind.f64 (IntKind.i64.wrap (IntKind.i64.wrap (Int.ofNat 2 * kI k) * IntKind.i64.wrap (IntKind.i64.wrap (Int.ofNat 2 * kI k) + Int.ofNat 1)))))), A.int IntKind.i64 (IntKind.i64.wrap (kI k - Int.ofNat 1))]) ([])
    else
      L (XK.exit 0) ([A.bool t, A.flt FloatKind.f64 z, A.flt FloatKind.f64 u, A.flt FloatKind.f64 (sp u k), A.int IntKind.i64 (kI k)]) ([]) := by kernel_rfl
noncomputable def F132b : List A → List (Option O) → Option R3
  | [.bool t, .flt .f64 z, .flt .f64 u, .flt .f64 p, .int .i64 k8], [] => some (.ite (Nat.beq p (sp u 0) && decide (k8 = kI 0)) (.leaf .normal (I132b t z u (8)) (J132b t z u (8))) .fail)
  | _, _ => none
theorem loop132b : CodeOK Try.prog (fun _ σ => sumAt Try.f132.ntmps 592 [4, 5, 6, 7, 8] [] F132b σ) (.block 0 (.loop (loopOf Try.f132 0))) := by
  refine block_ok (own := fun _ => true) (lp := (fun _ => none)) (un := 0) (fuel := 1000) cfg31_ok (lp_none _) fun az os R hF hok => ?_
  unfold F132b at hF
  split at hF
  · rename_i t z u p k8
    injection hF with hF
    subst hF
    have hg := hok.guard
    have hg' := hg
    simp only [Bool.and_eq_true, Nat.ble_eq, Nat.beq_eq, decide_eq_true_eq] at hg'
    obtain ⟨rfl, rfl⟩ := hg'
    refine for_fact (ids := []) (fun _ => true) (8) (I132b t z u) (J132b t z u) _ (.ret) (I132b t z u) (I132b t z u) (I132b t z u (8)) (J132b t z u (8)) rfl (OSims.self _) (fun _ => rfl) (fun _ => rfl) (fun _ => ALe.self _) (fun _ => rfl) (ALe.self _) (OSims.self _) rfl (fun h => by cases h) (fun k hk L h1 h2 h3 => ?_) fun L hL => ?_
    · rw [round132b]

      by_cases hkm : k < 8
      · refine condT (kI_test hkm) ?_
        rw [(kI_step hkm).1, (kI_step hkm).2]
        exact h1 hkm rfl _ trivial
      · refine condE (kI_end (by omega)) ?_
        obtain rfl : k = 8 := by omega
        exact h3 rfl
    · exact ⟨fun _ => hL.1 hg, fun N _ h => by cases h⟩
  · cases hF

noncomputable def I132c (t : Bool) (z u : Nat) (k : Nat) : List A := [.bool t, .flt .f64 z, .flt .f64 u, .flt .f64 (sp u k), .int .i64 (kI k)]
noncomputable def J132c (t : Bool) (z u : Nat) (k : Nat) : List O := []
theorem round132c (t : Bool) (z u : Nat) (k : Nat) (L : XK → List A → List (Option O) → Prop) :
    ((exec cfg31 (fun _ => true) (fun _ => none) 0 1000 (loopOf Try.f132 0) (litSt Try.f132.ntmps 640 [4, 5, 6, 7, 8] [] (I132c t z u k) (J132c t z u k))).rt [4, 5, 6, 7, 8] []).Ok L =
    bif decide (kI k ≥ 1) then
      L (XK.normal) ([A.bool t, A.flt FloatKind.f64 z, A.flt FloatKind.f64 u, A.flt FloatKind.f64 (fop BinOp.sub FloatKind.f64 (can FloatKind.f64 4607182418800017408) (fop BinOp.quo FloatKind.f64 (fop BinOp.mul FloatKind.f64 u (sp u k)) (fofInt FloatKind.f64 (IntKind.i64.wrap (IntKind.i64.wrap (Int.ofNat 2 * kI k) * IntKind.i64.wrap (IntKind.i64.wrap (Int.ofNat 2 * kI k) + Int.ofNat 1)))))), A.int IntKind.i64 (IntKind.i64.wrap (kI k - Int.ofNat 1))]) ([])
    else
      L (XK.exit 0) ([A.bool t, A.flt FloatKind.f64 z, A.flt FloatKind.f64 u, A.flt FloatKind.f64 (sp u k), A.int IntKind.i64 (kI k)]) ([]) := by kernel_rfl
noncomputable def F132c : List A → List (Option O) → Option R3
  | [.bool t, .flt .f64 z, .flt .f64 u, .flt .f64 p, .int .i64 k8], [] => some (.ite (Nat.beq p (sp u 0) && decide (k8 = kI 0)) (.leaf .normal (I132c t z u (8)) (J132c t z u (8))) .fail)
  | _, _ => none
theorem loop132c : CodeOK Try.prog (fun _ σ => sumAt Try.f132.ntmps 640 [4, 5, 6, 7, 8] [] F132c σ) (.block 0 (.loop (loopOf Try.f132 0))) := by
  refine block_ok (own := fun _ => true) (lp := (fun _ => none)) (un := 0) (fuel := 1000) cfg31_ok (lp_none _) fun az os R hF hok => ?_
  unfold F132c at hF
  split at hF
  · rename_i t z u p k8
    injection hF with hF
    subst hF
    have hg := hok.guard
    have hg' := hg
    simp only [Bool.and_eq_true, Nat.ble_eq, Nat.beq_eq, decide_eq_true_eq] at hg'
    obtain ⟨rfl, rfl⟩ := hg'
    refine for_fact (ids := []) (fun _ => true) (8) (I132c t z u) (J132c t z u) _ (.ret) (I132c t z u) (I132c t z u) (I132c t z u (8)) (J132c t z u (8)) rfl (OSims.self _) (fun _ => rfl) (fun _ => rfl) (fun _ => ALe.self _) (fun _ => rfl) (ALe.self _) (OSims.self _) rfl (fun h => by cases h) (fun k hk L h1 h2 h3 => ?_) fun L hL => ?_
    · rw [round132c]

      by_cases hkm : k < 8
      · refine condT (kI_test hkm) ?_
        rw [(kI_step hkm).1, (kI_step hkm).2]
        exact h1 hkm rfl _ trivial
      · refine condE (kI_end (by omega)) ?_
        obtain rfl : k = 8 := by omega
        exact h3 rfl
    · exact ⟨fun _ => hL.1 hg, fun N _ h => by cases h⟩
  · cases hF

noncomputable def I132d (t : Bool) (z u : Nat) (k : Nat) : List A := [.bool t, .flt .f64 z, .flt .f64 u, .flt .f64 (sp u k), .int .i64 (kI k)]
noncomputable def J132d (t : Bool) (z u : Nat) (k : Nat) : List O := []
theorem round132d (t : Bool) (z u : Nat) (k : Nat) (L : XK → List A → List (Option O) → Prop) :
    ((exec cfg31 (fun _ => true) (fun _ => none) 0 1000 (loopOf Try.f132 0) (litSt Try.f132.ntmps 688 [4, 5, 6, 7, 8] [] (I132d t z u k) (J132d t z u k))).rt [4, 5, 6, 7, 8] []).Ok L =
    bif decide (kI k ≥ 1) then
      L (XK.normal) ([A.bool t, A.flt FloatKind.f64 z, A.flt FloatKind.f64 u, A.flt FloatKind.f64 (fop BinOp.sub FloatKind.f64 (can FloatKind.f64 4607182418800017408) (fop BinOp.quo FloatKind.f64 (fop BinOp.mul FloatKind.f64 u (sp u k)) (fofInt FloatKind.f64 (IntKind.i64.wrap (IntKind.i64.wrap (Int.ofNat 2 * kI k) * IntKind.i64.wrap (IntKind.i64.wrap (Int.ofNat 2 * kI k) + Int.ofNat 1)))))), A.int IntKind.i64 (IntKind.i64.wrap (kI k - Int.ofNat 1))]) ([])
    else
      L (XK.exit 0) ([A.bool t, A.flt FloatKind.f64 z, A.flt FloatKind.f64 u, A.flt FloatKind.f64 (sp u k), A.int IntKind.i64 (kI k)]) ([]) := by kernel_rfl
noncomputable def F132d : List A → List (Option O) → Option R3
  | [.bool t, .flt .f64 z, .flt .f64 u, .flt .f64 p, .int .i64 k8], [] => some (.ite (Nat.beq p (sp u 0) && decide (k8 = kI 0)) (.leaf .normal (I132d t z u (8)) (J132d t z u (8))) .fail)
  | _, _ => none
theorem loop132d : CodeOK Try.prog (fun _ σ => sumAt Try.f132.ntmps 688 [4, 5, 6, 7, 8] [] F132d σ) (.block 0 (.loop (loopOf Try.f132 0))) := by
  refine block_ok (own := fun _ => true) (lp := (fun _ => none)) (un := 0) (fuel := 1000) cfg31_ok (lp_none _) fun az os R hF hok => ?_
  unfold F132d at hF
  split at hF
  · rename_i t z u p k8
    injection hF with hF
    subst hF
    have hg := hok.guard
    have hg' := hg
    simp only [Bool.and_eq_true, Nat.ble_eq, Nat.beq_eq, decide_eq_true_eq] at hg'
    obtain ⟨rfl, rfl⟩ := hg'
    refine for_fact (ids := []) (fun _ => true) (8) (I132d t z u) (J132d t z u) _ (.ret) (I132d t z u) (I132d t z u) (I132d t z u (8)) (J132d t z u (8)) rfl (OSims.self _) (fun _ => rfl) (fun _ => rfl) (fun _ => ALe.self _) (fun _ => rfl) (ALe.self _) (OSims.self _) rfl (fun h => by cases h) (fun k hk L h1 h2 h3 => ?_) fun L hL => ?_
    · rw [round132d]

      by_cases hkm : k < 8
      · refine condT (kI_test hkm) ?_
        rw [(kI_step hkm).1, (kI_step hkm).2]
        exact h1 hkm rfl _ trivial
      · refine condE (kI_end (by omega)) ?_
        obtain rfl : k = 8 := by omega
        exact h3 rfl
    · exact ⟨fun _ => hL.1 hg, fun N _ h => by cases h⟩
  · cases hF

noncomputable def I80a (t : Bool) (z u : Nat) (k : Nat) : List A := [.bool t, .flt .f64 z, .flt .f64 u, .flt .f64 (sp u k), .flt .f64 (kF k)]
noncomputable def J80a (t : Bool) (z u : Nat) (k : Nat) : List O := []
theorem round80a (t : Bool) (z u : Nat) (k : Nat) (L : XK → List A → List (Option O) → Prop) :
    ((exec cfg31 (fun _ => true) (fun _ => none) 0 1000 (loopOf Try.f80 0) (litSt Try.f80.ntmps 528 [5, 6, 7, 8, 9] [] (I80a t z u k) (J80a t z u k))).rt [5, 6, 7, 8, 9] []).Ok L =
    bif forder FloatKind.f64 (kF k) (can FloatKind.f64 4607182418800017408) == some Ordering.gt || forder FloatKind.f64 (kF k) (can FloatKind.f64 4607182418800017408) == some Ordering.eq then
      L (XK.normal) ([A.bool t, A.flt FloatKind.f64 z, A.flt FloatKind.f64 u, A.flt FloatKind.f64 (fop BinOp.sub FloatKind.f64 (can FloatKind.f64 4607182418800017408) (fop BinOp.quo FloatKind.f64 (fop BinOp.mul FloatKind.f64 u (sp u k)) (fop BinOp.mul FloatKind.f64 (fop BinOp.mul FloatKind.f64 (can FloatKind.f64 4611686018427387904) (kF k)) (fop BinOp.add FloatKind.f64 (fop BinOp.mul FloatKind.f64 (can FloatKind.f64 4611686018427387904) (kF k)) (can FloatKind.f64 4607182418800017408))))), A.flt FloatKind.f64 (fop BinOp.sub FloatKind.f64 (kF k) (can FloatKind.f64 4607182418800017408))]) ([])
    else
      L (XK.exit 0) ([A.bool t, A.flt FloatKind.f64 z, A.flt FloatKind.f64 u, A.flt FloatKind.f64 (sp u k), A.flt FloatKind.f64 (kF k)]) ([]) := by kernel_rfl
noncomputable def F80a : List A → List (Option O) → Option R3
  | [.bool t, .flt .f64 z, .flt .f64 u, .flt .f64 p, .flt .f64 k8], [] => some (.ite (Nat.beq p (sp u 0) && Nat.beq k8 (kF 0)) (.leaf .normal (I80a t z u (8)) (J80a t z u (8))) .fail)
  | _, _ => none
theorem loop80a : CodeOK Try.prog (fun _ σ => sumAt Try.f80.ntmps 528 [5, 6, 7, 8, 9] [] F80a σ) (.block 0 (.loop (loopOf Try.f80 0))) := by
  refine block_ok (own := fun _ => true) (lp := (fun _ => none)) (un := 0) (fuel := 1000) cfg31_ok (lp_none _) fun az os R hF hok => ?_
  unfold F80a at hF
  split at hF
  · rename_i t z u p k8
    injection hF with hF
    subst hF
    have hg := hok.guard
    have hg' := hg
    simp only [Bool.and_eq_true, Nat.ble_eq, Nat.beq_eq, decide_eq_true_eq] at hg'
    obtain ⟨rfl, rfl⟩ := hg'
    refine for_fact (ids := []) (fun _ => true) (8) (I80a t z u) (J80a t z u) _ (.ret) (I80a t z u) (I80a t z u) (I80a t z u (8)) (J80a t z u (8)) rfl (OSims.self _) (fun _ => rfl) (fun _ => rfl) (fun _ => ALe.self _) (fun _ => rfl) (ALe.self _) (OSims.self _) rfl (fun h => by cases h) (fun k hk L h1 h2 h3 => ?_) fun L hL => ?_
    · rw [round80a]

      by_cases hkm : k < 8
      · refine condT (kF_test hkm) ?_
        rw [(kF_step hkm).1, (kF_step hkm).2]
        exact h1 hkm rfl _ trivial
      · refine condE (kF_end (by omega)) ?_
        obtain rfl : k = 8 := by omega
        exact h3 rfl
    · exact ⟨fun _ => hL.1 hg, fun N _ h => by cases h⟩
  · cases hF

noncomputable def I80b (t : Bool) (z u : Nat) (k : Nat) : List A := [.bool t, .flt .f64 z, .flt .f64 u, .flt .f64 (sp u k), .flt .f64 (kF k)]
noncomputable def J80b (t : Bool) (z u : Nat) (k : Nat) : List O := []
theorem round80b (t : Bool) (z u : Nat) (k : Nat) (L : XK → List A → List (Option O) → Prop) :
    ((exec cfg31 (fun _ => true) (fun _ => none) 0 1000 (loopOf Try.f80 0) (litSt Try.f80.ntmps 576 [5, 6, 7, 8, 9] [] (I80b t z u k) (J80b t z u k))).rt [5, 6, 7, 8, 9] []).Ok L =
    bif forder FloatKind.f64 (kF k) (can FloatKind.f64 4607182418800017408) == some Ordering.gt || forder FloatKind.f64 (kF k) (can FloatKind.f64 4607182418800017408) == some Ordering.eq then
      L (XK.normal) ([A.bool t, A.flt FloatKind.f64 z, A.flt FloatKind.f64 u, A.flt FloatKind.f64 (fop BinOp.sub FloatKind.f64 (can FloatKind.f64 4607182418800017408) (fop BinOp.quo FloatKind.f64 (fop BinOp.mul FloatKind.f64 u (sp u k)) (fop BinOp.mul FloatKind.f64 (fop BinOp.mul FloatKind.f64 (can FloatKind.f64 4611686018427387904) (kF k)) (fop BinOp.add FloatKind.f64 (fop BinOp.mul FloatKind.f64 (can FloatKind.f64 4611686018427387904) (kF k)) (can FloatKind.f64 4607182418800017408))))), A.flt FloatKind.f64 (fop BinOp.sub FloatKind.f64 (kF k) (can FloatKind.f64 4607182418800017408))]) ([])
    else
      L (XK.exit 0) ([A.bool t, A.flt FloatKind.f64 z, A.flt FloatKind.f64 u, A.flt FloatKind.f64 (sp u k), A.flt FloatKind.f64 (kF k)]) ([]) := by kernel_rfl
noncomputable def F80b : List A → List (Option O) → Option R3
  | [.bool t, .flt .f64 z, .flt .f64 u, .flt .f64 p, .flt .f64 k8], [] => some (.ite (Nat.beq p (sp u 0) && Nat.beq k8 (kF 0)) (.leaf .normal (I80b t z u (8)) (J80b t z u (8))) .fail)
  | _, _ => none
theorem loop80b : CodeOK Try.prog (fun _ σ => sumAt Try.f80.ntmps 576 [5, 6, 7, 8, 9] [] F80b σ) (.block 0 (.loop (loopOf Try.f80 0))) := by
  refine block_ok (own := fun _ => true) (lp := (fun _ => none)) (un := 0) (fuel := 1000) cfg31_ok (lp_none _) fun az os R hF hok => ?_
  unfold F80b at hF
  split at hF
  · rename_i t z u p k8
    injection hF with hF
    subst hF
    have hg := hok.guard
    have hg' := hg
    simp only [Bool.and_eq_true, Nat.ble_eq, Nat.beq_eq, decide_eq_true_eq] at hg'
    obtain ⟨rfl, rfl⟩ := hg'
    refine for_fact (ids := []) (fun _ => true) (8) (I80b t z u) (J80b t z u) _ (.ret) (I80b t z u) (I80b t z u) (I80b t z u (8)) (J80b t z u (8)) rfl (OSims.self _) (fun _ => rfl) (fun _ => rfl) (fun _ => ALe.self _) (fun _ => rfl) (ALe.self _) (OSims.self _) rfl (fun h => by cases h) (fun k hk L h1 h2 h3 => ?_) fun L hL => ?_
    · rw [round80b]

      by_cases hkm : k < 8
      · refine condT (kF_test hkm) ?_
        rw [(kF_step hkm).1, (kF_step hkm).2]
        exact h1 hkm rfl _ trivial
      · refine condE (kF_end (by omega)) ?_
        obtain rfl : k = 8 := by omega
        exact h3 rfl
    · exact ⟨fun _ => hL.1 hg, fun N _ h => by cases h⟩
  · cases hF

noncomputable def I80c (t : Bool) (z u : Nat) (k : Nat) : List A := [.bool t, .flt .f64 z, .flt .f64 u, .flt .f64 (sp u k), .flt .f64 (kF k)]
noncomputable def J80c (t : Bool) (z u : Nat) (k : Nat) : List O := []
theorem round80c (t : Bool) (z u : Nat) (k : Nat) (L : XK → List A → List (Option O) → Prop) :
    ((exec cfg31 (fun _ => true) (fun _ => none) 0 1000 (loopOf Try.f80 0) (litSt Try.f80.ntmps 624 [5, 6, 7, 8, 9] [] (I80c t z u k) (J80c t z u k))).rt [5, 6, 7, 8, 9] []).Ok L =
    bif forder FloatKind.f64 (kF k) (can FloatKind.f64 4607182418800017408) == some Ordering.gt || forder FloatKind.f64 (kF k) (can FloatKind.f64 4607182418800017408) == some Ordering.eq then
      L (XK.normal) ([A.bool t, A.flt FloatKind.f64 z, A.flt FloatKind.f64 u, A.flt FloatKind.f64 (fop BinOp.sub FloatKind.f64 (can FloatKind.f64 4607182418800017408) (fop BinOp.quo FloatKind.f64 (fop BinOp.mul FloatKind.f64 u (sp u k)) (fop BinOp.mul FloatKind.f64 (fop BinOp.mul FloatKind.f64 (can FloatKind.f64 4611686018427387904) (kF k)) (fop BinOp.add FloatKind.f64 (fop BinOp.mul FloatKind.f64 (can FloatKind.f64 4611686018427387904) (kF k)) (can FloatKind.f64 4607182418800017408))))), A.flt FloatKind.f64 (fop BinOp.sub FloatKind.f64 (kF k) (can FloatKind.f64 4607182418800017408))]) ([])
    else
      L (XK.exit 0) ([A.bool t, A.flt FloatKind.f64 z, A.flt FloatKind.f64 u, A.flt FloatKind.f64 (sp u k), A.flt FloatKind.f64 (kF k)]) ([]) := by kernel_rfl
noncomputable def F80c : List A → List (Option O) → Option R3
  | [.bool t, .flt .f64 z, .flt .f64 u, .flt .f64 p, .flt .f64 k8], [] => some (.ite (Nat.beq p (sp u 0) && Nat.beq k8 (kF 0)) (.leaf .normal (I80c t z u (8)) (J80c t z u (8))) .fail)
  | _, _ => none
theorem loop80c : CodeOK Try.prog (fun _ σ => sumAt Try.f80.ntmps 624 [5, 6, 7, 8, 9] [] F80c σ) (.block 0 (.loop (loopOf Try.f80 0))) := by
  refine block_ok (own := fun _ => true) (lp := (fun _ => none)) (un := 0) (fuel := 1000) cfg31_ok (lp_none _) fun az os R hF hok => ?_
  unfold F80c at hF
  split at hF
  · rename_i t z u p k8
    injection hF with hF
    subst hF
    have hg := hok.guard
    have hg' := hg
    simp only [Bool.and_eq_true, Nat.ble_eq, Nat.beq_eq, decide_eq_true_eq] at hg'
    obtain ⟨rfl, rfl⟩ := hg'
    refine for_fact (ids := []) (fun _ => true) (8) (I80c t z u) (J80c t z u) _ (.ret) (I80c t z u) (I80c t z u) (I80c t z u (8)) (J80c t z u (8)) rfl (OSims.self _) (fun _ => rfl) (fun _ => rfl) (fun _ => ALe.self _) (fun _ => rfl) (ALe.self _) (OSims.self _) rfl (fun h => by cases h) (fun k hk L h1 h2 h3 => ?_) fun L hL => ?_
    · rw [round80c]

      by_cases hkm : k < 8
      · refine condT (kF_test hkm) ?_
        rw [(kF_step hkm).1, (kF_step hkm).2]
        exact h1 hkm rfl _ trivial
      · refine condE (kF_end (by omega)) ?_
        obtain rfl : k = 8 := by omega
        exact h3 rfl
    · exact ⟨fun _ => hL.1 hg, fun N _ h => by cases h⟩
  · cases hF

noncomputable def I80d (t : Bool) (z u : Nat) (k : Nat) : List A := [.bool t, .flt .f64 z, .flt .f64 u, .flt .f64 (sp u k), .flt .f64 (kF k)]
noncomputable def J80d (t : Bool) (z u : Nat) (k : Nat) : List O := []
theorem round80d (t : Bool) (z u : Nat) (k : Nat) (L : XK → List A → List (Option O) → Prop) :
    ((exec cfg31 (fun _ => true) (fun _ => none) 0 1000 (loopOf Try.f80 0) (litSt Try.f80.ntmps 672 [5, 6, 7, 8, 9] [] (I80d t z u k) (J80d t z u k))).rt [5, 6, 7, 8, 9] []).Ok L =
    bif forder FloatKind.f64 (kF k) (can FloatKind.f64 4607182418800017408) == some Ordering.gt || forder FloatKind.f64 (kF k) (can FloatKind.f64 4607182418800017408) == some Ordering.eq then
      L (XK.normal) ([A.bool t, A.flt FloatKind.f64 z, A.flt FloatKind.f64 u, A.flt FloatKind.f64 (fop BinOp.sub FloatKind.f64 (can FloatKind.f64 4607182418800017408) (fop BinOp.quo FloatKind.f64 (fop BinOp.mul FloatKind.f64 u (sp u k)) (fop BinOp.mul FloatKind.f64 (fop BinOp.mul FloatKind.f64 (can FloatKind.f64 4611686018427387904) (kF k)) (fop BinOp.add FloatKind.f64 (fop BinOp.mul FloatKind.f64 (can FloatKind.f64 4611686018427387904) (kF k)) (can FloatKind.f64 4607182418800017408))))), A.flt FloatKind.f64 (fop BinOp.sub FloatKind.f64 (kF k) (can FloatKind.f64 4607182418800017408))]) ([])
    else
      L (XK.exit 0) ([A.bool t, A.flt FloatKind.f64 z, A.flt FloatKind.f64 u, A.flt FloatKind.f64 (sp u k), A.flt FloatKind.f64 (kF k)]) ([]) := by kernel_rfl
noncomputable def F80d : List A → List (Option O) → Option R3
  | [.bool t, .flt .f64 z, .flt .f64 u, .flt .f64 p, .flt .f64 k8], [] => some (.ite (Nat.beq p (sp u 0) && Nat.beq k8 (kF 0)) (.leaf .normal (I80d t z u (8)) (J80d t z u (8))) .fail)
  | _, _ => none
theorem loop80d : CodeOK Try.prog (fun _ σ => sumAt Try.f80.ntmps 672 [5, 6, 7, 8, 9] [] F80d σ) (.block 0 (.loop (loopOf Try.f80 0))) := by
  refine block_ok (own := fun _ => true) (lp := (fun _ => none)) (un := 0) (fuel := 1000) cfg31_ok (lp_none _) fun az os R hF hok => ?_
  unfold F80d at hF
  split at hF
  · rename_i t z u p k8
    injection hF with hF
    subst hF
    have hg := hok.guard
    have hg' := hg
    simp only [Bool.and_eq_true, Nat.ble_eq, Nat.beq_eq, decide_eq_true_eq] at hg'
    obtain ⟨rfl, rfl⟩ := hg'
    refine for_fact (ids := []) (fun _ => true) (8) (I80d t z u) (J80d t z u) _ (.ret) (I80d t z u) (I80d t z u) (I80d t z u (8)) (J80d t z u (8)) rfl (OSims.self _) (fun _ => rfl) (fun _ => rfl) (fun _ => ALe.self _) (fun _ => rfl) (ALe.self _) (OSims.self _) rfl (fun h => by cases h) (fun k hk L h1 h2 h3 => ?_) fun L hL => ?_
    · rw [round80d]

      by_cases hkm : k < 8
      · refine condT (kF_test hkm) ?_
        rw [(kF_step hkm).1, (kF_step hkm).2]
        exact h1 hkm rfl _ trivial
      · refine condE (kF_end (by omega)) ?_
        obtain rfl : k = 8 := by omega
        exact h3 rfl
    · exact ⟨fun _ => hL.1 hg, fun N _ h => by cases h⟩
  · cases hF

noncomputable def N132 (σ : St) : T := match Nat.beq σ.next 544 with
  | true => sumAt Try.f132.ntmps 544 [4, 5, 6, 7, 8] [] F132a σ
  | false => match Nat.beq σ.next 592 with
    | true => sumAt Try.f132.ntmps 592 [4, 5, 6, 7, 8] [] F132b σ
    | false => match Nat.beq σ.next 640 with
      | true => sumAt Try.f132.ntmps 640 [4, 5, 6, 7, 8] [] F132c σ
      | false => sumAt Try.f132.ntmps 688 [4, 5, 6, 7, 8] [] F132d σ
theorem loopN132 : CodeOK Try.prog (fun _ σ => N132 σ) (.block 0 (.loop (loopOf Try.f132 0))) := by
  intro σ L hok
  replace hok : (N132 σ).Ok Try.prog L := hok
  unfold N132 at hok
  split at hok
  · exact loop132a σ L hok
  · split at hok
    · exact loop132b σ L hok
    · split at hok
      · exact loop132c σ L hok
      · exact loop132d σ L hok
noncomputable def N80 (σ : St) : T := match Nat.beq σ.next 528 with
  | true => sumAt Try.f80.ntmps 528 [5, 6, 7, 8, 9] [] F80a σ
  | false => match Nat.beq σ.next 576 with
    | true => sumAt Try.f80.ntmps 576 [5, 6, 7, 8, 9] [] F80b σ
    | false => match Nat.beq σ.next 624 with
      | true => sumAt Try.f80.ntmps 624 [5, 6, 7, 8, 9] [] F80c σ
      | false => sumAt Try.f80.ntmps 672 [5, 6, 7, 8, 9] [] F80d σ
theorem loopN80 : CodeOK Try.prog (fun _ σ => N80 σ) (.block 0 (.loop (loopOf Try.f80 0))) := by
  intro σ L hok
  replace hok : (N80 σ).Ok Try.prog L := hok
  unfold N80 at hok
  split at hok
  · exact loop80a σ L hok
  · split at hok
    · exact loop80b σ L hok
    · split at hok
      · exact loop80c σ L hok
      · exact loop80d σ L hok

end Go.Fw.W1
