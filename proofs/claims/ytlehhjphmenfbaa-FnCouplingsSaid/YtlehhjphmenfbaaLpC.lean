/-
  The same wires: contracts by success.
-/
import Derived.Test.YtlehhjphmenfbaaLpB
import Derived.Test.YtlehhjphmenfbaaLpA
import Derived.Test.YtlehhjphmenfbaaFwD

namespace Go.Fw.E1
open Go.Proofs
theorem walk100 (n m : Nat) (x y z a b c : Nat → Nat) : autoW cfgR4 (fun _ => true) 0 (look lp100) [false] Try.f100 [.ro 3 n (.vecs .f32 x y z), .ro 3 m (.vecs .f32 a b c), .fn 101 []] = some (!Int.ofNat n != Int.ofNat m && (n.beq m && decide (Int.ofNat n = Int.ofNat n) && n.ble 1000 && allUpTo (samVAt x y z a b c) n && true), .bool true) := by kernel_rfl
noncomputable def s100T : List A → Option (Bool × A)
  | [.ro 3 n (.vecs .f32 x y z), .ro 3 m (.vecs .f32 a b c), .fn 101 []] => some (Nat.beq n m && Nat.ble n 1000 && allUpTo (samVAt x y z a b c) n, .bool true)
  | _ => none
theorem s100T_at : EnvAt Try.prog 100 s100T := by
  refine ⟨⟨Try.f100, Try.func100, by kernel_rfl, by kernel_rfl⟩, fun ds cc rr h hc => ?_⟩
  unfold s100T at h
  split at h
  · rename_i n x y z m a b c
    simp only [Option.some.injEq, Prod.mk.injEq] at h
    obtain ⟨rfl, rfl⟩ := h
    simp only [Bool.and_eq_true] at hc
    obtain rfl := Nat.eq_of_beq_eq_true hc.1.1
    have e : (!Int.ofNat n != Int.ofNat n) = true := by simp
    exact autoW_ok cfgR4_ok Try.func100 (by kernel_rfl) lp100_ok (walk100 n n x y z a b c) (by rw [hc.1.1, hc.1.2, hc.2, e, decide_eq_true rfl]; rfl)
  · cases h
noncomputable def envR5 : List (Nat × (List A → Option (Bool × A))) := (100, s100T) :: envR4
theorem envR5_ok : EnvOK Try.prog (look envR5) := env_cons s100T_at envR4_ok
noncomputable def cfgR5 : Cfg := mkCfg tab [] xts (look envR5)
theorem cfgR5_ok : CfgOK Try.prog cfgR5 := cfg_ok tab_eq (no_fts _) xts_ok envR5_ok mixed
end Go.Fw.E1

/-
  The same wires; middles of wires: contracts by success.
-/
namespace Go.Fw.E1
open Go.Proofs
theorem walk50 (n m cur cur2 : Nat) (x y z a b c : Nat → Nat) (cl cl2 : Bool) : autoW cfgR5 (fun _ => true) 0 (fun _ => none) [] Try.f50 [.agg [.ro 3 n (.vecs .f32 x y z), .bool cl, .flt .f32 cur], .agg [.ro 3 m (.vecs .f32 a b c), .bool cl2, .flt .f32 cur2]] = some (n.beq m && n.ble 1000 && allUpTo (samVAt x y z a b c) n && ((samO cur cur2 || !(cl == cl2) == true) && true), .bool (bif cl == cl2 then true else false)) := by kernel_rfl
noncomputable def s50T : List A → Option (Bool × A)
  | [.agg [.ro 3 n (.vecs .f32 x y z), .bool cl, .flt .f32 cur], .agg [.ro 3 m (.vecs .f32 a b c), .bool cl2, .flt .f32 cur2]] => some (Nat.beq n m && Nat.ble n 1000 && allUpTo (samVAt x y z a b c) n && samO cur cur2 && (cl == cl2), .bool true)
  | _ => none
theorem s50T_at : EnvAt Try.prog 50 s50T := by
  refine ⟨⟨Try.f50, Try.func50, by kernel_rfl, by kernel_rfl⟩, fun ds cc rr h hc => ?_⟩
  unfold s50T at h
  split at h
  · rename_i n x y z cl cur m a b c cl2 cur2
    simp only [Option.some.injEq, Prod.mk.injEq] at h
    obtain ⟨rfl, rfl⟩ := h
    simp only [Bool.and_eq_true] at hc
    have key := walk50 n m cur cur2 x y z a b c cl cl2
    rw [hc.2] at key
    exact autoW_ok cfgR5_ok Try.func50 (by kernel_rfl) (lp_none _) key (by rw [hc.1.1.1.1, hc.1.1.1.2, hc.1.1.2, hc.1.2]; rfl)
  · cases h
noncomputable def midS (x : Nat → Nat) : Nat → Nat
  | 0 => 0
  | k + 1 => fop .add .f32 (midS x k) (x k)
noncomputable def I52 (n cur : Nat) (x y z : Nat → Nat) (cl : Bool) (k : Nat) : List A := [.ro 3 n (.vecs .f32 x y z), .int .i64 (Int.ofNat n), .int .i64 (Int.ofNat k), .ptr 112 0, .ptr 0 0, .ptr 16 0, .bool false]
end Go.Fw.E1

/-
  Middles of wires: the loop.
-/
namespace Go.Fw.E1
open Go.Proofs
theorem round52x (n cur k p q r n2 : Nat) (x y z x2 y2 z2 : Nat → Nat) (cl : Bool) (L : XK → List A → List (Option O) → Prop) :
    ((exec cfgR5 (fun _ => true) (fun _ => none) 0 1000 (loopOf Try.f52 0) (litSt Try.f52.ntmps 208 [13, 14, 15, 4, 1, 2, 3] [112, 16, 0] (I52 n cur x y z cl k) [.var [.flt .f32 p, .flt .f32 q, .flt .f32 r], .var [.flt .f32 0, .flt .f32 0, .flt .f32 0], .var [.ro 3 n2 (.vecs .f32 x2 y2 z2), .bool cl, .flt .f32 cur]])).rt [13, 14, 15, 4, 1, 2, 3] [112, 16, 0]).Ok L =
    bif decide (Int.ofNat k < Int.ofNat n) then
      bif decide (Int.ofNat k < Int.ofNat n) then
        L (XK.normal) ([A.ro 3 n (Row.vecs .f32 x y z), A.int .i64 (Int.ofNat n), A.int .i64 (IntKind.i64.wrap (Int.ofNat k + Int.ofNat 1)), A.ptr 112 0, A.ptr 0 0, A.ptr 16 0, A.bool false]) ([some (O.var [A.flt .f32 (fop .add .f32 p (x k)), A.flt .f32 (fop .add .f32 q (y k)), A.flt .f32 (fop .add .f32 r (z k))]), some (O.var [A.flt .f32 0, A.flt .f32 0, A.flt .f32 0]), some (O.var [A.ro 3 n2 (Row.vecs .f32 x2 y2 z2), A.bool cl, A.flt .f32 cur])])
      else
        False
    else
      L (XK.exit 0) ([A.ro 3 n (Row.vecs .f32 x y z), A.int .i64 (Int.ofNat n), A.int .i64 (Int.ofNat k), A.ptr 112 0, A.ptr 0 0, A.ptr 16 0, A.bool false]) ([some (O.var [A.flt .f32 p, A.flt .f32 q, A.flt .f32 r]), some (O.var [A.flt .f32 0, A.flt .f32 0, A.flt .f32 0]), some (O.var [A.ro 3 n2 (Row.vecs .f32 x2 y2 z2), A.bool cl, A.flt .f32 cur])]) := by kernel_rfl
noncomputable def F52 : List A → List (Option O) → Option R3
  | [.ro 3 n (.vecs .f32 x y z), .int .i64 l, .int .i64 0, .ptr 112 0, .ptr 0 0, .ptr 16 0, .bool false], [some (.var [.flt .f32 0, .flt .f32 0, .flt .f32 0]), some (.var [.flt .f32 0, .flt .f32 0, .flt .f32 0]), some (.var [.ro 3 n2 (.vecs .f32 x2 y2 z2), .bool cl, .flt .f32 cur])] => some (.ite (decide (l = Int.ofNat n) && Nat.ble n 1000) (.leaf .normal [.ro 3 n (.vecs .f32 x y z), .int .i64 (Int.ofNat n), .int .i64 (Int.ofNat n), .ptr 112 0, .ptr 0 0, .ptr 16 0, .bool false] [.var [.flt .f32 (midS x n), .flt .f32 (midS y n), .flt .f32 (midS z n)], .var [.flt .f32 0, .flt .f32 0, .flt .f32 0], .var [.ro 3 n2 (.vecs .f32 x2 y2 z2), .bool cl, .flt .f32 cur]]) .fail)
  | _, _ => none
theorem loop52 : CodeOK Try.prog (fun _ σ => sumAt Try.f52.ntmps 208 [13, 14, 15, 4, 1, 2, 3] [112, 16, 0] F52 σ) (.block 0 (.loop (loopOf Try.f52 0))) := by
  refine block_ok (own := fun _ => true) (lp := (fun _ => none)) (un := 0) (fuel := 1000) cfgR5_ok (lp_none _) fun az os R hF hok => ?_
  unfold F52 at hF
  split at hF
  · rename_i n x y z l n2 x2 y2 z2 cl cur
    injection hF with hF
    subst hF
    have hg := hok.guard
    have hg' := hg
    simp only [Bool.and_eq_true, Nat.ble_eq, decide_eq_true_eq] at hg'
    obtain ⟨rfl, hn⟩ := hg'
    refine for_fact (ids := [112, 16, 0]) (fun _ => true) n (I52 n cur x y z cl) (fun k => [.var [.flt .f32 (midS x k), .flt .f32 (midS y k), .flt .f32 (midS z k)], .var [.flt .f32 0, .flt .f32 0, .flt .f32 0], .var [.ro 3 n2 (.vecs .f32 x2 y2 z2), .bool cl, .flt .f32 cur]]) _ (.ret) (I52 n cur x y z cl) (I52 n cur x y z cl) (I52 n cur x y z cl n) [.var [.flt .f32 (midS x n), .flt .f32 (midS y n), .flt .f32 (midS z n)], .var [.flt .f32 0, .flt .f32 0, .flt .f32 0], .var [.ro 3 n2 (.vecs .f32 x2 y2 z2), .bool cl, .flt .f32 cur]] rfl (by exact ⟨rfl, rfl, rfl, trivial⟩) (fun _ => rfl) (fun _ => rfl) (fun _ => ALe.self _) (fun _ => rfl) (ALe.self _) (OSims.self _) rfl (fun h => by cases h) (fun k hk L h1 h2 h3 => ?_) fun L hL => ?_
    · rw [round52x]
      by_cases hkm : k < n
      · refine condT (lt_dec hkm) (condT (lt_dec hkm) ?_)
        rw [wrap_succ (by omega)]
        exact h1 hkm rfl _ ⟨rfl, rfl, rfl, trivial⟩
      · refine condE (ge_dec (by omega)) ?_
        obtain rfl : k = n := by omega
        exact h3 rfl
    · exact ⟨fun _ => hL.1 hg, fun N _ h => by cases h⟩
  · cases hF
noncomputable def lp52 : List (Nat × (St → T)) := [(0, sumAt Try.f52.ntmps 208 [13, 14, 15, 4, 1, 2, 3] [112, 16, 0] F52)]
theorem lp52_ok : LpOK Try.prog (look lp52) (bodyOf Try.f52) := lp_loops (by kernel_rfl) (by kernel_rfl) fun p hp => by
  simp only [lp52, List.mem_cons, List.not_mem_nil, or_false] at hp
  rcases hp with rfl
  · exact loop52
end Go.Fw.E1

/-
  Middles of wires: the contract by success. All contracts for the law of wires.
-/
namespace Go.Fw.E1
open Go.Proofs
noncomputable def midW (x : Nat → Nat) (n : Nat) : Nat := fop .mul .f32 (midS x n) (fop .quo .f32 (can .f32 1065353216) (fofInt .f32 (Int.ofNat n)))
theorem walk52 (n cur : Nat) (x y z : Nat → Nat) (cl : Bool) : autoW cfgR5 (fun _ => true) 0 (look lp52) [false] Try.f52 [.agg [.ro 3 n (.vecs .f32 x y z), .bool cl, .flt .f32 cur]] = some (n.ble 4611686018427387000 && (!!okW n cur x y z && (decide (Int.ofNat n = Int.ofNat n) && n.ble 1000 && (vfin (midW x n) (midW y n) (midW z n) && true))), .tup [.agg [.flt .f32 (midW x n), .flt .f32 (midW y n), .flt .f32 (midW z n)], .bool true]) := by kernel_rfl
noncomputable def s52T : List A → Option (Bool × A)
  | [.agg [.ro 3 n (.vecs .f32 x y z), .bool cl, .flt .f32 cur]] => some (okW n cur x y z && vfin (midW x n) (midW y n) (midW z n), .tup [.agg [.flt .f32 (midW x n), .flt .f32 (midW y n), .flt .f32 (midW z n)], .bool true])
  | _ => none
theorem s52T_at : EnvAt Try.prog 52 s52T := by
  refine ⟨⟨Try.f52, Try.func52, by kernel_rfl, by kernel_rfl⟩, fun ds cc rr h hc => ?_⟩
  unfold s52T at h
  split at h
  · rename_i n x y z cl cur
    simp only [Option.some.injEq, Prod.mk.injEq] at h
    obtain ⟨rfl, rfl⟩ := h
    simp only [Bool.and_eq_true] at hc
    have h2 := okW_n hc.1
    exact autoW_ok cfgR5_ok Try.func52 (by kernel_rfl) lp52_ok (walk52 n cur x y z cl) (by rw [hc.1, hc.2, ble_of (show n ≤ 4611686018427387000 by omega), ble_of (show n ≤ 1000 by omega), decide_eq_true rfl]; rfl)
  · cases h
noncomputable def envR6 : List (Nat × (List A → Option (Bool × A))) := (50, s50T) :: (52, s52T) :: envR5
theorem envR6_ok : EnvOK Try.prog (look envR6) := env_cons s50T_at (env_cons s52T_at envR5_ok)
end Go.Fw.E1

/-
  Lengths of wires: the contract by success.
-/
namespace Go.Fw.E1
open Go.Proofs
noncomputable def s47T : List A → Option (Bool × A)
  | [.agg [.ro 3 n (.vecs .f32 x y z), .bool cl, .flt .f32 cur]] => some (lenOk n cur x y z cl, .tup [.flt .f32 (lenW n x y z cl), .bool true])
  | _ => none
theorem s47T_at : EnvAt Try.prog 47 s47T := by
  refine ⟨s35_at.1, fun ds cc rr h hc => ?_⟩
  unfold s47T at h
  split at h
  · rename_i n x y z cl cur
    simp only [Option.some.injEq, Prod.mk.injEq] at h
    obtain ⟨rfl, rfl⟩ := h
    have h1 : okW n cur x y z = true := by unfold lenOk at hc; rw [Bool.and_eq_true] at hc; exact hc.1
    have h2 := okW_n h1
    have key := s35_at.2 [.agg [.ro 3 n (.vecs .f32 x y z), .bool cl, .flt .f32 cur]] _ _ rfl (ble_of (show n ≤ 1073741824 by omega))
    rw [hc] at key
    exact key
  · cases h
noncomputable def envR7 : List (Nat × (List A → Option (Bool × A))) := (47, s47T) :: envR6
theorem envR7_ok : EnvOK Try.prog (look envR7) := env_cons s47T_at envR6_ok
noncomputable def cfgR7 : Cfg := mkCfg tab [] xts (look envR7)
theorem cfgR7_ok : CfgOK Try.prog cfgR7 := cfg_ok tab_eq (no_fts _) xts_ok envR7_ok mixed
end Go.Fw.E1

/-
  Lists of numbers that are finite.
-/
namespace Go.Fw.E1
open Go.Proofs
def finA (x : Nat → Nat) (i : Nat) : Bool := fin (x i)
theorem auto119x (a : Nat) : autoLp cfgR7 (fun _ => none) Try.f119 [.flt .f32 a] =
    some (true, A.bool !fin a) := by kernel_rfl
noncomputable def s119x : List A → Option (Bool × A)
  | [.flt .f32 a] => some (true, .bool (!fin a))
  | _ => none
theorem s119x_at : EnvAt Try.prog 119 s119x := of_auto cfgR7_ok (lp_none _) Try.func119 (by kernel_rfl) (by kernel_rfl) fun ds cc rr h hc => by
  unfold s119x at h
  split at h
  · rename_i a
    simp only [Option.some.injEq, Prod.mk.injEq] at h
    obtain ⟨rfl, rfl⟩ := h
    refine auto_fit (auto119x a) ?_ ?_
    · rfl
    · rfl
  · cases h
noncomputable def envC1 : List (Nat × (List A → Option (Bool × A))) := (119, s119x) :: envR7
theorem envC1_ok : EnvOK Try.prog (look envC1) := (env_cons s119x_at envR7_ok)
noncomputable def cfgC1 : Cfg := mkCfg tab [] xts (look envC1)
theorem cfgC1_ok : CfgOK Try.prog cfgC1 := cfg_ok tab_eq (no_fts _) xts_ok envC1_ok mixed
noncomputable def I126x (n : Nat) (x : Nat → Nat) (k : Nat) : List A := [.ro 1 n (.flts .f32 x), .fn 119 [], .int .i64 (Int.ofNat 0), .int .i64 (Int.ofNat n), .int .i64 (Int.ofNat k)]
noncomputable def J126x (n : Nat) (x : Nat → Nat) (k : Nat) : List O := []
theorem round126x (n : Nat) (x : Nat → Nat) (k : Nat) (L : XK → List A → List (Option O) → Prop) :
    ((exec cfgC1 (fun _ => true) (fun _ => none) 0 1000 (loopOf Try.f126 0) (litSt Try.f126.ntmps 64 [0, 1, 4, 7, 8] [] (I126x n x k) (J126x n x k))).rt [0, 1, 4, 7, 8] []).Ok L =
    bif decide (Int.ofNat k < Int.ofNat n) then
      bif decide (Int.ofNat k < Int.ofNat n) then
        bif !fin (x k) then
          L (XK.ret) ([A.ro 1 n (Row.flts .f32 x), A.fn 119 [], A.int .i64 (Int.ofNat k), A.int .i64 (Int.ofNat n), A.int .i64 (Int.ofNat k)]) ([])
        else
          L (XK.normal) ([A.ro 1 n (Row.flts .f32 x), A.fn 119 [], A.int .i64 (Int.ofNat 0), A.int .i64 (Int.ofNat n), A.int .i64 (IntKind.i64.wrap (Int.ofNat k + Int.ofNat 1))]) ([])
      else
        False
    else
      L (XK.exit 0) ([A.ro 1 n (Row.flts .f32 x), A.fn 119 [], A.int .i64 (Int.ofNat 0), A.int .i64 (Int.ofNat n), A.int .i64 (Int.ofNat k)]) ([]) := by kernel_rfl
noncomputable def F126x : List A → List (Option O) → Option R3
  | [.ro 1 n (.flts .f32 x), .fn 119 [], .int .i64 0, .int .i64 l, .int .i64 0], [] => some (.ite (decide (l = Int.ofNat n) && Nat.ble n 4611686018427387000) (.ite (allUpTo (finA x) (n)) (.leaf .normal (I126x n x (n)) (J126x n x (n))) (.leaf (.ret) ((fun k => [A.ro 1 n (Row.flts .f32 x), A.fn 119 [], A.int .i64 (Int.ofNat k), A.int .i64 (Int.ofNat n), A.int .i64 (Int.ofNat k)]) (firstIdx (finA x) (n))) (J126x n x (firstIdx (finA x) (n))))) .fail)
  | _, _ => none
theorem loop126x : CodeOK Try.prog (fun _ σ => sumAt Try.f126.ntmps 64 [0, 1, 4, 7, 8] [] F126x σ) (.block 0 (.loop (loopOf Try.f126 0))) := by
  refine block_ok (own := fun _ => true) (lp := (fun _ => none)) (un := 0) (fuel := 1000) cfgC1_ok (lp_none _) fun az os R hF hok => ?_
  unfold F126x at hF
  split at hF
  · rename_i n x l
    injection hF with hF
    subst hF
    have hg := hok.guard
    have hg' := hg
    simp only [Bool.and_eq_true, Nat.ble_eq, Nat.beq_eq, decide_eq_true_eq] at hg'
    obtain ⟨rfl, hn⟩ := hg'
    refine for_fact (ids := []) (finA x) (n) (I126x n x) (J126x n x) _ (.ret) (fun k => [A.ro 1 n (Row.flts .f32 x), A.fn 119 [], A.int .i64 (Int.ofNat k), A.int .i64 (Int.ofNat n), A.int .i64 (Int.ofNat k)]) (fun k => [A.ro 1 n (Row.flts .f32 x), A.fn 119 [], A.int .i64 (Int.ofNat k), A.int .i64 (Int.ofNat n), A.int .i64 (Int.ofNat k)]) (I126x n x (n)) (J126x n x (n)) rfl (OSims.self _) (fun _ => rfl) (fun _ => rfl) (fun _ => ALe.self _) (fun _ => rfl) (ALe.self _) (OSims.self _) rfl (fun h => by cases h) (fun k hk L h1 h2 h3 => ?_) fun L hL => ?_
    · rw [round126x]
      by_cases hkm : k < n
      · refine condT (lt_dec hkm) ?_
        rw [wrap_succ (by omega)]
        refine condT (lt_dec hkm) ?_
        show cond (!(finA x k)) _ _
        cases hs : finA x k
        · exact h2 hkm hs
        · exact h1 hkm hs _ trivial
      · refine condE (ge_dec (by omega)) ?_
        obtain rfl : k = n := by omega
        exact h3 rfl
    · exact ⟨fun h => (hL.1 hg).1 h, fun N hN hf hall => by
        have := (hL.1 hg).2 (allUpTo_false hN hf)
        rw [firstIdx_eq hN hf hall] at this
        exact this⟩
  · cases hF
noncomputable def lp126x : List (Nat × (St → T)) := [(0, sumAt Try.f126.ntmps 64 [0, 1, 4, 7, 8] [] F126x)]
theorem lp126x_ok : LpOK Try.prog (look lp126x) (bodyOf Try.f126) := lp_loops (by kernel_rfl) (by kernel_rfl) fun p hp => by
  simp only [lp126x, List.mem_cons, List.not_mem_nil, or_false] at hp
  rcases hp with rfl
  · exact loop126x
theorem auto126x (n : Nat) (x : Nat → Nat) : autoLp cfgC1 (look lp126x) Try.f126 [.ro 1 n (.flts .f32 x), .fn 119 []] =
    some (decide (Int.ofNat n = Int.ofNat n) && n.ble 4611686018427387000 && bif allUpTo (finA x) n then true else true, A.int .i64 (bif allUpTo (finA x) n then Int.negSucc 0 else Int.ofNat (Fw.firstIdx (finA x) n))) := by kernel_rfl
noncomputable def s126x : List A → Option (Bool × A)
  | [.ro 1 n (.flts .f32 x), .fn 119 []] => some (Nat.ble n 4611686018427387000, .int .i64 (idx (finA x) n))
  | _ => none
theorem s126x_at : EnvAt Try.prog 126 s126x := of_auto cfgC1_ok lp126x_ok Try.func126 (by kernel_rfl) (by kernel_rfl) fun ds cc rr h hc => by
  unfold s126x at h
  split at h
  · rename_i n x
    simp only [Option.some.injEq, Prod.mk.injEq] at h
    obtain ⟨rfl, rfl⟩ := h
    refine auto_fit (auto126x n x) ?_ ?_
    · rfl
    · rw [hc]; simp
  · cases h
noncomputable def envC2 : List (Nat × (List A → Option (Bool × A))) := (126, s126x) :: envC1
theorem envC2_ok : EnvOK Try.prog (look envC2) := (env_cons s126x_at envC1_ok)
noncomputable def cfgC2 : Cfg := mkCfg tab [] xts (look envC2)
theorem cfgC2_ok : CfgOK Try.prog cfgC2 := cfg_ok tab_eq (no_fts _) xts_ok envC2_ok mixed
theorem auto118x (n : Nat) (x : Nat → Nat) : autoLp cfgC2 (fun _ => none) Try.f118 [.ro 1 n (.flts .f32 x), .fn 119 []] =
    some (n.ble 4611686018427387000 && true, A.bool (decide (idx (finA x) n ≥ 0))) := by kernel_rfl
noncomputable def s118x : List A → Option (Bool × A)
  | [.ro 1 n (.flts .f32 x), .fn 119 []] => some (Nat.ble n 4611686018427387000, .bool (!allUpTo (finA x) n))
  | _ => none
theorem s118x_at : EnvAt Try.prog 118 s118x := of_auto cfgC2_ok (lp_none _) Try.func118 (by kernel_rfl) (by kernel_rfl) fun ds cc rr h hc => by
  unfold s118x at h
  split at h
  · rename_i n x
    simp only [Option.some.injEq, Prod.mk.injEq] at h
    obtain ⟨rfl, rfl⟩ := h
    refine auto_fit (auto118x n x) ?_ ?_
    · rw [← idx_ge]
    · simpa using hc
  · cases h
noncomputable def envC3 : List (Nat × (List A → Option (Bool × A))) := (118, s118x) :: envC2
theorem envC3_ok : EnvOK Try.prog (look envC3) := (env_cons s118x_at envC2_ok)
noncomputable def cfgC3 : Cfg := mkCfg tab [] xts (look envC3)
theorem cfgC3_ok : CfgOK Try.prog cfgC3 := cfg_ok tab_eq (no_fts _) xts_ok envC3_ok mixed
theorem auto107x (n : Nat) (x : Nat → Nat) : autoLp cfgC3 (fun _ => none) Try.f107 [.ro 1 n (.flts .f32 x)] =
    some (n.ble 4611686018427387000 && true, A.bool !!allUpTo (finA x) n) := by kernel_rfl
noncomputable def s107x : List A → Option (Bool × A)
  | [.ro 1 n (.flts .f32 x)] => some (Nat.ble n 4611686018427387000, .bool (allUpTo (finA x) n))
  | _ => none
theorem s107x_at : EnvAt Try.prog 107 s107x := of_auto cfgC3_ok (lp_none _) Try.func107 (by kernel_rfl) (by kernel_rfl) fun ds cc rr h hc => by
  unfold s107x at h
  split at h
  · rename_i n x
    simp only [Option.some.injEq, Prod.mk.injEq] at h
    obtain ⟨rfl, rfl⟩ := h
    refine auto_fit (auto107x n x) ?_ ?_
    · simp
    · simpa using hc
  · cases h
noncomputable def envC4 : List (Nat × (List A → Option (Bool × A))) := (107, s107x) :: envC3
theorem envC4_ok : EnvOK Try.prog (look envC4) := (env_cons s107x_at envC3_ok)
noncomputable def cfgC4 : Cfg := mkCfg tab [] xts (look envC4)
theorem cfgC4_ok : CfgOK Try.prog cfgC4 := cfg_ok tab_eq (no_fts _) xts_ok envC4_ok mixed
end Go.Fw.E1

/-
  The couplings of two wires: a contract by success; contracts for counts that are told as integers.
-/
namespace Go.Fw.E1
open Go.Proofs
noncomputable def nat3 (s : List A → Option (Bool × A)) : List A → Option (Bool × A)
  | [a, t, .int .i64 p] => match s [a, t, .int .i64 (.ofNat p.toNat)] with
    | some (c, r) => some (decide (0 ≤ p) && c, r)
    | none => none
  | _ => none
noncomputable def nat4 (s : List A → Option (Bool × A)) : List A → Option (Bool × A)
  | [a, b, t, .int .i64 p] => match s [a, b, t, .int .i64 (.ofNat p.toNat)] with
    | some (c, r) => some (decide (0 ≤ p) && c, r)
    | none => none
  | _ => none
theorem toNat_eq {p : Int} (h : decide (0 ≤ p) = true) : Int.ofNat p.toNat = p := Int.toNat_of_nonneg (of_decide_eq_true h)
theorem nat3_at {f : Nat} {s : List A → Option (Bool × A)} (h : EnvAt Try.prog f s) : EnvAt Try.prog f (nat3 s) := by
  refine ⟨h.1, fun ds c r hs hc => ?_⟩
  unfold nat3 at hs
  split at hs
  · split at hs
    · rename_i heq
      simp only [Option.some.injEq, Prod.mk.injEq] at hs
      obtain ⟨rfl, rfl⟩ := hs
      rw [Bool.and_eq_true] at hc
      rw [toNat_eq hc.1] at heq
      exact h.2 _ _ _ heq hc.2
    · cases hs
  · cases hs
theorem nat4_at {f : Nat} {s : List A → Option (Bool × A)} (h : EnvAt Try.prog f s) : EnvAt Try.prog f (nat4 s) := by
  refine ⟨h.1, fun ds c r hs hc => ?_⟩
  unfold nat4 at hs
  split at hs
  · split at hs
    · rename_i heq
      simp only [Option.some.injEq, Prod.mk.injEq] at hs
      obtain ⟨rfl, rfl⟩ := hs
      rw [Bool.and_eq_true] at hc
      rw [toNat_eq hc.1] at heq
      exact h.2 _ _ _ heq hc.2
    · cases hs
  · cases hs
noncomputable def wcP (n : Nat → Nat) (x y z : Nat → Nat → Nat) (cl : Nat → Bool) (th pp i j : Nat) : Nat := psW (n i) (x i) (y i) (z i) (cl i) (n j) (x j) (y j) (z j) (cl j) th pp
noncomputable def wcF (n : Nat → Nat) (x y z : Nat → Nat → Nat) (cl : Nat → Bool) (th pp : Nat) (j : Nat) : Nat :=
  match decide (j < 3) with
  | true => match decide (j < 2) with
    | true => match decide (j < 1) with
      | true => [wcP n x y z cl th pp 0 0].getD j 0
      | false => [wcP n x y z cl th pp 0 1].getD (j - 1) 0
    | false => [wcP n x y z cl th pp 1 0].getD (j - 2) 0
  | false => [wcP n x y z cl th pp 1 1].getD (j - 3) 0
noncomputable def wcN (n : Nat → Nat) (pp i j : Nat) : Bool := Nat.ble 1 (n i) && (n i).ble 1000 && Nat.ble 1 (n j) && (n j).ble 1000 && pp.ble 32
noncomputable def wcA (n : Nat → Nat) (x y z : Nat → Nat → Nat) (cur : Nat → Nat) (th pp : Nat) : Bool := !bif bif !areW 2 n x y z cur then true else !least th then true else !inI (Int.ofNat pp) (Int.ofNat 1) (Int.ofNat 8)
theorem walk59 (n : Nat → Nat) (x y z : Nat → Nat → Nat) (cl : Nat → Bool) (cur : Nat → Nat) (th pp : Nat) : autoW cfgC4 (fun _ => true) 6 (fun _ => none) [false, true, true, true, false, true, true, true, false, false, false] Try.f59 [.ro 3 2 (.wires n x y z cl cur), .flt .f32 th, .int .i64 (.ofNat pp)] =
    some (allUpTo (shortW n) 2 && (wcA n x y z cur th pp && (wcN n pp 0 0 && (wcN n pp 0 1 && (wcN n pp 1 0 && (wcN n pp 1 1 && (!!allUpTo (finA (wcF n x y z cl th pp)) 4 && true)))))), .tup [.ro 1 4 (.flts .f32 (wcF n x y z cl th pp)), .bool true]) := by kernel_rfl
noncomputable def wcOk (n : Nat → Nat) (x y z : Nat → Nat → Nat) (cl : Nat → Bool) (cur : Nat → Nat) (th pp : Nat) : Bool := allUpTo (shortW n) 2 && (wcA n x y z cur th pp && (wcN n pp 0 1 && allUpTo (finA (wcF n x y z cl th pp)) 4))
noncomputable def s59T : List A → Option (Bool × A)
  | [.ro 3 2 (.wires n x y z cl cur), .flt .f32 th, .int .i64 (.ofNat pp)] => some (wcOk n x y z cl cur th pp, .tup [.ro 1 4 (.flts .f32 (wcF n x y z cl th pp)), .bool true])
  | _ => none
theorem s59T_at : EnvAt Try.prog 59 s59T := by
  refine ⟨⟨Try.f59, Try.func59, by kernel_rfl, by kernel_rfl⟩, fun ds cc rr h hc => ?_⟩
  unfold s59T at h
  split at h
  · rename_i n x y z cl cur th pp
    simp only [Option.some.injEq, Prod.mk.injEq] at h
    obtain ⟨rfl, rfl⟩ := h
    exact autoW_ok cfgC4_ok Try.func59 (by kernel_rfl) (lp_none _) (walk59 n x y z cl cur th pp) (by
      unfold wcOk at hc
      simp only [Bool.and_eq_true] at hc
      obtain ⟨h1, h2, h3, h4⟩ := hc
      have h5 := h3
      unfold wcN at h5
      simp only [Bool.and_eq_true] at h5
      obtain ⟨⟨⟨⟨k1, k2⟩, k3⟩, k4⟩, k5⟩ := h5
      unfold wcN
      rw [h1, h2, h4, k1, k2, k3, k4, k5]; rfl)
  · cases h
noncomputable def envT1 : List (Nat × (List A → Option (Bool × A))) := (59, nat3 s59T) :: (58, nat4 s50) :: envC4
theorem envT1_ok : EnvOK Try.prog (look envT1) := env_cons (nat3_at s59T_at) (env_cons (nat4_at s50_at) envC4_ok)
noncomputable def cfgT1 : Cfg := mkCfg tab [] xts (look envT1)
theorem cfgT1_ok : CfgOK Try.prog cfgT1 := cfg_ok tab_eq (no_fts _) xts_ok envT1_ok mixed
end Go.Fw.E1

/-
  Shares, energies, fluxes, sums of pairs: contracts for two wires.
-/
namespace Go.Fw.E1
open Go.Proofs
noncomputable def envT2 : List (Nat × (List A → Option (Bool × A))) := (78, s92) :: envT1
theorem envT2_ok : EnvOK Try.prog (look envT2) := env_cons s92_at envT1_ok
noncomputable def cfgT2 : Cfg := mkCfg tab [] xts (look envT2)
theorem cfgT2_ok : CfgOK Try.prog cfgT2 := cfg_ok tab_eq (no_fts _) xts_ok envT2_ok mixed
def l2N (a b : Nat) (i : Nat) : Nat := [a, b].getD i 0
def l2F (a b : Nat → Nat) (i : Nat) : Nat → Nat := [a, b].getD i fun _ => 0
def l2B (a b : Bool) (i : Nat) : Bool := [a, b].getD i false
noncomputable def shW (n : Nat) (x y z : Nat → Nat) (cl : Bool) (n2 : Nat) (x2 y2 z2 : Nat → Nat) (cl2 : Bool) (th pp : Nat) : Nat := fop .quo .f32 (wcF (l2N n n2) (l2F x x2) (l2F y y2) (l2F z z2) (l2B cl cl2) th pp 1) (root32 (fop .mul .f32 (wcF (l2N n n2) (l2F x x2) (l2F y y2) (l2F z z2) (l2B cl cl2) th pp 0) (wcF (l2N n n2) (l2F x x2) (l2F y y2) (l2F z z2) (l2B cl cl2) th pp 3)))
theorem walk62 (n cur n2 cur2 th : Nat) (p : Int) (x y z x2 y2 z2 : Nat → Nat) (cl cl2 : Bool) : autoW cfgT2 (fun _ => true) 6 (fun _ => none) [false] Try.f62 [.agg [.ro 3 n (.vecs .f32 x y z), .bool cl, .flt .f32 cur], .agg [.ro 3 n2 (.vecs .f32 x2 y2 z2), .bool cl2, .flt .f32 cur2], .flt .f32 th, .int .i64 p] =
    some (decide (0 ≤ p) && wcOk (l2N n n2) (l2F x x2) (l2F y y2) (l2F z z2) (l2B cl cl2) (l2N cur cur2) th p.toNat && true, .tup [.flt .f32 (bif fin (shW n x y z cl n2 x2 y2 z2 cl2 th p.toNat) then shW n x y z cl n2 x2 y2 z2 cl2 th p.toNat else can .f32 0), .bool (fin (shW n x y z cl n2 x2 y2 z2 cl2 th p.toNat))]) := by kernel_rfl
noncomputable def s62G : List A → Option (Bool × A)
  | [.agg [.ro 3 n (.vecs .f32 x y z), .bool cl, .flt .f32 cur], .agg [.ro 3 n2 (.vecs .f32 x2 y2 z2), .bool cl2, .flt .f32 cur2], .flt .f32 th, .int .i64 p] => some (decide (0 ≤ p) && wcOk (l2N n n2) (l2F x x2) (l2F y y2) (l2F z z2) (l2B cl cl2) (l2N cur cur2) th p.toNat, .tup [.flt .f32 (bif fin (shW n x y z cl n2 x2 y2 z2 cl2 th p.toNat) then shW n x y z cl n2 x2 y2 z2 cl2 th p.toNat else can .f32 0), .bool (fin (shW n x y z cl n2 x2 y2 z2 cl2 th p.toNat))])
  | _ => none
theorem s62G_at : EnvAt Try.prog 62 s62G := by
  refine ⟨⟨Try.f62, Try.func62, by kernel_rfl, by kernel_rfl⟩, fun ds cc rr h hc => ?_⟩
  unfold s62G at h
  split at h
  · rename_i n x y z cl cur n2 x2 y2 z2 cl2 cur2 th p
    simp only [Option.some.injEq, Prod.mk.injEq] at h
    obtain ⟨rfl, rfl⟩ := h
    exact autoW_ok cfgT2_ok Try.func62 (by kernel_rfl) (lp_none _) (walk62 n cur n2 cur2 th p x y z x2 y2 z2 cl cl2) (by rw [hc]; rfl)
  · cases h
noncomputable def enT (f : Nat → Nat) (cur : Nat → Nat) (k i j : Nat) : Nat := fop .mul .f32 (fop .mul .f32 (f k) (cur i)) (cur j)
noncomputable def enF (f : Nat → Nat) (cur : Nat → Nat) : Nat := fop .mul .f32 (can .f32 1056964608) (fop .add .f32 (fop .add .f32 (fop .add .f32 (fop .add .f32 (can .f32 0) (enT f cur 0 0 0)) (enT f cur 1 0 1)) (enT f cur 2 1 0)) (enT f cur 3 1 1))
theorem walk60 (n : Nat → Nat) (x y z : Nat → Nat → Nat) (cl : Nat → Bool) (cur : Nat → Nat) (th : Nat) (p : Int) : autoW cfgT1 (fun _ => true) 6 (fun _ => none) [false, true, true, true, false, true, true, true, false, false] Try.f60 [.ro 3 2 (.wires n x y z cl cur), .flt .f32 th, .int .i64 p] =
    some (decide (0 ≤ p) && wcOk n x y z cl cur th p.toNat && (fin (enF (wcF n x y z cl th p.toNat) cur) && true), .tup [.flt .f32 (enF (wcF n x y z cl th p.toNat) cur), .bool true]) := by kernel_rfl
noncomputable def s60T : List A → Option (Bool × A)
  | [.ro 3 2 (.wires n x y z cl cur), .flt .f32 th, .int .i64 p] => some (decide (0 ≤ p) && wcOk n x y z cl cur th p.toNat && fin (enF (wcF n x y z cl th p.toNat) cur), .tup [.flt .f32 (enF (wcF n x y z cl th p.toNat) cur), .bool true])
  | _ => none
theorem s60T_at : EnvAt Try.prog 60 s60T := by
  refine ⟨⟨Try.f60, Try.func60, by kernel_rfl, by kernel_rfl⟩, fun ds cc rr h hc => ?_⟩
  unfold s60T at h
  split at h
  · rename_i n x y z cl cur th p
    simp only [Option.some.injEq, Prod.mk.injEq] at h
    obtain ⟨rfl, rfl⟩ := h
    exact autoW_ok cfgT1_ok Try.func60 (by kernel_rfl) (lp_none _) (walk60 n x y z cl cur th p) (by
      rw [Bool.and_eq_true] at hc; rw [hc.1, hc.2]; rfl)
  · cases h
noncomputable def psC8 (n n2 : Nat) : Bool := Nat.ble n 1048576 && Nat.ble n2 1048576
noncomputable def s58T : List A → Option (Bool × A)
  | [.agg [.ro 3 n (.vecs .f32 x y z), .bool cl, .flt .f32 cur], .agg [.ro 3 n2 (.vecs .f32 x2 y2 z2), .bool cl2, .flt .f32 cur2], .flt .f32 th, .int .i64 p] => some (decide (0 ≤ p) && (psC8 n n2 && psOk n cur x y z cl n2 cur2 x2 y2 z2 cl2 th p.toNat), .tup [.flt .f32 (psW n x y z cl n2 x2 y2 z2 cl2 th p.toNat), .bool true])
  | _ => none
theorem s58T_at : EnvAt Try.prog 58 s58T := by
  refine ⟨s50_at.1, fun ds c r h hc => ?_⟩
  unfold s58T at h
  split at h
  · rename_i n x y z cl cur n2 x2 y2 z2 cl2 cur2 th p
    simp only [Option.some.injEq, Prod.mk.injEq] at h
    obtain ⟨rfl, rfl⟩ := h
    simp only [Bool.and_eq_true] at hc
    obtain ⟨h1, h2, h3⟩ := hc
    have e := toNat_eq h1
    have key := s50a_at.2 [.agg [.ro 3 n (.vecs .f32 x y z), .bool cl, .flt .f32 cur], .agg [.ro 3 n2 (.vecs .f32 x2 y2 z2), .bool cl2, .flt .f32 cur2], .flt .f32 th, .int .i64 (.ofNat p.toNat)] _ _ rfl h2
    rw [h3, e] at key
    exact key
  · cases h
noncomputable def flC (m : Nat) (n : Nat → Nat) (x y z : Nat → Nat → Nat) (cl : Nat → Bool) (cur : Nat → Nat) (n2 cur2 : Nat) (x2 y2 z2 : Nat → Nat) (cl2 : Bool) (th pp : Nat) : Bool := (Nat.ble m 1048576 && allUpTo (shortW n) m && Nat.ble n2 1048576) && (flxOk m n x y z cl cur n2 cur2 x2 y2 z2 cl2 th pp && fin (fxW n x y z cl cur n2 x2 y2 z2 cl2 th pp (can .f32 0) m))
noncomputable def s61T : List A → Option (Bool × A)
  | [.ro 3 m (.wires n x y z cl cur), .agg [.ro 3 n2 (.vecs .f32 x2 y2 z2), .bool cl2, .flt .f32 cur2], .flt .f32 th, .int .i64 p] => some (decide (0 ≤ p) && flC m n x y z cl cur n2 cur2 x2 y2 z2 cl2 th p.toNat, .tup [.flt .f32 (fxW n x y z cl cur n2 x2 y2 z2 cl2 th p.toNat (can .f32 0) m), .bool true])
  | _ => none
theorem s61T_at : EnvAt Try.prog 61 s61T := by
  refine ⟨s56_at.1, fun ds c r h hc => ?_⟩
  unfold s61T at h
  split at h
  · rename_i m n x y z cl cur n2 x2 y2 z2 cl2 cur2 th p
    simp only [Option.some.injEq, Prod.mk.injEq] at h
    obtain ⟨rfl, rfl⟩ := h
    rw [Bool.and_eq_true] at hc
    obtain ⟨h1, hc⟩ := hc
    have e := toNat_eq h1
    unfold flC at hc
    rw [Bool.and_eq_true] at hc
    obtain ⟨h2, h3⟩ := hc
    have key := s56a_at.2 [.ro 3 m (.wires n x y z cl cur), .agg [.ro 3 n2 (.vecs .f32 x2 y2 z2), .bool cl2, .flt .f32 cur2], .flt .f32 th, .int .i64 (.ofNat p.toNat)] _ _ rfl h2
    rw [h3, e] at key
    exact key
  · cases h
noncomputable def envT3 : List (Nat × (List A → Option (Bool × A))) := (62, s62G) :: (60, s60T) :: (58, s58T) :: (61, s61T) :: envT1
theorem envT3_ok : EnvOK Try.prog (look envT3) := env_cons s62G_at (env_cons s60T_at (env_cons s58T_at (env_cons s61T_at envT1_ok)))
noncomputable def cfgT3 : Cfg := mkCfg tab [] xts (look envT3)
theorem cfgT3_ok : CfgOK Try.prog cfgT3 := cfg_ok tab_eq (no_fts _) xts_ok envT3_ok mixed
end Go.Fw.E1

/-
  The law of couplings: its walk.
-/
namespace Go.Fw.E1
open Go.Proofs
noncomputable def Q4 : Nat := can .f32 1048576000
noncomputable def p10 (v : Int) : Int := IntKind.i64.wrap (Int.ofNat 1 + v)
def l1N (a : Nat) (i : Nat) : Nat := [a].getD i 0
def l1F (a : Nat → Nat) (i : Nat) : Nat → Nat := [a].getD i fun _ => 0
def l1B (a : Bool) (i : Nat) : Bool := [a].getD i false
noncomputable def sz10 (a b : Nat) : Nat := fop .add .f64 (can .f64 4607182418800017408) (fop .mul .f64 (fop .mul .f64 (can .f64 4616189618054758400) (fop .add .f64 (fcvt .f32 .f64 a) (fcvt .f32 .f64 b))) (fop .add .f64 (fcvt .f32 .f64 a) (fcvt .f32 .f64 b)))
noncomputable def c10 (N1 U1 : Nat) (X1 Y1 Z1 : Nat → Nat) (L1 : Bool) (N2 U2 : Nat) (X2 Y2 Z2 : Nat → Nat) (L2 : Bool) (P : Int) : Bool := ((decide (0 ≤ P) && (psC8 N1 N2 && psOk N1 U1 X1 Y1 Z1 L1 N2 U2 X2 Y2 Z2 L2 Q4 P.toNat)) && ((decide (0 ≤ P) && (psC8 N2 N1 && psOk N2 U2 X2 Y2 Z2 L2 N1 U1 X1 Y1 Z1 L1 Q4 P.toNat)) && (okW N2 U2 X2 Y2 Z2 && ((decide (0 ≤ P) && (psC8 N1 N2 && psOk N1 U1 X1 Y1 Z1 L1 N2 U2 (revR N2 X2) (revR N2 Y2) (revR N2 Z2) L2 Q4 P.toNat)) && ((decide (0 ≤ P) && wcOk (l2N N1 N2) (l2F X1 X2) (l2F Y1 Y2) (l2F Z1 Z2) (l2B L1 L2) (l2N U1 U2) Q4 P.toNat) && (((decide (0 ≤ P) && wcOk (l2N N1 N2) (l2F X1 X2) (l2F Y1 Y2) (l2F Z1 Z2) (l2B L1 L2) (l2N U1 U2) Q4 P.toNat) && fin (enF (wcF (l2N N1 N2) (l2F X1 X2) (l2F Y1 Y2) (l2F Z1 Z2) (l2B L1 L2) Q4 P.toNat) (l2N U1 U2))) && ((decide (0 ≤ P) && flC 1 (l1N N2) (l1F X2) (l1F Y2) (l1F Z2) (l1B L2) (l1N U2) N1 U1 X1 Y1 Z1 L1 Q4 P.toNat) && (true && (lenOk N1 U1 X1 Y1 Z1 L1 && (lenOk N2 U2 X2 Y2 Z2 L2 && ((decide (0 ≤ P) && wcOk (l2N N1 N2) (l2F X1 X2) (l2F Y1 Y2) (l2F Z1 Z2) (l2B L1 L2) (l2N U1 U2) Q4 P.toNat) && (true && ((!bif bif forder .f64 (fcvt .f32 .f64 (wcF (l2N N1 N2) (l2F X1 X2) (l2F Y1 Y2) (l2F Z1 Z2) (l2B L1 L2) Q4 P.toNat 0)) (fop .mul .f64 (can .f64 4576918229304087675) (sz10 (lenW N1 X1 Y1 Z1 L1) (lenW N2 X2 Y2 Z2 L2))) == some .gt then forder .f64 (fcvt .f32 .f64 (wcF (l2N N1 N2) (l2F X1 X2) (l2F Y1 Y2) (l2F Z1 Z2) (l2B L1 L2) Q4 P.toNat 3)) (fop .mul .f64 (can .f64 4576918229304087675) (sz10 (lenW N1 X1 Y1 Z1 L1) (lenW N2 X2 Y2 Z2 L2))) == some .gt else false then bif !fin (shW N1 X1 Y1 Z1 L1 N2 X2 Y2 Z2 L2 Q4 P.toNat) then true else forder .f64 (gap8 (fcvt .f32 .f64 (bif fin (shW N1 X1 Y1 Z1 L1 N2 X2 Y2 Z2 L2 Q4 P.toNat) then shW N1 X1 Y1 Z1 L1 N2 X2 Y2 Z2 L2 Q4 P.toNat else can .f32 0)) (can .f64 0)) (can .f64 4607227454796291113) == some .gt else false) && true)))))))))))))
noncomputable def v10 (N1 U1 : Nat) (X1 Y1 Z1 : Nat → Nat) (L1 : Bool) (N2 U2 : Nat) (X2 Y2 Z2 : Nat → Nat) (L2 : Bool) (P : Int) : Bool := bif bif bif bif bif forder .f64 (gap8 (fcvt .f32 .f64 (psW N1 X1 Y1 Z1 L1 N2 X2 Y2 Z2 L2 Q4 P.toNat)) (fcvt .f32 .f64 (psW N2 X2 Y2 Z2 L2 N1 X1 Y1 Z1 L1 Q4 P.toNat))) (fop .mul .f64 (can .f64 4562254508917369340) (sz10 (lenW N1 X1 Y1 Z1 L1) (lenW N2 X2 Y2 Z2 L2))) == some .lt then forder .f64 (gap8 (fcvt .f32 .f64 (psW N1 X1 Y1 Z1 L1 N2 X2 Y2 Z2 L2 Q4 P.toNat)) (fneg .f64 (fcvt .f32 .f64 (psW N1 X1 Y1 Z1 L1 N2 (revR N2 X2) (revR N2 Y2) (revR N2 Z2) L2 Q4 P.toNat)))) (fop .mul .f64 (can .f64 4562254508917369340) (sz10 (lenW N1 X1 Y1 Z1 L1) (lenW N2 X2 Y2 Z2 L2))) == some .lt else false then forder .f32 (wcF (l2N N1 N2) (l2F X1 X2) (l2F Y1 Y2) (l2F Z1 Z2) (l2B L1 L2) Q4 P.toNat 1) (psW N1 X1 Y1 Z1 L1 N2 X2 Y2 Z2 L2 Q4 P.toNat) == some .eq else false then forder .f32 (wcF (l2N N1 N2) (l2F X1 X2) (l2F Y1 Y2) (l2F Z1 Z2) (l2B L1 L2) Q4 P.toNat 2) (psW N2 X2 Y2 Z2 L2 N1 X1 Y1 Z1 L1 Q4 P.toNat) == some .eq else false then forder .f64 (fcvt .f32 .f64 (enF (wcF (l2N N1 N2) (l2F X1 X2) (l2F Y1 Y2) (l2F Z1 Z2) (l2B L1 L2) Q4 P.toNat) (l2N U1 U2))) (fop .mul .f64 (can .f64 13800290266158863483) (sz10 (lenW N1 X1 Y1 Z1 L1) (lenW N2 X2 Y2 Z2 L2))) == some .gt else false then forder .f32 (fop .add .f32 (can .f32 0) (fop .mul .f32 (psW N1 X1 Y1 Z1 L1 N2 X2 Y2 Z2 L2 Q4 P.toNat) U2)) (fop .mul .f32 (psW N1 X1 Y1 Z1 L1 N2 X2 Y2 Z2 L2 Q4 P.toNat) U2) == some .eq else false
theorem walk10 (la lc : Nat) (b c : Nat → Nat) : autoW cfgT3 (fun _ => false) 0 (fun _ => none) [false, false, false, false] Try.f10 [.ro 1 la (.gen fun i => .int .u8 (Int.ofNat (b i))), .ro 1 lc (.gen fun i => .int .u8 (Int.ofNat (c i)))] =
    some ((!bif decide (Int.ofNat la > 48) then true else decide (Int.ofNat lc > 48)) && (allUpTo (isU8 fun i => A.int .u8 (Int.ofNat (b i))) la && (allUpTo (isU8 fun i => A.int .u8 (Int.ofNat (c i))) lc && (allUpTo (isU8 fun i => A.int .u8 (Int.ofNat (c i))) lc && true && true && c10 (wn la b) (wcu la b) (wpx la b) (wpy la b) (wpz la b) (wcl la b) (wn lc c) (wcu lc c) (wpx lc c) (wpy lc c) (wpz lc c) (wcl lc c) (p10 (r8a lc c 40 3))))), .bool (v10 (wn la b) (wcu la b) (wpx la b) (wpy la b) (wpz la b) (wcl la b) (wn lc c) (wcu lc c) (wpx lc c) (wpy lc c) (wpz lc c) (wcl lc c) (p10 (r8a lc c 40 3)))) := by kernel_rfl
theorem long10 (la lc : Nat) (b c : Nat → Nat) : autoW cfgT3 (fun _ => false) 0 (fun _ => none) [true] Try.f10 [.ro 1 la (.gen fun i => .int .u8 (Int.ofNat (b i))), .ro 1 lc (.gen fun i => .int .u8 (Int.ofNat (c i)))] = some ((bif decide (Int.ofNat la > 48) then true else decide (Int.ofNat lc > 48)) && true, .bool true) := by kernel_rfl
end Go.Fw.E1

/-
  Wires fed with another current: contracts.
-/
namespace Go.Fw.E1
open Go.Proofs
end Go.Fw.E1

/-
  Rows of bytes; a current that a byte chooses.
-/
namespace Go.Fw.E1
noncomputable def gL (b : Nat → Nat) (i : Nat) : A := .int .u8 (Int.ofNat (b i))
end Go.Fw.E1

/-
  The law of fields: its walk.
-/
namespace Go.Fw.E1
open Go.Proofs
noncomputable def K2 : Nat := can .f32 1073741824
end Go.Fw.E1

/-
  The law of wires: its walk.
-/
namespace Go.Fw.E1
open Go.Proofs
end Go.Fw.E1

/-
  Fields of rings as the kernel evaluates them.
-/
namespace Go.Fw.E1
open Go.Proofs
section
variable {a b c x y z : Nat} {A B C X Y Z : V} (ha : Rep .f32 a A) (hb : Rep .f32 b B) (hc : Rep .f32 c C) (hx : Rep .f32 x X) (hy : Rep .f32 y Y) (hz : Rep .f32 z Z)
include ha hb hc hx hy hz
end
end Go.Fw.E1

/-
  Bytes' choices, and values of what the kernel evaluates.
-/
namespace Go.Fw.E1
open Go.Proofs
theorem r8a_ex {la : Nat} {b : Nat → Nat} (hb : ∀ i, b i < 256) (k : Nat) {n : Nat} (hn : 0 < n) : ∃ v, v < n ∧ r8a la b (Int.ofNat k) (Int.ofNat n) = Int.ofNat v := by
  unfold r8a
  by_cases h : la ≤ k
  · exact ⟨0, hn, by rw [decide_eq_true (show Int.ofNat k ≥ Int.ofNat la by simp; omega)]; rfl⟩
  · refine ⟨b k % n, Nat.mod_lt _ hn, ?_⟩
    rw [decide_eq_false (show ¬ Int.ofNat k ≥ Int.ofNat la by simp; omega)]
    show (IntKind.i64.wrap (Int.ofNat (b k))).tmod (Int.ofNat n) = _
    rw [wrap_nat (by have := hb k; omega)]; rfl
theorem u8_all {la : Nat} {b : Nat → Nat} (hb : ∀ i, b i < 256) : allUpTo (isU8 (gL b)) la = true := allUpTo_iff.2 fun i _ => by
  show (decide (0 ≤ Int.ofNat (b i)) && decide (Int.ofNat (b i) < 256)) = true
  have := hb i
  rw [decide_eq_true (show 0 ≤ Int.ofNat (b i) from Int.natCast_nonneg _), decide_eq_true (show Int.ofNat (b i) < 256 by simp; omega)]; rfl
theorem gap_val4 {x y : Nat} {a b t : Rat} (hx : Val .f64 x a) (hy : Val .f64 y b) (h : Near (a - b) t) (ht : t ≤ 4) : ∃ g, Val .f64 (gap8 x y) g ∧ g ≤ t + 1 / 2 ^ 50 := by
  have hm : t ≤ most := Rat.le_trans ht (by decide +kernel)
  obtain ⟨c, h1, h2⟩ := hx.sub hy h hm
  obtain ⟨d, h3, h4⟩ := hy.sub hx (X := t) (by unfold Near at *; constructor <;> grind) hm
  refine ⟨_, fmax_val h1 h3, ?_⟩
  have hu : 4 * ur .f64 + tiny .f64 ≤ 1 / 2 ^ 50 := by decide +kernel
  have hup := ur_pos .f64
  have := Rat.mul_le_mul_of_nonneg_right ht (Rat.le_of_lt hup)
  unfold Near at *
  split <;> grind
theorem gap_ngt4 {x y K : Nat} {a b t k : Rat} (hx : Val .f64 x a) (hy : Val .f64 y b) (h : Near (a - b) t) (hK : Val .f64 K k) (ht : t ≤ 4) (hk : t + 1 / 2 ^ 50 < k) : (forder .f64 (gap8 x y) K == some .gt) = false := by
  obtain ⟨g, h1, h2⟩ := gap_val4 hx hy h ht
  rw [forder_lt h1 hK (by grind)]; rfl
end Go.Fw.E1

/-
  The law of fields: rings and turns, evaluated.
-/
namespace Go.Fw.E1
open Go.Proofs
end Go.Fw.E1

/-
  The law of fields: a ring's field, twice the current, gone back.
-/
namespace Go.Fw.E1
open Go.Proofs
structure Place (P Q Z : Nat) (i j k : Nat) : Prop where
  hi : i < 17
  hj : j < 17
  hk : k < 17
  p : Qt P (Int.ofNat i - 8)
  q : Qt Q (Int.ofNat j - 8)
  z : Qt Z (Int.ofNat k + 4)
theorem qt_near {z : Int} {n : Nat} (h : z.natAbs ≤ n) : Near ((z : Rat) * (1 / 4)) ((n : Rat) * (1 / 4)) := by
  have h1 : z ≤ (n : Int) := by omega
  have h2 : -(n : Int) ≤ z := by omega
  have h1 := Rat.intCast_le_intCast.2 h1
  have h2 := Rat.intCast_le_intCast.2 h2
  rw [Rat.intCast_natCast] at h1
  rw [Rat.intCast_neg, Rat.intCast_natCast] at h2
  have q : (0 : Rat) ≤ 1 / 4 := by decide +kernel
  have h1 := Rat.mul_le_mul_of_nonneg_right h1 q
  have h2 := Rat.mul_le_mul_of_nonneg_right h2 q
  rw [Rat.neg_mul] at h2
  exact ⟨h2, h1⟩
section
variable {P Q Z i j k v : Nat} (H : Place P Q Z i j k) (hv : v < 10)
include H hv
end
end Go.Fw.E1

/-
  The law of fields: a square and a place turned together.
-/
namespace Go.Fw.E1
open Go.Proofs
section
variable {P Q Z i j k v : Nat} (H : Place P Q Z i j k) (hv : v < 32)
include H hv
end
end Go.Fw.E1

/-
  The law of fields: rings.
-/
namespace Go.Fw.E1
open Go.Proofs
section
variable {P Q Z i j k v : Nat} (H : Place P Q Z i j k) (hv : v < 10)
include H hv
end
end Go.Fw.E1

/-
  The law of fields: all of it, but for the walk.
-/
namespace Go.Fw.E1
open Go.Proofs
section
variable {P Q Z i j k v u : Nat} (H : Place P Q Z i j k) (hv : v < 10) (hu : u < 32)
include H hv hu
end
end Go.Fw.E1

/-
  Wires fed with another current.
-/
namespace Go.Fw.E1
open Go.Proofs
end Go.Fw.E1

/-
  The law of fields.
-/
namespace Go.Fw.E1
open Go.Proofs
end Go.Fw.E1

/-
  Quarters: sums, differences, doubles as words.
-/
namespace Go.Fw.E1
open Go.Proofs
def hw (j : Nat) : Nat := [3229614080, 3228565504, 3227516928, 3226468352, 3225419776, 3224371200, 3223322624, 3222274048, 3221225472, 3219128320, 3217031168, 3214934016, 3212836864, 3208642560, 3204448256, 3196059648, 0, 1048576000, 1056964608, 1061158912, 1065353216, 1067450368, 1069547520, 1071644672, 1073741824, 1074790400, 1075838976, 1076887552, 1077936128, 1078984704, 1080033280, 1081081856, 1082130432].getD j 0
def dw (j : Nat) : Nat := [3238002688, 3237478400, 3236954112, 3236429824, 3235905536, 3235381248, 3234856960, 3234332672, 3233808384, 3233284096, 3232759808, 3232235520, 3231711232, 3231186944, 3230662656, 3230138368, 3229614080, 3228565504, 3227516928, 3226468352, 3225419776, 3224371200, 3223322624, 3222274048, 3221225472, 3219128320, 3217031168, 3214934016, 3212836864, 3208642560, 3204448256, 3196059648, 0, 1048576000, 1056964608, 1061158912, 1065353216, 1067450368, 1069547520, 1071644672, 1073741824, 1074790400, 1075838976, 1076887552, 1077936128, 1078984704, 1080033280, 1081081856, 1082130432, 1082654720, 1083179008, 1083703296, 1084227584, 1084751872, 1085276160, 1085800448, 1086324736, 1086849024, 1087373312, 1087897600, 1088421888, 1088946176, 1089470464, 1089994752, 1090519040].getD j 0
set_option maxRecDepth 100000 in
theorem qh_tab : allUpTo (fun i => Nat.beq (qw i) (hw (i + 8))) 17 = true := by decide +kernel
theorem qw_hw {i : Nat} (h : i < 17) : qw i = hw (i + 8) := Nat.eq_of_beq_eq_true (allUpTo_iff.1 qh_tab i h)
set_option maxRecDepth 100000 in
theorem add_tab : allUpTo (fun i => allUpTo (fun p => Nat.beq (fop .add .f32 (qw i) (qw p)) (hw (i + p))) 17) 17 = true := by decide +kernel
theorem add_qw {i p : Nat} (hi : i < 17) (hp : p < 17) : fop .add .f32 (qw i) (qw p) = hw (i + p) := Nat.eq_of_beq_eq_true (allUpTo_iff.1 (allUpTo_iff.1 add_tab i hi) p hp)
set_option maxRecDepth 100000 in
theorem sub_tab : allUpTo (fun s => allUpTo (fun t => Nat.beq (fop .sub .f32 (hw s) (hw t)) (dw (s + 32 - t))) 33) 33 = true := by decide +kernel
theorem sub_hw {s t : Nat} (hs : s < 33) (ht : t < 33) : fop .sub .f32 (hw s) (hw t) = dw (s + 32 - t) := Nat.eq_of_beq_eq_true (allUpTo_iff.1 (allUpTo_iff.1 sub_tab s hs) t ht)
end Go.Fw.E1

/-
  Wires of quarters: lengths of moved ones, segments of wires gone back.
-/
namespace Go.Fw.E1
open Go.Proofs
def Qs (x : Nat → Nat) : Prop := ∀ k, ∃ i, i < 17 ∧ x k = qw i
theorem sub_qw {i j : Nat} (hi : i < 17) (hj : j < 17) : fop .sub .f32 (qw i) (qw j) = dw (i + 32 - j) := by
  rw [qw_hw hi, qw_hw hj, sub_hw (by omega) (by omega)]
  congr 1
  omega
set_option maxRecDepth 100000 in
theorem sqr_tab : allUpTo (fun a => Nat.beq (fop .mul .f32 (dw a) (dw a)) (fop .mul .f32 (dw (64 - a)) (dw (64 - a)))) 65 = true := by decide +kernel
theorem sqr_dw {a : Nat} (h : a < 65) : fop .mul .f32 (dw a) (dw a) = fop .mul .f32 (dw (64 - a)) (dw (64 - a)) := Nat.eq_of_beq_eq_true (allUpTo_iff.1 sqr_tab a h)
theorem sqr_sub {x : Nat → Nat} (hx : Qs x) (k j : Nat) : fop .mul .f32 (fop .sub .f32 (x k) (x j)) (fop .sub .f32 (x k) (x j)) = fop .mul .f32 (fop .sub .f32 (x j) (x k)) (fop .sub .f32 (x j) (x k)) := by
  obtain ⟨i, hi, ei⟩ := hx k
  obtain ⟨m, hm, em⟩ := hx j
  rw [ei, em, sub_qw hi hm, sub_qw hm hi, sqr_dw (by omega)]
  rw [show 64 - (i + 32 - m) = m + 32 - i from by omega]
theorem long_back {x y z : Nat → Nat} (hx : Qs x) (hy : Qs y) (hz : Qs z) (k j : Nat) :
    long (fop .sub .f32 (x k) (x j)) (fop .sub .f32 (y k) (y j)) (fop .sub .f32 (z k) (z j)) = long (fop .sub .f32 (x j) (x k)) (fop .sub .f32 (y j) (y k)) (fop .sub .f32 (z j) (z k)) := by
  unfold long inn
  rw [sqr_sub hx, sqr_sub hy, sqr_sub hz]
theorem seg_rev {n k : Nat} {x y z : Nat → Nat} (hx : Qs x) (hy : Qs y) (hz : Qs z) (h : k + 1 < n) :
    segLen (sg n (revR n x) (revR n y) (revR n z)) k = segLen (sg n x y z) (n - 2 - k) := by
  have e1 : nx n k = k + 1 := by unfold nx; exact Nat.mod_eq_of_lt h
  have e2 : nx n (n - 2 - k) = n - 2 - k + 1 := by unfold nx; exact Nat.mod_eq_of_lt (by omega)
  unfold segLen
  show long (fop .sub .f32 (revR n x (nx n k)) (revR n x k)) (fop .sub .f32 (revR n y (nx n k)) (revR n y k)) (fop .sub .f32 (revR n z (nx n k)) (revR n z k)) = long (fop .sub .f32 (x (nx n (n - 2 - k))) (x (n - 2 - k))) (fop .sub .f32 (y (nx n (n - 2 - k))) (y (n - 2 - k))) (fop .sub .f32 (z (nx n (n - 2 - k))) (z (n - 2 - k)))
  rw [e1, e2]
  unfold revR
  rw [show n - 1 - (k + 1) = n - 2 - k from by omega, show n - 1 - k = n - 2 - k + 1 from by omega]
  exact long_back hx hy hz _ _
theorem seg_rev_end {n : Nat} {x y z : Nat → Nat} (hx : Qs x) (hy : Qs y) (hz : Qs z) (h : 0 < n) :
    segLen (sg n (revR n x) (revR n y) (revR n z)) (n - 1) = segLen (sg n x y z) (n - 1) := by
  have e1 : nx n (n - 1) = 0 := by unfold nx; rw [Nat.sub_add_cancel h, Nat.mod_self]
  unfold segLen
  show long (fop .sub .f32 (revR n x (nx n (n - 1))) (revR n x (n - 1))) (fop .sub .f32 (revR n y (nx n (n - 1))) (revR n y (n - 1))) (fop .sub .f32 (revR n z (nx n (n - 1))) (revR n z (n - 1))) = long (fop .sub .f32 (x (nx n (n - 1))) (x (n - 1))) (fop .sub .f32 (y (nx n (n - 1))) (y (n - 1))) (fop .sub .f32 (z (nx n (n - 1))) (z (n - 1)))
  rw [e1]
  unfold revR
  rw [Nat.sub_zero, Nat.sub_self]
  exact long_back hx hy hz _ _
end Go.Fw.E1

/-
  Wires of quarters: how long segments and wires are.
-/
namespace Go.Fw.E1
open Go.Proofs
def St (w : Nat) (z : Int) : Prop := Val .f32 w ((z : Rat) * (1 / 16))
theorem st16 : (1 / 16 : Rat) * ((2 ^ 4 : Nat) : Rat) = 1 := by decide +kernel
theorem st_near {z : Int} (h : z.natAbs < 2 ^ 24) : Near ((z : Rat) * (1 / 16)) most := by
  have h1 := near_most h
  unfold Near at h1 ⊢
  have h2 : (0 : Rat) ≤ most := by decide +kernel
  obtain ⟨h3, h4⟩ := h1
  constructor <;> grind
theorem St.add {x y : Nat} {a b : Int} (hx : St x a) (hy : St y b) (h : (a + b).natAbs < 2 ^ 24) : St (fop .add .f32 x y) (a + b) := by
  have e : (a : Rat) * (1 / 16) + (b : Rat) * (1 / 16) = ((a + b : Int) : Rat) * (1 / 16) := by rw [Rat.intCast_add, Rat.add_mul]
  have := Val.add_exact (e := 4) (m := a + b) hx hy (by rw [e, Rat.mul_assoc, st16, Rat.mul_one]) h (by decide) (by rw [e]; exact st_near h)
  unfold St
  rw [← e]
  exact this
set_option maxRecDepth 100000 in
theorem sqv_tab : allUpTo (fun a => isV .f32 (vof .f32 (fop .mul .f32 (dw a) (dw a))) ((((Int.ofNat a - 32) * (Int.ofNat a - 32) : Int) : Rat) * (1 / 16))) 65 = true := by decide +kernel
theorem sq_st {a : Nat} (h : a < 65) : St (fop .mul .f32 (dw a) (dw a)) ((Int.ofNat a - 32) * (Int.ofNat a - 32)) := Val.of_vof (allUpTo_iff.1 sqv_tab a h)
theorem sq_le {a : Int} {m : Int} (h1 : -m ≤ a) (h2 : a ≤ m) : 0 ≤ a * a ∧ a * a ≤ m * m := by
  constructor
  · rcases Int.le_total 0 a with h | h
    · exact Int.mul_nonneg h h
    · have := Int.mul_nonneg (a := -a) (b := -a) (by omega) (by omega)
      rwa [Int.neg_mul_neg] at this
  · have h3 : 0 ≤ (m - a) * (m + a) := Int.mul_nonneg (by omega) (by omega)
    have h4 : (m - a) * (m + a) = m * m - a * a := by grind
    omega
theorem long_dw {a b c : Nat} (ha : a < 65) (hb : b < 65) (hc : c < 65) : ∃ s m : Rat, Val .f32 (long (dw a) (dw b) (dw c)) s ∧ 0 ≤ s ∧ s ≤ 14 ∧ Near (s * s - m) (m * e22) ∧ 0 ≤ m ∧ m ≤ 192 ∧
    m = (((Int.ofNat a - 32) * (Int.ofNat a - 32) + (Int.ofNat b - 32) * (Int.ofNat b - 32) + (Int.ofNat c - 32) * (Int.ofNat c - 32) : Int) : Rat) * (1 / 16) := by
  have qa := sq_le (a := Int.ofNat a - 32) (m := 32) (by have : (Int.ofNat a) = (a : Int) := rfl; omega) (by have : (Int.ofNat a) = (a : Int) := rfl; omega)
  have qb := sq_le (a := Int.ofNat b - 32) (m := 32) (by have : (Int.ofNat b) = (b : Int) := rfl; omega) (by have : (Int.ofNat b) = (b : Int) := rfl; omega)
  have qc := sq_le (a := Int.ofNat c - 32) (m := 32) (by have : (Int.ofNat c) = (c : Int) := rfl; omega) (by have : (Int.ofNat c) = (c : Int) := rfl; omega)
  have sa := sq_st ha
  have sb := sq_st hb
  have sc := sq_st hc
  generalize (Int.ofNat a - 32) * (Int.ofNat a - 32) = A at *
  generalize (Int.ofNat b - 32) * (Int.ofNat b - 32) = B at *
  generalize (Int.ofNat c - 32) * (Int.ofNat c - 32) = C at *
  have S := (sa.add sb (by omega)).add sc (by omega)
  have z0 : (0 : Rat) ≤ ((A + B + C : Int) : Rat) := Rat.intCast_nonneg.2 (by omega)
  have z1 : ((A + B + C : Int) : Rat) ≤ ((3072 : Int) : Rat) := Rat.intCast_le_intCast.2 (by omega)
  have z1 : ((A + B + C : Int) : Rat) ≤ 3072 := z1
  generalize hm : ((A + B + C : Int) : Rat) * (1 / 16) = m
  have m0 : 0 ≤ m := by grind
  have m1 : m ≤ 192 := by grind
  have S : Val .f32 (inn (dw a) (dw b) (dw c) (dw a) (dw b) (dw c)) m := by unfold St at S; rw [hm] at S; exact S
  obtain ⟨s, h1, h2, h3, _⟩ := S.root m0 (Rat.le_trans m1 (by decide +kernel))
  refine ⟨s, m, h1, h2, ?_, h3, m0, m1, rfl⟩
  refine le_of_sq (by decide) ?_
  have h4 : m * e22 ≤ 192 * (1 / 4194304) := by
    have : m * e22 ≤ 192 * e22 := Rat.mul_le_mul_of_nonneg_right m1 (by decide +kernel)
    exact this
  unfold Near at h3
  grind
end Go.Fw.E1

/-
  Wires of quarters: how long they are, gone back too.
-/
namespace Go.Fw.E1
open Go.Proofs
theorem seg_len {n : Nat} {x y z : Nat → Nat} (hx : Qs x) (hy : Qs y) (hz : Qs z) (k : Nat) : ∃ s : Rat, Val .f32 (segLen (sg n x y z) k) s ∧ 0 ≤ s ∧ s ≤ 14 := by
  obtain ⟨i1, hi1, e1⟩ := hx (nx n k)
  obtain ⟨i2, hi2, e2⟩ := hx k
  obtain ⟨j1, hj1, f1⟩ := hy (nx n k)
  obtain ⟨j2, hj2, f2⟩ := hy k
  obtain ⟨m1, hm1, g1⟩ := hz (nx n k)
  obtain ⟨m2, hm2, g2⟩ := hz k
  obtain ⟨s, _, h1, h2, h3, _⟩ := long_dw (a := i1 + 32 - i2) (b := j1 + 32 - j2) (c := m1 + 32 - m2) (by omega) (by omega) (by omega)
  refine ⟨s, ?_, h2, h3⟩
  show Val .f32 (long (fop .sub .f32 (x (nx n k)) (x k)) (fop .sub .f32 (y (nx n k)) (y k)) (fop .sub .f32 (z (nx n k)) (z k))) s
  rw [e1, e2, f1, f2, g1, g2, sub_qw hi1 hi2, sub_qw hj1 hj2, sub_qw hm1 hm2]
  exact h1
theorem near14 {s : Rat} (h0 : 0 ≤ s) (h1 : s ≤ 14) : Near s 14 := by unfold Near; constructor <;> grind
theorem lenS_val {g : Nat → Nat → Nat} {f : Nat → Rat} {m : Nat} (hm : m ≤ 6) (hf : ∀ k, k < m → Val .f32 (segLen g k) (f k) ∧ 0 ≤ f k ∧ f k ≤ 14) : ∃ v, Val .f32 (lenS g (can .f32 0) m) v ∧ Near (v - rsum f m) (1 / 10000) := by
  have hz : Val .f32 (can .f32 0) 0 := Val.of_vof (by decide +kernel)
  obtain ⟨v, h1, h2⟩ := sum_val (s := fun k => lenS g (can .f32 0) k) (t := segLen g) (f := f) (B := 14) (n := m) hz (fun _ => rfl) (fun k hk => (hf k hk).1) (fun k hk => near14 (hf k hk).2.1 (hf k hk).2.2) (by omega) (by decide) (by decide) m (Nat.le_refl _)
  refine ⟨v, h1, h2.mono ?_⟩
  have hm6 : ((m : Nat) : Rat) ≤ 6 := by
    have : ((m : Nat) : Rat) ≤ ((6 : Nat) : Rat) := Rat.natCast_le_natCast.2 hm
    exact this
  have h3 : ((m : Nat) : Rat) * eta 14 ≤ 6 * eta 14 := Rat.mul_le_mul_of_nonneg_right hm6 (by decide +kernel)
  exact Rat.le_trans h3 (by decide +kernel)
theorem back_val {n : Nat} {x y z : Nat → Nat} (hx : Qs x) (hy : Qs y) (hz : Qs z) (h0 : 2 ≤ n) (h6 : n ≤ 6) (cl : Bool) : ∃ v u, Val .f32 (lenW n x y z cl) v ∧ Val .f32 (lenW n (revR n x) (revR n y) (revR n z) cl) u ∧ Near (u - v) (1 / 5000) := by
  have H : ∀ k, ∃ s : Rat, Val .f32 (segLen (sg n x y z) k) s ∧ 0 ≤ s ∧ s ≤ 14 := seg_len hx hy hz
  let f : Nat → Rat := fun k => (H k).choose
  have hf : ∀ k, Val .f32 (segLen (sg n x y z) k) (f k) ∧ 0 ≤ f k ∧ f k ≤ 14 := fun k => (H k).choose_spec
  have hc : cnt n cl ≤ 6 := Nat.le_trans (cnt_le n cl) h6
  obtain ⟨v, v1, v2⟩ := lenS_val hc (fun k _ => hf k)
  let g : Nat → Rat := fun k => if k + 1 < n then f (n - 2 - k) else f k
  have hg : ∀ k, k < cnt n cl → Val .f32 (segLen (sg n (revR n x) (revR n y) (revR n z)) k) (g k) ∧ 0 ≤ g k ∧ g k ≤ 14 := fun k hk => by
    have hk := cnt_lt hk
    show Val .f32 _ (if k + 1 < n then f (n - 2 - k) else f k) ∧ 0 ≤ (if k + 1 < n then f (n - 2 - k) else f k) ∧ (if k + 1 < n then f (n - 2 - k) else f k) ≤ 14
    by_cases h : k + 1 < n
    · rw [if_pos h, seg_rev hx hy hz h]
      exact hf _
    · rw [if_neg h]
      obtain rfl : k = n - 1 := by omega
      rw [seg_rev_end hx hy hz (by omega)]
      exact hf _
  obtain ⟨u, u1, u2⟩ := lenS_val hc hg
  have hopen : rsum g (n - 1) = rsum f (n - 1) := by
    rw [← rsum_rev f (n - 1)]
    refine rsum_congr _ fun j hj => ?_
    show (if j + 1 < n then f (n - 2 - j) else f j) = f (n - 1 - 1 - j)
    rw [if_pos (by omega)]
  have hs : rsum g (cnt n cl) = rsum f (cnt n cl) := by
    cases cl
    · exact hopen
    · show rsum g n = rsum f n
      obtain ⟨m, rfl⟩ : ∃ m, n = m + 1 := ⟨n - 1, by omega⟩
      show rsum g m + g m = rsum f m + f m
      rw [show rsum g m = rsum f m from hopen]
      show rsum f m + (if m + 1 < m + 1 then f (m + 1 - 2 - m) else f m) = _
      rw [if_neg (by omega)]
  refine ⟨v, u, v1, u1, ?_⟩
  rw [hs] at u2
  generalize rsum f (cnt n cl) = S at u2 v2
  unfold Near at u2 v2 ⊢
  obtain ⟨p1, p2⟩ := u2
  obtain ⟨p3, p4⟩ := v2
  constructor <;> grind
theorem kMil : Val .f64 (can .f64 4562254508917369340) (1152921504606847 / 2 ^ 60) := Val.of_vof (by decide +kernel)
end Go.Fw.E1

/-
  Twice a wire: sums and roots of doubles.
-/
namespace Go.Fw.E1
open Go.Proofs
end Go.Fw.E1

/-
  Twice a wire is twice as long.
-/
namespace Go.Fw.E1
open Go.Proofs
end Go.Fw.E1

/-
  Twice a wire is twice as long: the sums.
-/
namespace Go.Fw.E1
open Go.Proofs
theorem len_bound {g : Nat → Nat → Nat} {f : Nat → Rat} {m : Nat} (hm : m ≤ 6) (hf : ∀ k, k < m → Val .f32 (segLen g k) (f k) ∧ 0 ≤ f k ∧ f k ≤ 14) {v : Rat} (hv : Val .f32 (lenS g (can .f32 0) m) v) : Near v 85 := by
  obtain ⟨u, h1, h2⟩ := lenS_val hm hf
  obtain rfl := hv.unique h1
  have h3 := rsum_near (f := f) (B := 14) m fun j hj => near14 (hf j hj).2.1 (hf j hj).2.2
  have hm6 : ((m : Nat) : Rat) ≤ 6 := by
    have : ((m : Nat) : Rat) ≤ ((6 : Nat) : Rat) := Rat.natCast_le_natCast.2 hm
    exact this
  have h4 : ((m : Nat) : Rat) * 14 ≤ 6 * 14 := Rat.mul_le_mul_of_nonneg_right hm6 (by decide)
  generalize rsum f m = S at h2 h3
  generalize ((m : Nat) : Rat) * 14 = K at h3 h4
  unfold Near at h2 h3 ⊢
  obtain ⟨p1, p2⟩ := h2
  obtain ⟨p3, p4⟩ := h3
  constructor <;> grind
end Go.Fw.E1

/-
  Wires of quarters: all is finite.
-/
namespace Go.Fw.E1
open Go.Proofs
def Vs (x : Nat → Nat) : Prop := ∀ k, ∃ q : Rat, Val .f32 (x k) q
theorem okW_vs {n c : Nat} {x y z : Nat → Nat} (h0 : 2 ≤ n) (h6 : n ≤ 6) (hc : fin c = true) (hx : Vs x) (hy : Vs y) (hz : Vs z) : okW n c x y z = true := by
  unfold okW
  have h : allUpTo (vfinAt x y z) n = true := allUpTo_iff.2 fun k _ => by
    obtain ⟨a, ha⟩ := hx k
    obtain ⟨b, hb⟩ := hy k
    obtain ⟨d, hd⟩ := hz k
    unfold vfinAt vfin
    rw [fin_val ha, fin_val hb, fin_val hd]
    rfl
  rw [h, hc, decide_eq_true (show 2 ≤ n ∧ n ≤ 48 by omega)]
  rfl
theorem Qs.vs {x : Nat → Nat} (h : Qs x) : Vs x := fun k => by
  obtain ⟨i, hi, e⟩ := h k
  exact ⟨_, by rw [e]; exact qw_qt hi⟩
theorem Qs.rev {x : Nat → Nat} (h : Qs x) (n : Nat) : Qs (revR n x) := fun k => h _
theorem fin_qw {i : Nat} (h : i < 17) : fin (qw i) = true := fin_val (qw_qt h)
section
variable {n c : Nat} {x y z : Nat → Nat} (hx : Qs x) (hy : Qs y) (hz : Qs z) (h0 : 2 ≤ n) (h6 : n ≤ 6) (hc : fin c = true)
include hx hy hz h0 h6 hc
theorem ok_own : okW n c x y z = true := okW_vs h0 h6 hc hx.vs hy.vs hz.vs
theorem ok_rev : okW n c (revR n x) (revR n y) (revR n z) = true := okW_vs h0 h6 hc (hx.rev n).vs (hy.rev n).vs (hz.rev n).vs
theorem len_own (cl : Bool) : lenOk n c x y z cl = true := by
  unfold lenOk
  obtain ⟨v, _, h1, _⟩ := back_val hx hy hz h0 h6 cl
  rw [ok_own hx hy hz h0 h6 hc, fin_val h1]
  rfl
end
end Go.Fw.E1

/-
  Wires of quarters: distances that are next to nothing; products and areas.
-/
namespace Go.Fw.E1
open Go.Proofs
set_option maxRecDepth 1000000 in
theorem mul_tab : allUpTo (fun s => allUpTo (fun t => isV .f32 (vof .f32 (fop .mul .f32 (hw s) (hw t))) ((((Int.ofNat s - 16) * (Int.ofNat t - 16) : Int) : Rat) * (1 / 16))) 33) 33 = true := by decide +kernel
theorem mul_hw {s t : Nat} (hs : s < 33) (ht : t < 33) : St (fop .mul .f32 (hw s) (hw t)) ((Int.ofNat s - 16) * (Int.ofNat t - 16)) := Val.of_vof (allUpTo_iff.1 (allUpTo_iff.1 mul_tab s hs) t ht)
theorem St.sub {x y : Nat} {a b : Int} (hx : St x a) (hy : St y b) (h : (a - b).natAbs < 2 ^ 24) : St (fop .sub .f32 x y) (a - b) := by
  have e : (a : Rat) * (1 / 16) - (b : Rat) * (1 / 16) = ((a - b : Int) : Rat) * (1 / 16) := by rw [Rat.intCast_sub]; grind
  have := Val.sub_exact (e := 4) (m := a - b) hx hy (by rw [e, Rat.mul_assoc, st16, Rat.mul_one]) h (by decide) (by rw [e]; exact st_near h)
  unfold St
  rw [← e]
  exact this
def Hs (x : Nat → Nat) (i : Nat → Int) : Prop := ∀ k, ∃ s, s < 33 ∧ x k = hw s ∧ i k = Int.ofNat s - 16
theorem mul_bound {a b : Int} (h1 : -16 ≤ a) (h2 : a ≤ 16) (h3 : -16 ≤ b) (h4 : b ≤ 16) : -256 ≤ a * b ∧ a * b ≤ 256 := by
  have e1 : 0 ≤ (16 - a) * (16 + b) := Int.mul_nonneg (by omega) (by omega)
  have e2 : 0 ≤ (16 + a) * (16 - b) := Int.mul_nonneg (by omega) (by omega)
  have e3 : 0 ≤ (16 - a) * (16 - b) := Int.mul_nonneg (by omega) (by omega)
  have e4 : 0 ≤ (16 + a) * (16 + b) := Int.mul_nonneg (by omega) (by omega)
  have f1 : (16 - a) * (16 + b) = 256 - 16 * a + 16 * b - a * b := by grind
  have f2 : (16 + a) * (16 - b) = 256 + 16 * a - 16 * b - a * b := by grind
  have f3 : (16 - a) * (16 - b) = 256 - 16 * a - 16 * b + a * b := by grind
  have f4 : (16 + a) * (16 + b) = 256 + 16 * a + 16 * b + a * b := by grind
  omega
theorem cross_st {b c y z : Nat → Nat} {ib ic iy iz : Nat → Int} (hb : Hs b ib) (hc : Hs c ic) (hy : Hs y iy) (hz : Hs z iz) (k j : Nat) : St (fop .sub .f32 (fop .mul .f32 (b k) (z j)) (fop .mul .f32 (c k) (y j))) (ib k * iz j - ic k * iy j) ∧ -512 ≤ ib k * iz j - ic k * iy j ∧ ib k * iz j - ic k * iy j ≤ 512 := by
  obtain ⟨s1, h1, e1, f1⟩ := hb k
  obtain ⟨s2, h2, e2, f2⟩ := hc k
  obtain ⟨s3, h3, e3, f3⟩ := hy j
  obtain ⟨s4, h4, e4, f4⟩ := hz j
  have o : ∀ x : Nat, (Int.ofNat x) = (x : Int) := fun _ => rfl
  have m1 := mul_bound (a := ib k) (b := iz j) (by rw [f1, o]; omega) (by rw [f1, o]; omega) (by rw [f4, o]; omega) (by rw [f4, o]; omega)
  have m2 := mul_bound (a := ic k) (b := iy j) (by rw [f2, o]; omega) (by rw [f2, o]; omega) (by rw [f3, o]; omega) (by rw [f3, o]; omega)
  have a1 := mul_hw h1 h4
  have a2 := mul_hw h2 h3
  rw [← f1, ← f4] at a1
  rw [← f2, ← f3] at a2
  rw [e1, e2, e3, e4]
  exact ⟨a1.sub a2 (by omega), by omega, by omega⟩
end Go.Fw.E1

/-
  Wires of quarters: areas are sums of integers, and the same for closed wires that are moved.
-/
namespace Go.Fw.E1
open Go.Proofs
def isum (f : Nat → Int) : Nat → Int
  | 0 => 0
  | k + 1 => isum f k + f k
theorem ar_st {s t : Nat → Nat} {f : Nat → Int} (h0 : St (s 0) 0) (hs : ∀ k, s (k + 1) = fop .add .f32 (s k) (t k)) (ht : ∀ k, St (t k) (f k) ∧ -512 ≤ f k ∧ f k ≤ 512) : ∀ k, k ≤ 6 → St (s k) (isum f k) ∧ -(512 * (k : Int)) ≤ isum f k ∧ isum f k ≤ 512 * (k : Int)
  | 0, _ => ⟨h0, by simp [isum], by simp [isum]⟩
  | k + 1, hk => by
    obtain ⟨h1, h2, h3⟩ := ar_st h0 hs ht k (by omega)
    obtain ⟨g1, g2, g3⟩ := ht k
    rw [hs]
    show St _ (isum f k + f k) ∧ _ ≤ isum f k + f k ∧ isum f k + f k ≤ _
    exact ⟨h1.add g1 (by omega), by omega, by omega⟩
theorem move_term (Y Z Y' Z' q r : Int) : (Y + q) * (Z' + r) - (Z + r) * (Y' + q) = (Y * Z' - Z * Y') + (q * (Z' - Z) - r * (Y' - Y)) := by grind
theorem move_part {n : Nat} (Y Z : Nat → Int) (q r : Int) : ∀ m, m + 1 ≤ n → isum (fun k => (Y k + q) * (Z (nx n k) + r) - (Z k + r) * (Y (nx n k) + q)) m = isum (fun k => Y k * Z (nx n k) - Z k * Y (nx n k)) m + (q * (Z m - Z 0) - r * (Y m - Y 0))
  | 0, _ => by simp [isum]
  | m + 1, h => by
    have e : nx n m = m + 1 := by unfold nx; exact Nat.mod_eq_of_lt (by omega)
    show isum (fun k => (Y k + q) * (Z (nx n k) + r) - (Z k + r) * (Y (nx n k) + q)) m + ((Y m + q) * (Z (nx n m) + r) - (Z m + r) * (Y (nx n m) + q)) = isum (fun k => Y k * Z (nx n k) - Z k * Y (nx n k)) m + (Y m * Z (nx n m) - Z m * Y (nx n m)) + _
    rw [move_part Y Z q r m (by omega), move_term, e]
    grind
theorem move_sum {n : Nat} (h : 1 ≤ n) (Y Z : Nat → Int) (q r : Int) : isum (fun k => (Y k + q) * (Z (nx n k) + r) - (Z k + r) * (Y (nx n k) + q)) n = isum (fun k => Y k * Z (nx n k) - Z k * Y (nx n k)) n := by
  obtain ⟨m, rfl⟩ : ∃ m, n = m + 1 := ⟨n - 1, by omega⟩
  have e : nx (m + 1) m = 0 := by unfold nx; exact Nat.mod_self _
  show isum (fun k => (Y k + q) * (Z (nx (m + 1) k) + r) - (Z k + r) * (Y (nx (m + 1) k) + q)) m + ((Y m + q) * (Z (nx (m + 1) m) + r) - (Z m + r) * (Y (nx (m + 1) m) + q)) = isum (fun k => Y k * Z (nx (m + 1) k) - Z k * Y (nx (m + 1) k)) m + (Y m * Z (nx (m + 1) m) - Z m * Y (nx (m + 1) m))
  rw [move_part Y Z q r m (Nat.le_refl _), move_term, e]
  grind
theorem half_st {w : Nat} {z : Int} (h : St w z) (hz : z.natAbs ≤ 3072) : ∃ v : Rat, Val .f32 (fop .mul .f32 w (can .f32 1056964608)) v ∧ Near (v - (z : Rat) * (1 / 32)) (1 / 50000) := by
  have hk : Val .f32 (can .f32 1056964608) (1 / 2) := Val.of_vof (by decide +kernel)
  have z1 : (z : Rat) ≤ 3072 := by
    have : (z : Rat) ≤ ((3072 : Int) : Rat) := Rat.intCast_le_intCast.2 (by omega)
    exact this
  have z2 : (-3072 : Rat) ≤ (z : Rat) := by
    have : ((-3072 : Int) : Rat) ≤ (z : Rat) := Rat.intCast_le_intCast.2 (by omega)
    exact this
  obtain ⟨v, h1, h2⟩ := Val.mul h hk (X := 96) (by unfold Near; constructor <;> grind) (by decide +kernel)
  refine ⟨v, h1, ?_⟩
  have h3 := h2.mono (show (96 : Rat) * ur .f32 + tiny .f32 ≤ 1 / 50000 by decide +kernel)
  rw [show (z : Rat) * (1 / 16) * (1 / 2) = (z : Rat) * (1 / 32) by grind] at h3
  exact h3
end Go.Fw.E1

/-
  Wires of quarters: areas of closed wires stay where they are moved.
-/
namespace Go.Fw.E1
open Go.Proofs
theorem qs_hs {x : Nat → Nat} (hx : Qs x) : ∃ i : Nat → Int, Hs x i ∧ ∀ p, p < 17 → Hs (adX (qw p) x) (fun k => i k + (Int.ofNat p - 8)) := by
  have o : ∀ x : Nat, (Int.ofNat x) = (x : Int) := fun _ => rfl
  obtain ⟨j, hj⟩ : ∃ j : Nat → Nat, ∀ k, j k < 17 ∧ x k = qw (j k) := ⟨fun k => (hx k).choose, fun k => (hx k).choose_spec⟩
  refine ⟨fun k => Int.ofNat (j k) - 8, fun k => ?_, fun p hp k => ?_⟩
  · obtain ⟨h1, h2⟩ := hj k
    refine ⟨j k + 8, by omega, by rw [← qw_hw h1]; exact h2, ?_⟩
    show Int.ofNat (j k) - 8 = Int.ofNat (j k + 8) - 16
    rw [o, o]
    omega
  · obtain ⟨h1, h2⟩ := hj k
    refine ⟨j k + p, by omega, ?_, ?_⟩
    · rw [← add_qw h1 hp, ← h2]
      rfl
    · show Int.ofNat (j k) - 8 + (Int.ofNat p - 8) = Int.ofNat (j k + p) - 16
      rw [o, o, o]
      omega
theorem half_area {n : Nat} {b c : Nat → Nat} {ib ic : Nat → Int} (hb : Hs b ib) (hc : Hs c ic) {s : Nat → Nat} (h0 : s 0 = 0) (hs : ∀ k, s (k + 1) = fop .add .f32 (s k) (fop .sub .f32 (fop .mul .f32 (b k) (c (nx n k))) (fop .mul .f32 (c k) (b (nx n k))))) {m : Nat} (hm : m ≤ 6) :
    ∃ v : Rat, Val .f32 (fop .mul .f32 (s m) (can .f32 1056964608)) v ∧ Near (v - ((isum (fun k => ib k * ic (nx n k) - ic k * ib (nx n k)) m : Int) : Rat) * (1 / 32)) (1 / 50000) := by
  have z0 : St (s 0) 0 := by
    rw [h0]
    have : Val .f32 0 (((0 : Int) : Rat) * (1 / 16)) := Val.of_vof (by decide +kernel)
    exact this
  obtain ⟨h1, h2, h3⟩ := ar_st z0 hs (fun k => cross_st hb hc hb hc k (nx n k)) m hm
  exact half_st h1 (by omega)
theorem part_near {n : Nat} {b c : Nat → Nat} (hb : Qs b) (hc : Qs c) {p q : Nat} (hp : p < 17) (hq : q < 17) (h1 : 1 ≤ n) (h6 : n ≤ 6) {s s' : Nat → Nat} (h0 : s 0 = 0) (hs : ∀ k, s (k + 1) = fop .add .f32 (s k) (fop .sub .f32 (fop .mul .f32 (b k) (c (nx n k))) (fop .mul .f32 (c k) (b (nx n k)))))
    (h0' : s' 0 = 0) (hs' : ∀ k, s' (k + 1) = fop .add .f32 (s' k) (fop .sub .f32 (fop .mul .f32 (adX (qw p) b k) (adX (qw q) c (nx n k))) (fop .mul .f32 (adX (qw q) c k) (adX (qw p) b (nx n k))))) :
    ∃ d : Rat, Val .f32 (fop .sub .f32 (fop .mul .f32 (s n) (can .f32 1056964608)) (fop .mul .f32 (s' n) (can .f32 1056964608))) d ∧ Near d (1 / 5000) := by
  obtain ⟨ib, b1, b2⟩ := qs_hs hb
  obtain ⟨ic, c1, c2⟩ := qs_hs hc
  obtain ⟨v, v1, v2⟩ := half_area b1 c1 h0 hs h6
  obtain ⟨u, u1, u2⟩ := half_area (b2 p hp) (c2 q hq) h0' hs' h6
  have e := move_sum h1 ib ic (Int.ofNat p - 8) (Int.ofNat q - 8)
  rw [e] at u2
  generalize ((isum (fun k => ib k * ic (nx n k) - ic k * ib (nx n k)) n : Int) : Rat) * (1 / 32) = S at u2 v2
  have hd : Near (v - u) (1 / 25000) := by
    unfold Near at u2 v2 ⊢
    obtain ⟨p1, p2⟩ := u2
    obtain ⟨p3, p4⟩ := v2
    constructor <;> grind
  obtain ⟨d, d1, d2⟩ := Val.sub v1 u1 hd (by decide +kernel)
  refine ⟨d, d1, ?_⟩
  have d2 := d2.mono (show (1 / 25000 : Rat) * ur .f32 + tiny .f32 ≤ 1 / 50000 by decide +kernel)
  unfold Near at hd d2 ⊢
  obtain ⟨p1, p2⟩ := hd
  obtain ⟨p3, p4⟩ := d2
  constructor <;> grind
end Go.Fw.E1

/-
  Wires of quarters: areas and moments are finite; moments are areas times currents.
-/
namespace Go.Fw.E1
open Go.Proofs
end Go.Fw.E1

/-
  Wires of quarters: sums of places, one through a count.
-/
namespace Go.Fw.E1
open Go.Proofs
end Go.Fw.E1

/-
  Wires of quarters: middles move with their wires.
-/
namespace Go.Fw.E1
open Go.Proofs
end Go.Fw.E1

/-
  Wires of quarters: segments of turned ones are as long, nearly (fractions alone).
-/
namespace Go.Fw.E1
open Go.Proofs
section
variable {C S x y p q : Rat} (hC : Near (C * C + S * S - 1) (2 * ur .f32)) (hp : p = C * x - S * y) (hq : q = S * x + C * y)
include hC hp hq
end
end Go.Fw.E1

/-
  Pieces of wires of quarters, in numbers.
-/
namespace Go.Fw.E1
open Go.Proofs
theorem inv_val {pp : Nat} (h0 : 1 ≤ pp) (h3 : pp ≤ 3) : ∃ i : Rat, Val .f32 (inv pp) i ∧ Near (i * (pp : Rat) - 1) (1 / 4194304) := by
  match pp, h0, h3 with
  | 1, _, _ => exact ⟨1, Val.of_vof (by decide +kernel), ⟨by decide +kernel, by decide +kernel⟩⟩
  | 2, _, _ => exact ⟨1 / 2, Val.of_vof (by decide +kernel), ⟨by decide +kernel, by decide +kernel⟩⟩
  | 3, _, _ => exact ⟨11184811 / 2 ^ 25, Val.of_vof (by decide +kernel), ⟨by decide +kernel, by decide +kernel⟩⟩
def mdR (k pp : Nat) : Rat := (2 * (k : Rat) + 1) / (2 * (pp : Rat))
theorem mid_val {pp k : Nat} (h0 : 1 ≤ pp) (h3 : pp ≤ 3) (hk : k < pp) : ∃ i : Rat, Val .f32 (mid k pp) i ∧ Near (i - mdR k pp) (1 / 4194304) ∧ Near i 1 ∧ 0 ≤ mdR k pp ∧ mdR k pp ≤ 1 := by
  match pp, h0, h3, k, hk with
  | 1, _, _, 0, _ => exact ⟨1 / 2, Val.of_vof (by decide +kernel), ⟨by decide +kernel, by decide +kernel⟩, ⟨by decide +kernel, by decide +kernel⟩, by decide +kernel, by decide +kernel⟩
  | 2, _, _, 0, _ => exact ⟨1 / 4, Val.of_vof (by decide +kernel), ⟨by decide +kernel, by decide +kernel⟩, ⟨by decide +kernel, by decide +kernel⟩, by decide +kernel, by decide +kernel⟩
  | 2, _, _, 1, _ => exact ⟨3 / 4, Val.of_vof (by decide +kernel), ⟨by decide +kernel, by decide +kernel⟩, ⟨by decide +kernel, by decide +kernel⟩, by decide +kernel, by decide +kernel⟩
  | 3, _, _, 0, _ => exact ⟨11184811 / 2 ^ 26, Val.of_vof (by decide +kernel), ⟨by decide +kernel, by decide +kernel⟩, ⟨by decide +kernel, by decide +kernel⟩, by decide +kernel, by decide +kernel⟩
  | 3, _, _, 1, _ => exact ⟨1 / 2, Val.of_vof (by decide +kernel), ⟨by decide +kernel, by decide +kernel⟩, ⟨by decide +kernel, by decide +kernel⟩, by decide +kernel, by decide +kernel⟩
  | 3, _, _, 2, _ => exact ⟨13981013 / 2 ^ 24, Val.of_vof (by decide +kernel), ⟨by decide +kernel, by decide +kernel⟩, ⟨by decide +kernel, by decide +kernel⟩, by decide +kernel, by decide +kernel⟩
theorem piece_val {a u pp k : Nat} {A U : Rat} (ha : Val .f32 a A) (hu : Val .f32 u U) (hd : Val .f32 (fop .sub .f32 u a) (U - A)) (nA : Near A 2) (nU : Near U 2) (h0 : 1 ≤ pp) (h3 : pp ≤ 3) (hk : k < pp) :
    ∃ q m : Rat, Val .f32 (fop .mul .f32 (fop .sub .f32 u a) (inv pp)) q ∧ Val .f32 (fop .add .f32 a (fop .mul .f32 (fop .sub .f32 u a) (mid k pp))) m ∧
      Near (q - (U - A) * (1 / (pp : Rat))) (nabs ((U - A) * (1 / (pp : Rat))) * (1 / 2097152) + tiny .f32) ∧ Near (m - (A + (U - A) * mdR k pp)) (1 / 524288) ∧ Near m (201 / 100) := by
  obtain ⟨i, i1, i2⟩ := inv_val h0 h3
  obtain ⟨μ, μ1, μ2, μ3, μ4, μ5⟩ := mid_val h0 h3 hk
  have p0 : (0 : Rat) < (pp : Rat) := Rat.natCast_pos.2 (by omega)
  have hr : 1 / (pp : Rat) * (pp : Rat) = 1 := Rat.div_mul_cancel (by grind)
  have nD := (nU.sub nA).mono (show (2 + 2 : Rat) ≤ 4 by decide +kernel)
  have big : (8 : Rat) ≤ most := by decide +kernel
  have nr0 : 0 ≤ 1 / (pp : Rat) := by
    refine Rat.le_of_mul_le_mul_right (c := (pp : Rat)) ?_ p0
    rw [hr, Rat.zero_mul]; decide
  have p1 : (1 : Rat) ≤ (pp : Rat) := Rat.natCast_le_natCast.2 h0
  have nr1 : 1 / (pp : Rat) ≤ 1 := by
    refine Rat.le_of_mul_le_mul_right (c := (pp : Rat)) ?_ p0
    rw [hr]; grind
  generalize hDe : U - A = D at *
  generalize 1 / (pp : Rat) = r at *
  have iR : Near (i - r) (r * (1 / 4194304)) := by
    have e : i - r = r * (i * (pp : Rat) - 1) := by grind
    rw [e]
    exact (show Near r r by unfold Near; constructor <;> grind).mul i2
  have di : D * i = D * r + D * (i - r) := by grind
  have k4 : (1 / 4194304 : Rat) ≤ 1 := by decide +kernel
  have sm : r * (1 / 4194304) ≤ r := by
    have := Rat.mul_le_mul_of_nonneg_left k4 nr0
    grind
  have nDr := nabs_pos (D * r)
  have eD : nabs D * r = nabs (D * r) := by
    unfold nabs
    by_cases h : 0 ≤ D
    · have := Rat.mul_nonneg h nr0
      rw [if_pos h, if_pos this]
    · by_cases hz : 0 ≤ D * r
      · rw [if_neg h, if_pos hz]
        have := Rat.mul_nonneg (show 0 ≤ -D by grind) nr0
        grind
      · rw [if_neg h, if_neg hz]; grind
  have dIR := (nabs_near D).mul iR
  have e1 : nabs D * (r * (1 / 4194304)) = nabs (D * r) * (1 / 4194304) := by rw [← eD]; grind
  rw [e1] at dIR
  have nX : Near (D * i) (nabs (D * r) + nabs (D * r) * (1 / 4194304)) := by
    rw [di]; exact (nabs_near (D * r)).add dIR
  have nDr4 : nabs (D * r) ≤ 4 := by
    rw [← eD]
    have h1 := Rat.mul_le_mul_of_nonneg_left nr1 (nabs_pos D)
    have h2 := nabs_le_of nD
    grind
  obtain ⟨q, q1, q2⟩ := hd.mul i1 nX (by
    have := Rat.mul_le_mul_of_nonneg_left k4 nDr
    grind)
  have nDμ := nD.mul μ3
  obtain ⟨s, s1, s2⟩ := hd.mul μ1 nDμ (by grind)
  have kk1 : (4 * 1 : Rat) * ur .f32 + tiny .f32 ≤ 1 / 2097152 := by decide +kernel
  have s3 := s2.mono kk1
  have dM := nD.mul μ2
  have kk2 : (4 : Rat) * (1 / 4194304) ≤ 1 / 1048576 := by decide +kernel
  have dM := dM.mono kk2
  have M2 : Near (A + D * mdR k pp) 2 := by
    have hU : U = A + D := by grind
    have e : A + D * mdR k pp = A * (1 - mdR k pp) + U * mdR k pp := by rw [hU]; grind
    rw [e]
    have h1 := (show Near (1 - mdR k pp) (1 - mdR k pp) by unfold Near; constructor <;> grind)
    have h2 := (show Near (mdR k pp) (mdR k pp) by unfold Near; constructor <;> grind)
    refine ((nA.mul h1).add (nU.mul h2)).mono ?_
    grind
  have sM : Near (s - D * mdR k pp) (1 / 2097152 + 1 / 1048576) := by
    have e : s - D * mdR k pp = (s - D * μ) + D * (μ - mdR k pp) := by grind
    rw [e]
    exact s3.add dM
  have nAs : Near (A + s) 3 := by
    have := M2.add sM
    have e : A + D * mdR k pp + (s - D * mdR k pp) = A + s := by grind
    rw [e] at this
    exact this.mono (by decide +kernel)
  obtain ⟨m, m1, m2⟩ := ha.add s1 nAs (by grind)
  have kk3 : (3 : Rat) * ur .f32 + tiny .f32 + (1 / 2097152 + 1 / 1048576) ≤ 1 / 524288 := by decide +kernel
  have mM : Near (m - (A + D * mdR k pp)) (1 / 524288) := by
    have e : m - (A + D * mdR k pp) = (m - (A + s)) + (s - D * mdR k pp) := by grind
    rw [e]
    exact (m2.add sM).mono kk3
  refine ⟨q, m, q1, m1, ?_, mM, ?_⟩
  · have e : q - D * r = (q - D * i) + D * (i - r) := by grind
    rw [e]
    refine (q2.add dIR).mono ?_
    have h1 : ur .f32 + 1 / 4194304 * ur .f32 + 1 / 4194304 ≤ 1 / 2097152 := by decide +kernel
    have h1 := Rat.mul_le_mul_of_nonneg_left h1 nDr
    grind
  · have := M2.add mM
    rw [show A + D * mdR k pp + (m - (A + D * mdR k pp)) = m by grind] at this
    exact this.mono (by decide +kernel)
end Go.Fw.E1

/-
  All pieces of a wire of quarters.
-/
namespace Go.Fw.E1
open Go.Proofs
theorem q_val {x : Nat → Nat} (hx : Qs x) (k : Nat) : Val .f32 (x k) (vl (x k)) ∧ Near (vl (x k)) 2 := by
  obtain ⟨i, hi, e⟩ := hx k
  have q := qw_qt hi
  have o : ∀ x : Nat, (Int.ofNat x) = (x : Int) := fun _ => rfl
  have n := qt_near (z := Int.ofNat i - 8) (n := 8) (by rw [o]; omega)
  rw [show ((8 : Nat) : Rat) * (1 / 4) = 2 by decide +kernel] at n
  rw [e, vl_eq q]
  exact ⟨q, n⟩
theorem q_diff {x : Nat → Nat} (hx : Qs x) (k j : Nat) : Val .f32 (fop .sub .f32 (x k) (x j)) (vl (x k) - vl (x j)) ∧ ∃ z : Int, -16 ≤ z ∧ z ≤ 16 ∧ vl (x k) - vl (x j) = (z : Rat) * (1 / 4) ∧ ∃ a, a < 65 ∧ fop .sub .f32 (x k) (x j) = dw a ∧ Int.ofNat a - 32 = z := by
  obtain ⟨i, hi, e⟩ := hx k
  obtain ⟨m, hm, f⟩ := hx j
  have q := qw_qt hi
  have p := qw_qt hm
  have o : ∀ x : Nat, (Int.ofNat x) = (x : Int) := fun _ => rfl
  have s := q.sub p (by rw [o, o]; omega)
  have ev : vl (x k) - vl (x j) = (((Int.ofNat i - 8) - (Int.ofNat m - 8) : Int) : Rat) * (1 / 4) := by
    rw [e, f, vl_eq q, vl_eq p, Rat.intCast_sub (Int.ofNat i - 8)]; grind
  refine ⟨by rw [ev, e, f]; exact s, (Int.ofNat i - 8) - (Int.ofNat m - 8), by rw [o, o]; omega, by rw [o, o]; omega, ev, i + 32 - m, by omega, by rw [e, f, sub_qw hi hm], ?_⟩
  rw [o, o, o]
  omega
theorem seg_sq {n : Nat} {x y z : Nat → Nat} (hx : Qs x) (hy : Qs y) (hz : Qs z) (k : Nat) : ∃ l m : Rat, Val .f32 (segLen (sg n x y z) k) l ∧ 0 ≤ l ∧ l ≤ 14 ∧ Near (l * l - m) (m * e22) ∧ 0 ≤ m ∧
    m = (vl (x (nx n k)) - vl (x k)) * (vl (x (nx n k)) - vl (x k)) + (vl (y (nx n k)) - vl (y k)) * (vl (y (nx n k)) - vl (y k)) + (vl (z (nx n k)) - vl (z k)) * (vl (z (nx n k)) - vl (z k)) := by
  obtain ⟨_, d1, _, _, e1, a, a1, a2, a3⟩ := q_diff hx (nx n k) k
  obtain ⟨_, d2, _, _, e2, b, b1, b2, b3⟩ := q_diff hy (nx n k) k
  obtain ⟨_, d3, _, _, e3, c, c1, c2, c3⟩ := q_diff hz (nx n k) k
  obtain ⟨s, m, s1, s2, s3, s4, s5, _, s6⟩ := long_dw a1 b1 c1
  refine ⟨s, m, ?_, s2, s3, s4, s5, ?_⟩
  · show Val .f32 (long (fop .sub .f32 (x (nx n k)) (x k)) (fop .sub .f32 (y (nx n k)) (y k)) (fop .sub .f32 (z (nx n k)) (z k))) s
    rw [a2, b2, c2]; exact s1
  · rw [a3, b3, c3] at s6
    have k16 : (1 / 4 : Rat) * (1 / 4) = 1 / 16 := by decide +kernel
    have sq : ∀ d : Int, (d : Rat) * (1 / 4) * ((d : Rat) * (1 / 4)) = ((d * d : Int) : Rat) * (1 / 16) := fun d => by
      rw [Rat.intCast_mul, ← k16]; grind
    rw [e1, e2, e3, sq, sq, sq, s6, ← Rat.add_mul, ← Rat.add_mul, ← Rat.intCast_add, ← Rat.intCast_add]
noncomputable def idl (n pp : Nat) (x y z : Nat → Nat) (j c : Nat) : Rat :=
  match c with
  | 0 => (vl (x (nx n (j / pp))) - vl (x (j / pp))) * (1 / (pp : Rat))
  | 1 => (vl (y (nx n (j / pp))) - vl (y (j / pp))) * (1 / (pp : Rat))
  | 2 => (vl (z (nx n (j / pp))) - vl (z (j / pp))) * (1 / (pp : Rat))
  | 3 => vl (x (j / pp)) + (vl (x (nx n (j / pp))) - vl (x (j / pp))) * mdR (j % pp) pp
  | 4 => vl (y (j / pp)) + (vl (y (nx n (j / pp))) - vl (y (j / pp))) * mdR (j % pp) pp
  | _ => vl (z (j / pp)) + (vl (z (nx n (j / pp))) - vl (z (j / pp))) * mdR (j % pp) pp
noncomputable def lamS (n pp : Nat) (x y z : Nat → Nat) (s : Nat) : Rat := vl (segLen (sg n x y z) s) * (1 / (pp : Rat)) * (1 + 1 / 524288) + 1 / 1099511627776
noncomputable def lamW (n pp : Nat) (x y z : Nat → Nat) (j : Nat) : Rat := lamS n pp x y z (j / pp)
theorem way_one {q P : Rat} (h : Near (q - P) (nabs P * (1 / 2097152) + tiny .f32)) (hP : nabs P ≤ 4) : q * q ≤ (1 + 1 / 700000) * (P * P) + 20 * tiny .f32 := by
  have n0 := nabs_pos P
  have ns := nabs_sq P
  have t0 := tiny_pos .f32
  have t1 : tiny .f32 ≤ 1 := by decide +kernel
  have h1 : nabs q ≤ nabs P + (nabs P * (1 / 2097152) + tiny .f32) := by
    refine nabs_le_of ?_
    have := (nabs_near P).add h
    rw [show P + (q - P) = q by grind] at this
    exact this
  have h2 := sq_mono (nabs_pos q) h1
  rw [nabs_sq] at h2
  rw [← ns]
  have k4 : (1 + 1 / 2097152) * (1 + 1 / 2097152) ≤ (1 + 1 / 700000 : Rat) := by decide +kernel
  have k2 : (1 + 1 / 2097152 : Rat) ≤ 2 := by decide +kernel
  have e : nabs P + (nabs P * (1 / 2097152) + tiny .f32) = nabs P * (1 + 1 / 2097152) + tiny .f32 := by grind
  rw [e] at h2
  generalize (1 + 1 / 2097152 : Rat) = β at *
  generalize (1 + 1 / 700000 : Rat) = γ at *
  generalize nabs P = p at *
  generalize tiny .f32 = t at *
  have pp := Rat.mul_nonneg n0 n0
  have m1 := Rat.mul_le_mul_of_nonneg_right k4 pp
  have pt := Rat.mul_nonneg n0 (Rat.le_of_lt t0)
  have m2 : p * t ≤ 4 * t := Rat.mul_le_mul_of_nonneg_right hP (Rat.le_of_lt t0)
  have m3 : β * (p * t) ≤ 2 * (p * t) := Rat.mul_le_mul_of_nonneg_right k2 pt
  have m4 : t * t ≤ t * 1 := Rat.mul_le_mul_of_nonneg_left t1 (Rat.le_of_lt t0)
  have ex : (p * β + t) * (p * β + t) = β * β * (p * p) + 2 * (β * (p * t)) + t * t := by grind
  rw [ex] at h2
  grind
theorem way_len {a b c P Q R s m r : Rat} (ha : Near (a - P) (nabs P * (1 / 2097152) + tiny .f32)) (hb : Near (b - Q) (nabs Q * (1 / 2097152) + tiny .f32)) (hc : Near (c - R) (nabs R * (1 / 2097152) + tiny .f32)) (nP : nabs P ≤ 4) (nQ : nabs Q ≤ 4) (nR : nabs R ≤ 4)
    (hm : P * P + Q * Q + R * R = m * (r * r)) (hs : Near (s * s - m) (m * e22)) (s0 : 0 ≤ s) (m0 : 0 ≤ m) (r0 : 0 ≤ r) :
    a * a + b * b + c * c ≤ (s * r * (1 + 1 / 524288) + 1 / 1099511627776) * (s * r * (1 + 1 / 524288) + 1 / 1099511627776) ∧ P * P + Q * Q + R * R ≤ (s * r * (1 + 1 / 524288) + 1 / 1099511627776) * (s * r * (1 + 1 / 524288) + 1 / 1099511627776) := by
  have wa := way_one ha nP
  have wb := way_one hb nQ
  have wc := way_one hc nR
  have e1 : e22 ≤ 1 / 2 := by decide +kernel
  have e0 := e22_pos
  have me := Rat.mul_le_mul_of_nonneg_left e1 m0
  have m2 : m ≤ 2 * (s * s) := by unfold Near at hs; grind
  have m3 := Rat.mul_le_mul_of_nonneg_right m2 (Rat.le_of_lt e0)
  have m4 : m ≤ (1 + 2 * e22) * (s * s) := by unfold Near at hs; grind
  have rr := Rat.mul_nonneg r0 r0
  have m5 := Rat.mul_le_mul_of_nonneg_right m4 rr
  have sr := Rat.mul_nonneg s0 r0
  have srsr := Rat.mul_nonneg sr sr
  have k1 : (1 + 1 / 700000) * (1 + 2 * e22) ≤ (1 + 1 / 524288) * (1 + 1 / 524288 : Rat) := by decide +kernel
  have k2 : (1 + 2 * e22) ≤ (1 + 1 / 524288) * (1 + 1 / 524288 : Rat) := by decide +kernel
  have k1 := Rat.mul_le_mul_of_nonneg_right k1 srsr
  have k2 := Rat.mul_le_mul_of_nonneg_right k2 srsr
  have kt : 60 * tiny .f32 ≤ 1 / 1099511627776 * (1 / 1099511627776) := by decide +kernel
  have kt0 : (0 : Rat) ≤ 1 / 1099511627776 * (1 / 1099511627776) := by decide +kernel
  have k0 : (0 : Rat) ≤ 2 * ((1 + 1 / 524288) * (1 / 1099511627776)) := by decide +kernel
  have k3 := Rat.mul_nonneg k0 sr
  have k7 : (0 : Rat) ≤ 1 + 1 / 700000 := by decide +kernel
  have m6 := Rat.mul_le_mul_of_nonneg_left m5 k7
  rw [← hm] at m5 m6
  have m7 : (1 + 1 / 700000) * (P * P) + (1 + 1 / 700000) * (Q * Q) + (1 + 1 / 700000) * (R * R) = (1 + 1 / 700000) * (P * P + Q * Q + R * R) := by grind
  have ex : (s * r * (1 + 1 / 524288) + 1 / 1099511627776) * (s * r * (1 + 1 / 524288) + 1 / 1099511627776) = (1 + 1 / 524288) * (1 + 1 / 524288) * (s * r * (s * r)) + 2 * ((1 + 1 / 524288) * (1 / 1099511627776)) * (s * r) + 1 / 1099511627776 * (1 / 1099511627776) := by grind
  have ey : (1 + 2 * e22) * (s * s) * (r * r) = (1 + 2 * e22) * (s * r * (s * r)) := by grind
  have ez : (1 + 1 / 700000) * ((1 + 2 * e22) * (s * s) * (r * r)) = (1 + 1 / 700000) * (1 + 2 * e22) * (s * r * (s * r)) := by grind
  rw [ey] at m5
  rw [ez] at m6
  rw [ex]
  generalize (1 + 1 / 524288) * (1 + 1 / 524288 : Rat) * (s * r * (s * r)) = G1 at *
  generalize (1 + 1 / 700000) * (1 + 2 * e22) * (s * r * (s * r)) = G2 at *
  generalize (1 + 2 * e22) * (s * r * (s * r)) = G3 at *
  generalize 2 * ((1 + 1 / 524288) * (1 / 1099511627776 : Rat)) * (s * r) = G4 at *
  generalize (1 / 1099511627776 : Rat) * (1 / 1099511627776) = G5 at *
  generalize (1 + 1 / 700000 : Rat) = G6 at *
  constructor
  · grind
  · grind
section
variable {n pp : Nat} {x y z : Nat → Nat} (hx : Qs x) (hy : Qs y) (hz : Qs z) (h0 : 1 ≤ pp) (h3 : pp ≤ 3)
include hx hy hz h0 h3
theorem piece_one (j : Nat) : ∃ a : Nat → Rat, Pc1 (pc (sg n x y z) pp j 0) (pc (sg n x y z) pp j 1) (pc (sg n x y z) pp j 2) (pc (sg n x y z) pp j 3) (pc (sg n x y z) pp j 4) (pc (sg n x y z) pp j 5) (a 0) (a 1) (a 2) (a 3) (a 4) (a 5) (lamW n pp x y z j) ∧
    (∀ c, c < 3 → Near (a c - idl n pp x y z j c) (nabs (idl n pp x y z j c) * (1 / 2097152) + tiny .f32)) ∧ (∀ c, 3 ≤ c → c < 6 → Near (a c - idl n pp x y z j c) (1 / 524288)) ∧
    idl n pp x y z j 0 * idl n pp x y z j 0 + idl n pp x y z j 1 * idl n pp x y z j 1 + idl n pp x y z j 2 * idl n pp x y z j 2 ≤ lamW n pp x y z j * lamW n pp x y z j := by
  have hk : j % pp < pp := Nat.mod_lt _ (by omega)
  obtain ⟨ax, ax2⟩ := q_val hx (j / pp)
  obtain ⟨ux, ux2⟩ := q_val hx (nx n (j / pp))
  obtain ⟨ay, ay2⟩ := q_val hy (j / pp)
  obtain ⟨uy, uy2⟩ := q_val hy (nx n (j / pp))
  obtain ⟨az, az2⟩ := q_val hz (j / pp)
  obtain ⟨uz, uz2⟩ := q_val hz (nx n (j / pp))
  obtain ⟨q1, m1, a1, a2, a3, a4, a5⟩ := piece_val ax ux (q_diff hx _ _).1 ax2 ux2 h0 h3 hk
  obtain ⟨q2, m2, b1, b2, b3, b4, b5⟩ := piece_val ay uy (q_diff hy _ _).1 ay2 uy2 h0 h3 hk
  obtain ⟨q3, m3, c1, c2, c3, c4, c5⟩ := piece_val az uz (q_diff hz _ _).1 az2 uz2 h0 h3 hk
  obtain ⟨s, m, s1, s2, s3, s4, s5, s6⟩ := seg_sq (n := n) hx hy hz (j / pp)
  have p0 : (0 : Rat) < (pp : Rat) := Rat.natCast_pos.2 (by omega)
  have hr : 1 / (pp : Rat) * (pp : Rat) = 1 := Rat.div_mul_cancel (by grind)
  have r0 : 0 ≤ 1 / (pp : Rat) := by
    refine Rat.le_of_mul_le_mul_right (c := (pp : Rat)) ?_ p0
    rw [hr, Rat.zero_mul]; decide
  have p1 : (1 : Rat) ≤ (pp : Rat) := Rat.natCast_le_natCast.2 h0
  have r1 : 1 / (pp : Rat) ≤ 1 := by
    refine Rat.le_of_mul_le_mul_right (c := (pp : Rat)) ?_ p0
    rw [hr]; grind
  have el : lamW n pp x y z j = s * (1 / (pp : Rat)) * (1 + 1 / 524288) + 1 / 1099511627776 := by
    unfold lamW lamS
    rw [vl_eq s1]
  have small : ∀ {u v : Rat}, Near u 2 → Near v 2 → nabs ((v - u) * (1 / (pp : Rat))) ≤ 4 := fun {u v} hu hv => by
    have h1 := (hv.sub hu).mono (show (2 + 2 : Rat) ≤ 4 by decide +kernel)
    have h2 := h1.mul (show Near (1 / (pp : Rat)) 1 by unfold Near; constructor <;> grind)
    rw [show (4 * 1 : Rat) = 4 by decide +kernel] at h2
    exact nabs_le_of h2
  have WL := way_len a3 b3 c3 (small ax2 ux2) (small ay2 uy2) (small az2 uz2) (m := m) (r := 1 / (pp : Rat)) (by rw [s6]; grind) s4 s2 s5 r0
  have sr := Rat.mul_nonneg s2 r0
  have sr14 : s * (1 / (pp : Rat)) ≤ 14 := by
    have h1 := Rat.mul_le_mul_of_nonneg_left r1 s2
    grind
  refine ⟨fun c => match c with | 0 => q1 | 1 => q2 | 2 => q3 | 3 => m1 | 4 => m2 | _ => m3, ⟨a1, b1, c1, a2, b2, c2, ?_, ?_, ?_, a5, b5, c5⟩, ?_, ?_, ?_⟩
  · rw [el]; exact WL.1
  · rw [el]
    have := Rat.mul_nonneg sr (show (0 : Rat) ≤ 1 + 1 / 524288 by decide +kernel)
    grind
  · rw [el]
    have h1 := Rat.mul_le_mul_of_nonneg_right sr14 (show (0 : Rat) ≤ 1 + 1 / 524288 by decide +kernel)
    have h2 : (14 : Rat) * (1 + 1 / 524288) + 1 / 1099511627776 ≤ 16 := by decide +kernel
    grind
  · intro c hc
    match c, hc with
    | 0, _ => exact a3
    | 1, _ => exact b3
    | 2, _ => exact c3
  · intro c hc1 hc2
    match c, hc1, hc2 with
    | 3, _, _ => exact a4
    | 4, _, _ => exact b4
    | 5, _, _ => exact c4
  · rw [el]; exact WL.2
theorem pieces (N : Nat) : ∃ A : Nat → Nat → Rat, Pcs (pc (sg n x y z) pp) N A (lamW n pp x y z) ∧
    (∀ j c, c < 3 → Near (A j c - idl n pp x y z j c) (nabs (idl n pp x y z j c) * (1 / 2097152) + tiny .f32)) ∧ (∀ j c, 3 ≤ c → c < 6 → Near (A j c - idl n pp x y z j c) (1 / 524288)) ∧
    ∀ j, idl n pp x y z j 0 * idl n pp x y z j 0 + idl n pp x y z j 1 * idl n pp x y z j 1 + idl n pp x y z j 2 * idl n pp x y z j 2 ≤ lamW n pp x y z j * lamW n pp x y z j := by
  have H := piece_one (n := n) hx hy hz h0 h3
  exact ⟨fun j => (H j).choose, fun j _ => (H j).choose_spec.1, fun j => (H j).choose_spec.2.1, fun j => (H j).choose_spec.2.2.1, fun j => (H j).choose_spec.2.2.2⟩
end
end Go.Fw.E1

/-
  Sums of pairs of wires of quarters, in numbers; wires gone back.
-/
namespace Go.Fw.E1
open Go.Proofs
theorem q4_sq : Val .f32 (fop .mul .f32 Q4 Q4) (1 / 16) := Val.of_vof (by decide +kernel)
theorem ps_val {p q : Nat → Nat → Nat} {n m : Nat} {A B : Nat → Nat → Rat} {la lb : Nat → Rat} (hn : 0 < n) (hm : 0 < m) (hnm : n * m ≤ 324) (hp : Pcs p n A la) (hq : Pcs q m B lb) (hL : rsum la n * rsum lb m ≤ 1000000) :
    ∃ v, Val .f32 (psOut p q Q4 m (can .f32 0) n) v ∧ Near (v - gsum A B n m) (1 / 2400 * (rsum la n * rsum lb m)) := by
  have hz : Val .f32 (can .f32 0) 0 := Val.of_vof (by decide +kernel)
  refine pairs_sum (I := fun k s i => psIn (p k 0) (p k 1) (p k 2) (p k 3) (p k 4) (p k 5) q Q4 s i) (O := psOut p q Q4 m (can .f32 0)) (tw := fop .mul .f32 Q4 Q4) hn hm hnm hp hq q4_sq (fun _ _ => rfl) (fun k s i hk hi => ?_) (fun _ => rfl) hz hL
  obtain ⟨l, _, l1, l0, _⟩ := pair_term (hp k hk) (hq i hi) q4_sq
  have l1 : Val .f32 (psR (p k 3) (p k 4) (p k 5) q Q4 i) l := l1
  have c : psC (p k 3) (p k 4) (p k 5) q Q4 i = true := by
    unfold psC
    rw [forder_gt l1 hz l0]
    rfl
  exact psIn_t c
theorem lam_sum (n pp : Nat) (x y z : Nat → Nat) (h0 : 1 ≤ pp) (c : Nat) : rsum (lamW n pp x y z) (pp * c) = (1 + 1 / 524288) * rsum (fun s => vl (segLen (sg n x y z) s)) c + ((pp * c : Nat) : Rat) * (1 / 1099511627776) := by
  have e := dsum_flat (fun s _ => lamS n pp x y z s) (show 0 < pp by omega) c
  rw [Nat.mul_comm pp c]
  have p0 : (0 : Rat) < (pp : Rat) := Rat.natCast_pos.2 (by omega)
  have hr : 1 / (pp : Rat) * (pp : Rat) = 1 := Rat.div_mul_cancel (by grind)
  have const : ∀ (a : Rat) (k : Nat), rsum (fun _ => a) k = (k : Rat) * a := fun a k => by
    induction k with
    | zero => show (0 : Rat) = ((0 : Nat) : Rat) * a; rw [show ((0 : Nat) : Rat) = 0 from rfl, Rat.zero_mul]
    | succ k ih =>
      show rsum (fun _ => a) k + a = ((k + 1 : Nat) : Rat) * a
      rw [ih, Rat.natCast_add, show ((1 : Nat) : Rat) = 1 from rfl]; grind
  have row : dsum (fun s _ => lamS n pp x y z s) c pp = rsum (fun s => (1 + 1 / 524288) * vl (segLen (sg n x y z) s) + (pp : Rat) * (1 / 1099511627776)) c := by
    unfold dsum
    refine rsum_congr _ fun s _ => ?_
    rw [const]
    unfold lamS
    generalize vl (segLen (sg n x y z) s) = l
    generalize 1 / (pp : Rat) = r at *
    have : (pp : Rat) * (l * r * (1 + 1 / 524288) + 1 / 1099511627776) = (r * (pp : Rat)) * l * (1 + 1 / 524288) + (pp : Rat) * (1 / 1099511627776) := by grind
    rw [this, hr]; grind
  have e2 : rsum (lamW n pp x y z) (c * pp) = rsum (fun k => (fun s _ => lamS n pp x y z s) (k / pp) (k % pp)) (c * pp) := rfl
  rw [e2, e, row, rsum_add2, rsum_mul, const, Rat.natCast_mul]
  grind
def sgm (n pp j : Nat) : Nat := if j < pp * (n - 1) then pp * (n - 1) - 1 - j else pp * (n - 1) + (pp - 1 - (j - pp * (n - 1)))
theorem rsum_sgm (f : Nat → Rat) {n pp : Nat} (cl : Bool) (hn : 1 ≤ n) : rsum (fun j => f (sgm n pp j)) (pp * cnt n cl) = rsum f (pp * cnt n cl) := by
  have part : rsum (fun j => f (sgm n pp j)) (pp * (n - 1)) = rsum f (pp * (n - 1)) := by
    rw [← rsum_rev f (pp * (n - 1))]
    refine rsum_congr _ fun j hj => ?_
    show f (if j < pp * (n - 1) then _ else _) = _
    rw [if_pos hj]
  cases cl
  · exact part
  · show rsum (fun j => f (sgm n pp j)) (pp * n) = rsum f (pp * n)
    have e : pp * n = pp * (n - 1) + pp := by
      obtain ⟨m, rfl⟩ : ∃ m, n = m + 1 := ⟨n - 1, by omega⟩
      rw [Nat.add_sub_cancel, Nat.mul_succ]
    rw [e, rsum_append, rsum_append, part]
    congr 1
    rw [← rsum_rev (fun j => f (pp * (n - 1) + j)) pp]
    refine rsum_congr _ fun j hj => ?_
    show f (if pp * (n - 1) + j < pp * (n - 1) then _ else _) = f (pp * (n - 1) + (pp - 1 - j))
    rw [if_neg (by omega), Nat.add_sub_cancel_left]
theorem sgm_lt {n pp : Nat} {cl : Bool} (hn : 1 ≤ n) {j : Nat} (hj : j < pp * cnt n cl) : sgm n pp j < pp * cnt n cl := by
  have e : pp * n = pp * (n - 1) + pp := by
    obtain ⟨m, rfl⟩ : ∃ m, n = m + 1 := ⟨n - 1, by omega⟩
    rw [Nat.add_sub_cancel, Nat.mul_succ]
  unfold sgm
  cases cl
  · have hj : j < pp * (n - 1) := hj
    show _ < pp * (n - 1)
    rw [if_pos hj]; omega
  · have hj : j < pp * n := hj
    show _ < pp * n
    split <;> omega
theorem sgm_at {n pp j : Nat} {cl : Bool} (hn : 2 ≤ n) (h0 : 1 ≤ pp) (hj : j < pp * cnt n cl) : sgm n pp j % pp = pp - 1 - j % pp ∧ j / pp < n ∧ ((j / pp < n - 1 ∧ sgm n pp j / pp = n - 2 - j / pp) ∨ (j / pp = n - 1 ∧ sgm n pp j / pp = n - 1)) := by
  have hk : j % pp < pp := Nat.mod_lt _ (by omega)
  have hd := Nat.div_add_mod j pp
  have hc := cnt_le n cl
  have jn : j < pp * n := Nat.lt_of_lt_of_le hj (Nat.mul_le_mul_left pp hc)
  have dn : j / pp < n := Nat.div_lt_of_lt_mul jn
  generalize hs : j / pp = s at *
  generalize hr : j % pp = k at *
  subst hd
  obtain ⟨m, rfl⟩ : ∃ m, n = m + 1 := ⟨n - 1, by omega⟩
  rw [Nat.add_sub_cancel] at *
  rcases Nat.lt_or_ge s m with h | h
  · have hlt : pp * s + k < pp * m := by
      have : pp * (s + 1) ≤ pp * m := Nat.mul_le_mul_left pp h
      rw [Nat.mul_succ] at this
      omega
    have e : sgm (m + 1) pp (pp * s + k) = pp * (m - 1 - s) + (pp - 1 - k) := by
      unfold sgm
      rw [Nat.add_sub_cancel, if_pos hlt]
      have : pp * m = pp * (m - 1 - s) + pp * s + pp := by
        obtain ⟨t, rfl⟩ : ∃ t, m = s + 1 + t := ⟨m - (s + 1), by omega⟩
        rw [show s + 1 + t - 1 - s = t by omega, Nat.mul_add, Nat.mul_add, Nat.mul_one]
        omega
      omega
    refine ⟨?_, dn, .inl ⟨h, ?_⟩⟩
    · rw [e, Nat.mul_add_mod, Nat.mod_eq_of_lt (by omega)]
    · rw [e, Nat.mul_add_div (by omega), Nat.div_eq_of_lt (by omega)]
      omega
  · obtain rfl : s = m := by omega
    have e : sgm (s + 1) pp (pp * s + k) = pp * s + (pp - 1 - k) := by
      unfold sgm
      rw [Nat.add_sub_cancel, if_neg (by omega), Nat.add_sub_cancel_left]
    refine ⟨?_, dn, .inr ⟨rfl, ?_⟩⟩
    · rw [e, Nat.mul_add_mod, Nat.mod_eq_of_lt (by omega)]
    · rw [e, Nat.mul_add_div (by omega), Nat.div_eq_of_lt (by omega)]
      omega
theorem mdR_rev {k pp : Nat} (hk : k < pp) : mdR (pp - 1 - k) pp = 1 - mdR k pp := by
  unfold mdR
  have p0 : (0 : Rat) < (pp : Rat) := Rat.natCast_pos.2 (by omega)
  have e : ((pp - 1 - k : Nat) : Rat) = (pp : Rat) - 1 - (k : Rat) := by
    have h : (((pp - 1 - k) + 1 + k : Nat) : Rat) = (pp : Rat) := by rw [show (pp - 1 - k) + 1 + k = pp by omega]
    rw [Rat.natCast_add, Rat.natCast_add, show ((1 : Nat) : Rat) = 1 from rfl] at h
    grind
  have h1 : (2 * (k : Rat) + 1) / (2 * (pp : Rat)) * (2 * (pp : Rat)) = 2 * (k : Rat) + 1 := Rat.div_mul_cancel (by grind)
  have h2 : (2 * ((pp - 1 - k : Nat) : Rat) + 1) / (2 * (pp : Rat)) * (2 * (pp : Rat)) = 2 * ((pp - 1 - k : Nat) : Rat) + 1 := Rat.div_mul_cancel (by grind)
  rw [e] at h2 ⊢
  generalize (2 * (k : Rat) + 1) / (2 * (pp : Rat)) = a at *
  generalize (2 * ((pp : Rat) - 1 - (k : Rat)) + 1) / (2 * (pp : Rat)) = b at *
  have : (b - (1 - a)) * (2 * (pp : Rat)) = 0 := by grind
  rcases Rat.mul_eq_zero.1 this with h | h <;> grind
theorem rev_ends {n pp j : Nat} {cl : Bool} (x : Nat → Nat) (hn : 2 ≤ n) (h0 : 1 ≤ pp) (hj : j < pp * cnt n cl) : revR n x (j / pp) = x (nx n (sgm n pp j / pp)) ∧ revR n x (nx n (j / pp)) = x (sgm n pp j / pp) := by
  obtain ⟨_, dn, h⟩ := sgm_at hn h0 hj
  generalize j / pp = s at *
  rcases h with ⟨h1, h2⟩ | ⟨h1, h2⟩
  · rw [h2]
    have e1 : nx n s = s + 1 := by unfold nx; exact Nat.mod_eq_of_lt (by omega)
    have e2 : nx n (n - 2 - s) = n - 1 - s := by unfold nx; rw [Nat.mod_eq_of_lt (by omega)]; omega
    rw [e1, e2]
    unfold revR
    exact ⟨rfl, by rw [show n - 1 - (s + 1) = n - 2 - s by omega]⟩
  · rw [h2, h1]
    have e1 : nx n (n - 1) = 0 := by unfold nx; rw [Nat.sub_add_cancel (by omega), Nat.mod_self]
    rw [e1]
    unfold revR
    exact ⟨by rw [Nat.sub_self], by rw [Nat.sub_zero]⟩
theorem idl_rev {n pp j : Nat} {cl : Bool} (x y z : Nat → Nat) (hn : 2 ≤ n) (h0 : 1 ≤ pp) (hj : j < pp * cnt n cl) :
    (∀ c, c < 3 → idl n pp (revR n x) (revR n y) (revR n z) j c = -idl n pp x y z (sgm n pp j) c) ∧ (∀ c, 3 ≤ c → c < 6 → idl n pp (revR n x) (revR n y) (revR n z) j c = idl n pp x y z (sgm n pp j) c) := by
  obtain ⟨x1, x2⟩ := rev_ends x hn h0 hj
  obtain ⟨y1, y2⟩ := rev_ends y hn h0 hj
  obtain ⟨z1, z2⟩ := rev_ends z hn h0 hj
  obtain ⟨hm, _, _⟩ := sgm_at hn h0 hj
  have hk : j % pp < pp := Nat.mod_lt _ (by omega)
  constructor
  · intro c hc
    match c, hc with
    | 0, _ => show (vl (revR n x (nx n (j / pp))) - vl (revR n x (j / pp))) * _ = -((vl (x (nx n (sgm n pp j / pp))) - vl (x (sgm n pp j / pp))) * _); rw [x1, x2]; grind
    | 1, _ => show (vl (revR n y (nx n (j / pp))) - vl (revR n y (j / pp))) * _ = -((vl (y (nx n (sgm n pp j / pp))) - vl (y (sgm n pp j / pp))) * _); rw [y1, y2]; grind
    | 2, _ => show (vl (revR n z (nx n (j / pp))) - vl (revR n z (j / pp))) * _ = -((vl (z (nx n (sgm n pp j / pp))) - vl (z (sgm n pp j / pp))) * _); rw [z1, z2]; grind
  · intro c hc1 hc2
    match c, hc1, hc2 with
    | 3, _, _ => show vl (revR n x (j / pp)) + (vl (revR n x (nx n (j / pp))) - vl (revR n x (j / pp))) * _ = vl (x (sgm n pp j / pp)) + (vl (x (nx n (sgm n pp j / pp))) - vl (x (sgm n pp j / pp))) * mdR (sgm n pp j % pp) pp; rw [x1, x2, hm, mdR_rev hk]; grind
    | 4, _, _ => show vl (revR n y (j / pp)) + (vl (revR n y (nx n (j / pp))) - vl (revR n y (j / pp))) * _ = vl (y (sgm n pp j / pp)) + (vl (y (nx n (sgm n pp j / pp))) - vl (y (sgm n pp j / pp))) * mdR (sgm n pp j % pp) pp; rw [y1, y2, hm, mdR_rev hk]; grind
    | 5, _, _ => show vl (revR n z (j / pp)) + (vl (revR n z (nx n (j / pp))) - vl (revR n z (j / pp))) * _ = vl (z (sgm n pp j / pp)) + (vl (z (nx n (sgm n pp j / pp))) - vl (z (sgm n pp j / pp))) * mdR (sgm n pp j % pp) pp; rw [z1, z2, hm, mdR_rev hk]; grind
theorem lam_rev {n pp j : Nat} {cl : Bool} {x y z : Nat → Nat} (hx : Qs x) (hy : Qs y) (hz : Qs z) (hn : 2 ≤ n) (h0 : 1 ≤ pp) (hj : j < pp * cnt n cl) : lamW n pp (revR n x) (revR n y) (revR n z) j = lamW n pp x y z (sgm n pp j) := by
  obtain ⟨_, dn, h⟩ := sgm_at hn h0 hj
  unfold lamW lamS
  rcases h with ⟨h1, h2⟩ | ⟨h1, h2⟩
  · rw [h2, seg_rev hx hy hz (by omega)]
  · rw [h2, h1, seg_rev_end hx hy hz (by omega)]
end Go.Fw.E1

/-
  A wire of quarters and another one gone back: the opposite sum, nearly.
-/
namespace Go.Fw.E1
open Go.Proofs
section
variable {n pp : Nat} {x y z : Nat → Nat} (hx : Qs x) (hy : Qs y) (hz : Qs z) (hn : 2 ≤ n) (h0 : 1 ≤ pp)
include hx hy hz hn h0
theorem gsum_back {p : Nat → Nat → Nat} {A B B' : Nat → Nat → Rat} {la : Nat → Rat} {N : Nat} {cl : Bool} (hA : Pcs p N A la) (hB : Pcs (pc (sg n x y z) pp) (pp * cnt n cl) B (lamW n pp x y z)) (hB' : Pcs (pc (sg n (revR n x) (revR n y) (revR n z)) pp) (pp * cnt n cl) B' (lamW n pp (revR n x) (revR n y) (revR n z)))
    (b1 : ∀ j c, c < 3 → Near (B j c - idl n pp x y z j c) (nabs (idl n pp x y z j c) * (1 / 2097152) + tiny .f32)) (b2 : ∀ j c, 3 ≤ c → c < 6 → Near (B j c - idl n pp x y z j c) (1 / 524288))
    (b3 : ∀ j, idl n pp x y z j 0 * idl n pp x y z j 0 + idl n pp x y z j 1 * idl n pp x y z j 1 + idl n pp x y z j 2 * idl n pp x y z j 2 ≤ lamW n pp x y z j * lamW n pp x y z j)
    (c1 : ∀ j c, c < 3 → Near (B' j c - idl n pp (revR n x) (revR n y) (revR n z) j c) (nabs (idl n pp (revR n x) (revR n y) (revR n z) j c) * (1 / 2097152) + tiny .f32)) (c2 : ∀ j c, 3 ≤ c → c < 6 → Near (B' j c - idl n pp (revR n x) (revR n y) (revR n z) j c) (1 / 524288)) :
    Near (gsum A B' N (pp * cnt n cl) + gsum A B N (pp * cnt n cl)) (1 / 4000 * (rsum la N * rsum (lamW n pp x y z) (pp * cnt n cl))) ∧ rsum (lamW n pp (revR n x) (revR n y) (revR n z)) (pp * cnt n cl) = rsum (lamW n pp x y z) (pp * cnt n cl) := by
  have nn : ∀ t : Rat, nabs (-t) = nabs t := fun t => by unfold nabs; split <;> split <;> grind
  constructor
  · have e1 : gsum A B N (pp * cnt n cl) = dsum (fun i j => gram A B i (sgm n pp j)) N (pp * cnt n cl) := rsum_congr _ fun i _ => (rsum_sgm (fun j => gram A B i j) cl (by omega)).symm
    have e2 : rsum la N * rsum (lamW n pp x y z) (pp * cnt n cl) = dsum (fun i j => la i * lamW n pp x y z (sgm n pp j)) N (pp * cnt n cl) := by
      rw [dsum_prod, rsum_sgm (lamW n pp x y z) cl (by omega)]
    rw [e1, e2, ← dsum_mul]
    unfold gsum
    rw [← dsum_add]
    refine dsum_nearF fun i j hi hj => ?_
    have pA := hA i hi
    have sj := sgm_lt (cl := cl) (show 1 ≤ n by omega) hj
    have pB := hB _ sj
    have pB' := hB' j hj
    obtain ⟨i1, i2⟩ := idl_rev x y z hn h0 hj
    obtain ⟨_, _, _, _, _, _, _, M1, M0⟩ := pair_term pA pB' q4_sq
    refine gram_back (D := idl n pp x y z (sgm n pp j)) pA.ww pB.ww (b3 _) (hA.pos hi).2 pB.l0 (b1 _) (fun c hc => ?_) (b2 _) (fun c hc1 hc2 => ?_) M1 M0
    · have := c1 j c hc
      rw [i1 c hc, nn] at this
      exact this
    · have := c2 j c hc1 hc2
      rw [i2 c hc1 hc2] at this
      exact this
  · rw [← rsum_sgm (lamW n pp x y z) cl (by omega)]
    exact rsum_congr _ fun j hj => lam_rev hx hy hz hn h0 hj
end
end Go.Fw.E1

/-
  The law of couplings: its sizes and gaps, in numbers.
-/
namespace Go.Fw.E1
open Go.Proofs
theorem one64 : Val .f64 (can .f64 4607182418800017408) 1 := Val.of_vof (by decide +kernel)
theorem four64 : Val .f64 (can .f64 4616189618054758400) 4 := Val.of_vof (by decide +kernel)
theorem near_of {a b E F : Rat} (h : Near (a - b) E) (hb : Near b F) : Near a (F + E) := by
  have := hb.add h
  rw [show b + (a - b) = a by grind] at this
  exact this
theorem sz_val {wa wb : Nat} {a b : Rat} (ha : Val .f32 wa a) (hb : Val .f32 wb b) (na : Near a 100) (nb : Near b 100) : ∃ s, Val .f64 (sz10 wa wb) s ∧ Near (s - (1 + 4 * ((a + b) * (a + b)))) (1 / 1000000) := by
  have nT := na.add nb
  have k1 : (100 + 100 : Rat) * ur .f64 + tiny .f64 ≤ 1 / 2 ^ 45 := by decide +kernel
  have k2 : (4 * (100 + 100 + 1 / 2 ^ 45) : Rat) * ur .f64 + tiny .f64 ≤ 1 / 2 ^ 43 := by decide +kernel
  have k3 : ((4 * (100 + 100) + (1 / 2 ^ 43 + 4 * (1 / 2 ^ 45))) * (100 + 100 + 1 / 2 ^ 45) : Rat) * ur .f64 + tiny .f64 ≤ 1 / 2 ^ 34 := by decide +kernel
  have k4 : (1 + (4 * ((100 + 100) * (100 + 100)) + 1 / 2 ^ 30) : Rat) * ur .f64 + tiny .f64 ≤ 1 / 2 ^ 34 := by decide +kernel
  have k5 : (4 * (100 + 100) : Rat) * (1 / 2 ^ 45) + (1 / 2 ^ 43 + 4 * (1 / 2 ^ 45)) * (100 + 100 + 1 / 2 ^ 45) + 1 / 2 ^ 34 ≤ 1 / 2 ^ 30 := by decide +kernel
  have k6 : (1 / 2 ^ 30 : Rat) + 1 / 2 ^ 34 ≤ 1 / 1000000 := by decide +kernel
  obtain ⟨d, d1, d2⟩ := ha.widen.add hb.widen nT (by decide +kernel)
  have d2 := d2.mono k1
  have dn := near_of d2 nT
  have n4 : Near (4 : Rat) 4 := by unfold Near; constructor <;> grind
  obtain ⟨e, e1, e2⟩ := four64.mul d1 (n4.mul dn) (by decide +kernel)
  have e2 := e2.mono k2
  have e3 : Near (e - 4 * (a + b)) (1 / 2 ^ 43 + 4 * (1 / 2 ^ 45)) := by
    have := e2.add (n4.mul d2)
    rw [show e - 4 * d + 4 * (d - (a + b)) = e - 4 * (a + b) by grind] at this
    exact this
  have en := near_of e3 (n4.mul nT)
  obtain ⟨f, f1, f2⟩ := e1.mul d1 (en.mul dn) (by decide +kernel)
  have f2 := f2.mono k3
  have f3 : Near (f - 4 * ((a + b) * (a + b))) (1 / 2 ^ 30) := by
    have h1 := (n4.mul nT).mul d2
    have h2 := e3.mul dn
    have := (h1.add h2).add f2
    rw [show 4 * (a + b) * (d - (a + b)) + (e - 4 * (a + b)) * d + (f - e * d) = f - 4 * ((a + b) * (a + b)) by grind] at this
    exact this.mono k5
  have n1 : Near (1 : Rat) 1 := by unfold Near; constructor <;> grind
  have fn := near_of f3 (n4.mul (nT.mul nT))
  obtain ⟨g, g1, g2⟩ := one64.add f1 (n1.add fn) (by decide +kernel)
  have g2 := g2.mono k4
  refine ⟨g, g1, ?_⟩
  have := f3.add g2
  rw [show f - 4 * ((a + b) * (a + b)) + (g - (1 + f)) = g - (1 + 4 * ((a + b) * (a + b))) by grind] at this
  exact this.mono k6
theorem gap_valL {x y : Nat} {a b t : Rat} (hx : Val .f64 x a) (hy : Val .f64 y b) (h : Near (a - b) t) (ht : t ≤ 1048576) : ∃ g, Val .f64 (gap8 x y) g ∧ g ≤ t + 1 / 1000000 := by
  have hm : t ≤ most := Rat.le_trans ht (by decide +kernel)
  obtain ⟨c, h1, h2⟩ := hx.sub hy h hm
  obtain ⟨d, h3, h4⟩ := hy.sub hx (X := t) (by unfold Near at *; constructor <;> grind) hm
  refine ⟨_, fmax_val h1 h3, ?_⟩
  have hu : 1048576 * ur .f64 + tiny .f64 ≤ 1 / 1000000 := by decide +kernel
  have hup := ur_pos .f64
  have := Rat.mul_le_mul_of_nonneg_right ht (Rat.le_of_lt hup)
  unfold Near at *
  split <;> grind
theorem scale_val {w S : Nat} {k s : Rat} (hw : Val .f64 w k) (hS : Val .f64 S s) (k0 : Near k 2) (s1 : Near s 1000000) : ∃ K, Val .f64 (fop .mul .f64 w S) K ∧ Near (K - k * s) (1 / 1000000) := by
  obtain ⟨K, K1, K2⟩ := hw.mul hS (k0.mul s1) (by decide +kernel)
  exact ⟨K, K1, K2.mono (by decide +kernel)⟩
theorem half_pos {s : Rat} (h : 1 / 2 ≤ s) : 0 ≤ s := Rat.le_trans (by decide +kernel) h
theorem near_size {s : Rat} (h : 1 / 2 ≤ s) (h' : s ≤ 1000000) : Near s 1000000 := by
  have := half_pos h
  unfold Near
  constructor <;> grind
theorem gap_mil {x y S : Nat} {a b t s : Rat} (hx : Val .f64 x a) (hy : Val .f64 y b) (h : Near (a - b) t) (hS : Val .f64 S s) (s1 : 1 / 2 ≤ s) (s2 : s ≤ 1000000) (ht : t ≤ 9 / 10000 * s) : (forder .f64 (gap8 x y) (fop .mul .f64 (can .f64 4562254508917369340) S) == some .lt) = true := by
  have h9 : (9 / 10000 : Rat) * 1000000 ≤ 1048576 := by decide +kernel
  have h9' := Rat.mul_le_mul_of_nonneg_left s2 (show (0 : Rat) ≤ 9 / 10000 by decide +kernel)
  obtain ⟨g, g1, g2⟩ := gap_valL hx hy h (by grind)
  obtain ⟨K, K1, K2⟩ := scale_val kMil hS (by constructor <;> decide +kernel) (near_size s1 s2)
  have k := Rat.mul_le_mul_of_nonneg_right (show (99 / 100000 : Rat) ≤ 1152921504606847 / 2 ^ 60 by decide +kernel) (half_pos s1)
  have k2 := Rat.mul_le_mul_of_nonneg_left s1 (show (0 : Rat) ≤ 9 / 100000 by decide +kernel)
  have k3 : (1 / 1000000 : Rat) + 1 / 1000000 < 9 / 100000 * (1 / 2) := by decide +kernel
  have k4 : (99 / 100000 : Rat) = 9 / 10000 + 9 / 100000 := by decide +kernel
  rw [k4] at k
  rw [forder_lt g1 K1 (by unfold Near at K2; grind)]
  rfl
structure Cpl (wx wy wz wa wb wla wlb : Nat) (G11 G12 G22 La Lb vx vy vz va vb la lb : Rat) : Prop where
  x : Val .f32 wx vx
  y : Val .f32 wy vy
  z : Val .f32 wz vz
  a : Val .f32 wa va
  b : Val .f32 wb vb
  l1 : Val .f32 wla la
  l2 : Val .f32 wlb lb
  nx : Near (vx - G12) (1 / 2400 * (La * Lb))
  ny : Near (vy - G12) (1 / 2400 * (La * Lb))
  nz : Near (vz + G12) (1 / 1500 * (La * Lb))
  na : Near (va - G11) (1 / 2400 * (La * La))
  nb : Near (vb - G22) (1 / 2400 * (Lb * Lb))
  psd : ∀ s t : Rat, 0 ≤ s * s * G11 + 2 * (s * t) * G12 + t * t * G22
  g11 : Near G11 (41 / 10 * (La * La))
  g12 : Near G12 (41 / 10 * (La * Lb))
  g22 : Near G22 (41 / 10 * (Lb * Lb))
  a0 : 0 ≤ La
  b0 : 0 ≤ Lb
  na' : Near la 90
  nb' : Near lb 90
  sa : La ≤ la * (1 + 1 / 500000) + 11 / 100000
  sb : Lb ≤ lb * (1 + 1 / 500000) + 11 / 100000
theorem size_le {La Lb a b s : Rat} (a0 : 0 ≤ La) (b0 : 0 ≤ Lb) (na : Near a 90) (nb : Near b 90) (ha : La ≤ a * (1 + 1 / 500000) + 11 / 100000) (hb : Lb ≤ b * (1 + 1 / 500000) + 11 / 100000) (hs : Near (s - (1 + 4 * ((a + b) * (a + b)))) (1 / 1000000)) :
    (La + Lb) * (La + Lb) ≤ 251 / 1000 * s ∧ 1 / 2 ≤ s ∧ s ≤ 1000000 := by
  have sq := sqn (a + b)
  have nT := (na.add nb)
  have nTT := nT.mul nT
  have k : (1 / 1000000 : Rat) ≤ 1 / 2 := by decide +kernel
  have kh : (1 / 2 : Rat) * 2 = 1 := by decide +kernel
  refine ⟨?_, by unfold Near at hs; grind, by unfold Near at hs nTT; grind⟩
  have h : La + Lb ≤ (a + b) * (1 + 1 / 500000) + 22 / 100000 := by
    have : (22 / 100000 : Rat) = 11 / 100000 + 11 / 100000 := by decide +kernel
    grind
  have h2 := sq_mono (show 0 ≤ La + Lb by grind) h
  have e : ((a + b) * (1 + 1 / 500000) + 22 / 100000) * ((a + b) * (1 + 1 / 500000) + 22 / 100000) = (1 + 1 / 500000) * (1 + 1 / 500000) * ((a + b) * (a + b)) + 2 * ((1 + 1 / 500000) * (22 / 100000)) * (a + b) + 22 / 100000 * (22 / 100000) := by grind
  rw [e] at h2
  have t2 : (a + b) * 2 ≤ 1 + (a + b) * (a + b) := by have := sqn (a + b - 1); grind
  have c1 : (0 : Rat) ≤ (1 + 1 / 500000) * (22 / 100000) := by decide +kernel
  have t3 := Rat.mul_le_mul_of_nonneg_left t2 c1
  have m1 : (1 + 1 / 500000) * (1 + 1 / 500000) + (1 + 1 / 500000) * (22 / 100000) ≤ (2505 / 10000 * 4 : Rat) := by decide +kernel
  have m1 := Rat.mul_le_mul_of_nonneg_right m1 sq
  have m2 : (1 + 1 / 500000) * (22 / 100000) + 22 / 100000 * (22 / 100000) ≤ (2505 / 10000 : Rat) := by decide +kernel
  have m3 : (2505 / 10000 : Rat) * (1 + 4 * ((a + b) * (a + b))) ≤ 251 / 1000 * s := by
    have h1 : (2505 / 10000 : Rat) * (1 / 1000000) ≤ (251 / 1000 - 2505 / 10000) * (1 / 2) := by decide +kernel
    have h2 := Rat.mul_le_mul_of_nonneg_left (show 1 / 2 ≤ s by unfold Near at hs; grind) (show (0 : Rat) ≤ 251 / 1000 - 2505 / 10000 by decide +kernel)
    have h3 := Rat.mul_le_mul_of_nonneg_left (show 1 + 4 * ((a + b) * (a + b)) ≤ s + 1 / 1000000 by unfold Near at hs; grind) (show (0 : Rat) ≤ 2505 / 10000 by decide +kernel)
    grind
  generalize (a + b) * (a + b) = T at *
  grind
section
variable {wx wy wz wa wb wla wlb : Nat} {G11 G12 G22 La Lb vx vy vz va vb la lb : Rat} (H : Cpl wx wy wz wa wb wla wlb G11 G12 G22 La Lb vx vy vz va vb la lb)
include H
theorem Cpl.prod {s : Rat} (hs : (La + Lb) * (La + Lb) ≤ 251 / 1000 * s) : La * Lb * 4 ≤ 251 / 1000 * s ∧ 0 ≤ La * Lb ∧ La * La ≤ 251 / 1000 * s ∧ Lb * Lb ≤ 251 / 1000 * s ∧ 0 ≤ La * La ∧ 0 ≤ Lb * Lb := by
  have a0 := H.a0
  have b0 := H.b0
  have ab := Rat.mul_nonneg a0 b0
  have aa := Rat.mul_nonneg a0 a0
  have bb := Rat.mul_nonneg b0 b0
  have d := sqn (La - Lb)
  refine ⟨by grind, ab, by grind, by grind, aa, bb⟩
theorem Cpl.gap_xy : (forder .f64 (gap8 (fcvt .f32 .f64 wx) (fcvt .f32 .f64 wy)) (fop .mul .f64 (can .f64 4562254508917369340) (sz10 wla wlb)) == some .lt) = true := by
  obtain ⟨s, s1, s2⟩ := sz_val H.l1 H.l2 (H.na'.mono (by decide)) (H.nb'.mono (by decide))
  obtain ⟨q1, q2, q3⟩ := size_le H.a0 H.b0 H.na' H.nb' H.sa H.sb s2
  obtain ⟨p, p0, _⟩ := H.prod q1
  have n := H.nx.sub H.ny
  rw [show vx - G12 - (vy - G12) = vx - vy by grind] at n
  refine gap_mil H.x.widen H.y.widen n s1 q2 q3 ?_
  have k : (1 / 2400 + 1 / 2400 : Rat) * (251 / 1000) ≤ 9 / 10000 * 4 := by decide +kernel
  have k := Rat.mul_le_mul_of_nonneg_right k (half_pos q2)
  have m := Rat.mul_le_mul_of_nonneg_left p (show (0 : Rat) ≤ 1 / 2400 + 1 / 2400 by decide +kernel)
  grind
theorem Cpl.gap_xz : (forder .f64 (gap8 (fcvt .f32 .f64 wx) (fneg .f64 (fcvt .f32 .f64 wz))) (fop .mul .f64 (can .f64 4562254508917369340) (sz10 wla wlb)) == some .lt) = true := by
  obtain ⟨s, s1, s2⟩ := sz_val H.l1 H.l2 (H.na'.mono (by decide)) (H.nb'.mono (by decide))
  obtain ⟨q1, q2, q3⟩ := size_le H.a0 H.b0 H.na' H.nb' H.sa H.sb s2
  obtain ⟨p, p0, _⟩ := H.prod q1
  have n := H.nx.add H.nz
  rw [show vx - G12 + (vz + G12) = vx - -vz by grind] at n
  refine gap_mil H.x.widen H.z.widen.neg n s1 q2 q3 ?_
  have k : (1 / 2400 + 1 / 1500 : Rat) * (251 / 1000) ≤ 9 / 10000 * 4 := by decide +kernel
  have k := Rat.mul_le_mul_of_nonneg_right k (half_pos q2)
  have m := Rat.mul_le_mul_of_nonneg_left p (show (0 : Rat) ≤ 1 / 2400 + 1 / 1500 by decide +kernel)
  grind
end
end Go.Fw.E1

/-
  The law of couplings: energies and shares, in numbers.
-/
namespace Go.Fw.E1
open Go.Proofs
theorem en_val {w i j : Nat} {v V : Rat} (hw : Val .f32 w v) (hV : Near v (5 * V)) (V0 : 0 ≤ V) (VM : V ≤ 100000) (hi : i < 17) (hj : j < 17) : ∃ m, Val .f32 (fop .mul .f32 (fop .mul .f32 w (qw i)) (qw j)) m ∧ Near (m - v * (vl (qw i)) * vl (qw j)) (1 / 100000 * V + 1 / 1000000) := by
  have c1 : Val .f32 (qw i) (vl (qw i)) ∧ Near (vl (qw i)) 2 := by
    have := q_val (x := fun _ => qw i) (fun _ => ⟨i, hi, rfl⟩) 0
    exact this
  have c2 : Val .f32 (qw j) (vl (qw j)) ∧ Near (vl (qw j)) 2 := by
    have := q_val (x := fun _ => qw j) (fun _ => ⟨j, hj, rfl⟩) 0
    exact this
  have u0 := ur_pos .f32
  have t0 := tiny_pos .f32
  have big : (10000000 : Rat) ≤ most := by decide +kernel
  have k1 : 10 * ur .f32 ≤ 1 / 1000000 := by decide +kernel
  have k1 := Rat.mul_le_mul_of_nonneg_right k1 V0
  have k2 : tiny .f32 ≤ 1 / 10000000000 := by decide +kernel
  have n1 := (hV.mul c1.2)
  obtain ⟨m, m1, m2⟩ := hw.mul c1.1 n1 (by grind)
  have mm := near_of m2 n1
  have n2 := mm.mul c2.2
  have e1 : 5 * V * 2 * ur .f32 = V * (10 * ur .f32) := by grind
  have e2 : V * (10 * ur .f32) ≤ 1 / 1000000 * V := by grind
  have b : (5 * V * 2 + (5 * V * 2 * ur .f32 + tiny .f32)) * 2 ≤ 22 * V + 1 := by
    rw [e1]
    have : (1 / 1000000 : Rat) * V ≤ 1 * V := Rat.mul_le_mul_of_nonneg_right (by decide +kernel) V0
    have : (1 / 10000000000 : Rat) * 4 ≤ 1 := by decide +kernel
    grind
  obtain ⟨r, r1, r2⟩ := m1.mul c2.1 (n2.mono b) (by grind)
  refine ⟨r, r1, ?_⟩
  have d := m2.mul c2.2
  have e : r - v * vl (qw i) * vl (qw j) = (r - m * vl (qw j)) + (m - v * vl (qw i)) * vl (qw j) := by grind
  rw [e]
  refine (r2.add d).mono ?_
  have k3 : 42 * ur .f32 ≤ 1 / 100000 := by decide +kernel
  have k3 := Rat.mul_le_mul_of_nonneg_right k3 V0
  have k4 : 1 * ur .f32 + 3 * tiny .f32 ≤ 1 / 1000000 := by decide +kernel
  clear b big k1 k2 e1 e2 n1 n2 mm m2 r2 d e
  grind
theorem half32 : Val .f32 (can .f32 1056964608) (1 / 2) := Val.of_vof (by decide +kernel)
theorem add_rough {x y : Nat} {a b A B E F Y : Rat} (hx : Val .f32 x a) (hy : Val .f32 y b) (h1 : Near (a - A) E) (h2 : Near (b - B) F) (hA : Near (A + B) (100 * Y)) (Y0 : 0 ≤ Y) (YM : Y ≤ 100000) (hE : E + F ≤ Y + 1) : ∃ c, Val .f32 (fop .add .f32 x y) c ∧ Near (c - (A + B)) (E + F + (1 / 100000 * Y + 1 / 1000000)) := by
  have big : (11000000 : Rat) ≤ most := by decide +kernel
  have d := h1.add h2
  have e : a - A + (b - B) = (a + b) - (A + B) := by grind
  rw [e] at d
  have n := near_of d hA
  obtain ⟨c, c1, c2⟩ := hx.add hy (n.mono (show 100 * Y + (E + F) ≤ 101 * Y + 1 by grind)) (by grind)
  refine ⟨c, c1, ?_⟩
  have k : 101 * ur .f32 ≤ 1 / 100000 := by decide +kernel
  have k := Rat.mul_le_mul_of_nonneg_right k Y0
  have k2 : 1 * ur .f32 + tiny .f32 ≤ 1 / 1000000 := by decide +kernel
  have := (d.add c2).mono (show E + F + ((101 * Y + 1) * ur .f32 + tiny .f32) ≤ E + F + (1 / 100000 * Y + 1 / 1000000) by grind)
  rw [show a + b - (A + B) + (c - (a + b)) = c - (A + B) by grind] at this
  exact this
section
variable {wx wy wz wa wb wla wlb : Nat} {G11 G12 G22 La Lb vx vy vz va vb la lb : Rat} (H : Cpl wx wy wz wa wb wla wlb G11 G12 G22 La Lb vx vy vz va vb la lb)
include H
theorem Cpl.mags : Near va (5 * (La * La)) ∧ Near vx (5 * (La * Lb)) ∧ Near vy (5 * (La * Lb)) ∧ Near vb (5 * (Lb * Lb)) := by
  have k : (41 / 10 : Rat) + 1 / 2400 ≤ 5 := by decide +kernel
  have aa := Rat.mul_nonneg H.a0 H.a0
  have ab := Rat.mul_nonneg H.a0 H.b0
  have bb := Rat.mul_nonneg H.b0 H.b0
  have k1 := Rat.mul_le_mul_of_nonneg_right k aa
  have k2 := Rat.mul_le_mul_of_nonneg_right k ab
  have k3 := Rat.mul_le_mul_of_nonneg_right k bb
  exact ⟨(near_of H.na H.g11).mono (by grind), (near_of H.nx H.g12).mono (by grind), (near_of H.ny H.g12).mono (by grind), (near_of H.nb H.g22).mono (by grind)⟩
theorem Cpl.len : La ≤ 91 ∧ Lb ≤ 91 := by
  have k : (90 : Rat) * (1 + 1 / 500000) + 11 / 100000 ≤ 91 := by decide +kernel
  have c : (0 : Rat) ≤ 1 + 1 / 500000 := by decide +kernel
  have a := Rat.mul_le_mul_of_nonneg_right (show la ≤ 90 from H.na'.2) c
  have b := Rat.mul_le_mul_of_nonneg_right (show lb ≤ 90 from H.nb'.2) c
  exact ⟨Rat.le_trans H.sa (by grind), Rat.le_trans H.sb (by grind)⟩
theorem Cpl.low (s t : Rat) : -(1 / 2400 * ((nabs s * La + nabs t * Lb) * (nabs s * La + nabs t * Lb))) ≤ s * s * va + s * t * (vx + vx) + t * t * vb ∧ -(1 / 2400 * ((nabs s * La + nabs t * Lb) * (nabs s * La + nabs t * Lb))) ≤ s * s * va + s * t * (vx + vy) + t * t * vb := by
  have p := H.psd s t
  have ss : Near (s * s) (nabs s * nabs s) := (nabs_near s).mul (nabs_near s)
  have tt : Near (t * t) (nabs t * nabs t) := (nabs_near t).mul (nabs_near t)
  have st : Near (s * t) (nabs s * nabs t) := (nabs_near s).mul (nabs_near t)
  have m1 := ss.mul H.na
  have m2 := st.mul H.nx
  have m2' := st.mul H.ny
  have m3 := tt.mul H.nb
  have e : 1 / 2400 * ((nabs s * La + nabs t * Lb) * (nabs s * La + nabs t * Lb)) = nabs s * nabs s * (1 / 2400 * (La * La)) + 2 * (nabs s * nabs t * (1 / 2400 * (La * Lb))) + nabs t * nabs t * (1 / 2400 * (Lb * Lb)) := by grind
  rw [e]
  generalize nabs s * nabs s * (1 / 2400 * (La * La)) = A at *
  generalize nabs s * nabs t * (1 / 2400 * (La * Lb)) = B at *
  generalize nabs t * nabs t * (1 / 2400 * (Lb * Lb)) = C at *
  unfold Near at m1 m2 m2' m3
  constructor <;> grind
theorem Cpl.energy {i j : Nat} (hi : i < 17) (hj : j < 17) {f : Nat → Nat} (f0 : f 0 = wa) (f1 : f 1 = wx) (f2 : f 2 = wy) (f3 : f 3 = wb) : fin (enF f (l2N (qw i) (qw j))) = true ∧ (forder .f64 (fcvt .f32 .f64 (enF f (l2N (qw i) (qw j)))) (fop .mul .f64 (can .f64 13800290266158863483) (sz10 wla wlb)) == some .gt) = true := by
  obtain ⟨ma, mx, my, mb⟩ := H.mags
  obtain ⟨a9, b9⟩ := H.len
  have a0 := H.a0
  have b0 := H.b0
  have aa := Rat.mul_nonneg a0 a0
  have ab := Rat.mul_nonneg a0 b0
  have bb := Rat.mul_nonneg b0 b0
  have aM : La * La ≤ 91 * 91 := sq_mono a0 a9
  have bM : Lb * Lb ≤ 91 * 91 := sq_mono b0 b9
  have abM : La * Lb ≤ 91 * 91 := by
    have := Rat.mul_le_mul_of_nonneg_right a9 b0
    have := Rat.mul_le_mul_of_nonneg_left b9 (show (0 : Rat) ≤ 91 by decide)
    grind
  have k91 : (91 * 91 : Rat) ≤ 100000 := by decide +kernel
  obtain ⟨ea, ea1, ea2⟩ := en_val H.a ma aa (Rat.le_trans aM k91) hi hi
  obtain ⟨ex, ex1, ex2⟩ := en_val H.x mx ab (Rat.le_trans abM k91) hi hj
  obtain ⟨ey, ey1, ey2⟩ := en_val H.y my ab (Rat.le_trans abM k91) hj hi
  obtain ⟨eb, eb1, eb2⟩ := en_val H.b mb bb (Rat.le_trans bM k91) hj hj
  have c1 : Near (vl (qw i)) 2 := (q_val (x := fun _ => qw i) (fun _ => ⟨i, hi, rfl⟩) 0).2
  have c2 : Near (vl (qw j)) 2 := (q_val (x := fun _ => qw j) (fun _ => ⟨j, hj, rfl⟩) 0).2
  generalize vl (qw i) = c at *
  generalize vl (qw j) = d at *
  obtain ⟨s, s1, s2⟩ := sz_val H.l1 H.l2 (H.na'.mono (by decide)) (H.nb'.mono (by decide))
  obtain ⟨q1, q2, q3⟩ := size_le H.a0 H.b0 H.na' H.nb' H.sa H.sb s2
  generalize hY : (La + Lb) * (La + Lb) = Y at *
  have eY : Y = La * La + 2 * (La * Lb) + Lb * Lb := by rw [← hY]; grind
  have Y0 : 0 ≤ Y := by grind
  have YM : Y ≤ 100000 := by
    have : (91 * 91 : Rat) * 4 ≤ 100000 := by decide +kernel
    grind
  have ta := (ma.mul c1).mul c1
  have tx := (mx.mul c1).mul c2
  have ty := (my.mul c2).mul c1
  have tb := (mb.mul c2).mul c2
  have z : Val .f32 (can .f32 0) 0 := Val.of_vof (by decide +kernel)
  have z0 : Near ((0 : Rat) - 0) 0 := by unfold Near; constructor <;> grind
  have small : (1 / 100000 : Rat) * 8 ≤ 1 := by decide +kernel
  have small := Rat.mul_le_mul_of_nonneg_right small Y0
  have sm2 : (1 / 1000000 : Rat) * 20 ≤ 1 := by decide +kernel
  have pa := Rat.mul_nonneg (show (0 : Rat) ≤ 1 / 100000 by decide +kernel) aa
  have px := Rat.mul_nonneg (show (0 : Rat) ≤ 1 / 100000 by decide +kernel) ab
  have pb := Rat.mul_nonneg (show (0 : Rat) ≤ 1 / 100000 by decide +kernel) bb
  have pY := Rat.mul_nonneg (show (0 : Rat) ≤ 1 / 100000 by decide +kernel) Y0
  have eY2 : 1 / 100000 * Y = 1 / 100000 * (La * La) + 2 * (1 / 100000 * (La * Lb)) + 1 / 100000 * (Lb * Lb) := by rw [eY]; grind
  obtain ⟨g1, g1v, g1n⟩ := add_rough z ea1 z0 ea2 (Y := Y) (by unfold Near at ta ⊢; constructor <;> grind) Y0 YM (by grind)
  obtain ⟨g2, g2v, g2n⟩ := add_rough g1v ex1 g1n ex2 (Y := Y) (by unfold Near at ta tx ⊢; constructor <;> grind) Y0 YM (by grind)
  obtain ⟨g3, g3v, g3n⟩ := add_rough g2v ey1 g2n ey2 (Y := Y) (by unfold Near at ta tx ty ⊢; constructor <;> grind) Y0 YM (by grind)
  obtain ⟨g4, g4v, g4n⟩ := add_rough g3v eb1 g3n eb2 (Y := Y) (by unfold Near at ta tx ty tb ⊢; constructor <;> grind) Y0 YM (by grind)
  generalize hQ : 0 + va * c * c + vx * c * d + vy * d * c + vb * d * d = Q at g4n
  have QN : Near Q (100 * Y) := by rw [← hQ]; unfold Near at ta tx ty tb ⊢; constructor <;> grind
  have gE : Near (g4 - Q) (6 / 100000 * Y + 9 / 1000000) := g4n.mono (by
    have h6 : (6 / 100000 : Rat) = 6 * (1 / 100000) := by decide +kernel
    have h9 : (9 / 1000000 : Rat) = 9 * (1 / 1000000) := by decide +kernel
    rw [h6, h9]
    grind)
  have g4N : Near g4 (101 * Y + 1) := (near_of gE QN).mono (by
    have h1 : (6 / 100000 : Rat) ≤ 1 := by decide +kernel
    have h1 := Rat.mul_le_mul_of_nonneg_right h1 Y0
    have h2 : (9 / 1000000 : Rat) ≤ 1 := by decide +kernel
    grind)
  have hN : Near (1 / 2 : Rat) (1 / 2) := by unfold Near; constructor <;> decide +kernel
  obtain ⟨E, E1, E2⟩ := half32.mul g4v (hN.mul g4N) (by
    have : (1 / 2 : Rat) * (101 * 100000 + 1) ≤ most := by decide +kernel
    have : (1 / 2 : Rat) * (101 * Y + 1) ≤ 1 / 2 * (101 * 100000 + 1) := Rat.mul_le_mul_of_nonneg_left (by grind) (by decide +kernel)
    grind)
  have word : enF f (l2N (qw i) (qw j)) = fop .mul .f32 (can .f32 1056964608) (fop .add .f32 (fop .add .f32 (fop .add .f32 (fop .add .f32 (can .f32 0) (fop .mul .f32 (fop .mul .f32 wa (qw i)) (qw i))) (fop .mul .f32 (fop .mul .f32 wx (qw i)) (qw j))) (fop .mul .f32 (fop .mul .f32 wy (qw j)) (qw i))) (fop .mul .f32 (fop .mul .f32 wb (qw j)) (qw j))) := by
    unfold enF enT
    rw [f0, f1, f2, f3]
    rfl
  rw [word]
  refine ⟨fin_val E1, ?_⟩
  have lw := (H.low c d).2
  have eQ : c * c * va + c * d * (vx + vy) + d * d * vb = Q := by rw [← hQ]; grind
  rw [eQ] at lw
  have n1 := nabs_le_of c1
  have n2 := nabs_le_of c2
  have p1 := Rat.mul_le_mul_of_nonneg_right n1 a0
  have p2 := Rat.mul_le_mul_of_nonneg_right n2 b0
  have p3 := Rat.add_nonneg (Rat.mul_nonneg (nabs_pos c) a0) (Rat.mul_nonneg (nabs_pos d) b0)
  have p4 := sq_mono p3 (show nabs c * La + nabs d * Lb ≤ 2 * (La + Lb) by grind)
  have e4 : 2 * (La + Lb) * (2 * (La + Lb)) = 4 * Y := by rw [← hY]; grind
  rw [e4] at p4
  have p5 := Rat.mul_le_mul_of_nonneg_left p4 (show (0 : Rat) ≤ 1 / 2400 by decide +kernel)
  have Qlow : -(1 / 600 * Y) ≤ Q := by
    have : (1 / 600 : Rat) = 1 / 2400 * 4 := by decide +kernel
    rw [this]; grind
  have El : -(1 / 1000 * Y + 1 / 10000) ≤ E := by
    have h1 : (1 / 2 : Rat) * (101 * ur .f32) ≤ 1 / 100000 := by decide +kernel
    have h1 := Rat.mul_le_mul_of_nonneg_right h1 Y0
    have h2 : (1 / 2 : Rat) * 1 * ur .f32 + tiny .f32 ≤ 1 / 100000 := by decide +kernel
    have h3 : (1 / 2 : Rat) * (1 / 600 + 6 / 100000) + 1 / 100000 ≤ 1 / 1000 := by decide +kernel
    have h3 := Rat.mul_le_mul_of_nonneg_right h3 Y0
    have h4 : (1 / 2 : Rat) * (9 / 1000000) + 1 / 100000 ≤ 1 / 10000 := by decide +kernel
    unfold Near at gE E2
    grind
  have kc : Val .f64 (can .f64 13800290266158863483) (-(5764607523034235 / 576460752303423488)) := Val.of_vof (by decide +kernel)
  obtain ⟨K, K1, K2⟩ := scale_val kc s1 (by constructor <;> decide +kernel) (near_size q2 q3)
  have fin : K < E := by
    have h1 := Rat.mul_le_mul_of_nonneg_right (show (99 / 10000 : Rat) ≤ 5764607523034235 / 576460752303423488 by decide +kernel) (half_pos q2)
    have h2 := Rat.mul_le_mul_of_nonneg_left q1 (show (0 : Rat) ≤ 1 / 1000 by decide +kernel)
    have h3 : (1 / 1000 : Rat) * (251 / 1000) ≤ 3 / 10000 := by decide +kernel
    have h3 := Rat.mul_le_mul_of_nonneg_right h3 (half_pos q2)
    have h4 := Rat.mul_le_mul_of_nonneg_left q2 (show (0 : Rat) ≤ 96 / 10000 by decide +kernel)
    have h5 : (99 / 10000 : Rat) = 3 / 10000 + 96 / 10000 := by decide +kernel
    have h6 : (1 / 10000 : Rat) + 1 / 1000000 < 96 / 10000 * (1 / 2) := by decide +kernel
    rw [h5] at h1
    unfold Near at K2
    grind
  rw [forder_gt E1.widen K1 fin]
  rfl
end
end Go.Fw.E1

/-
  The law of couplings: shares, in numbers.
-/
namespace Go.Fw.E1
open Go.Proofs
theorem share_core {a b v r A B k mu e : Rat} (a0 : 0 < a) (b0 : 0 < b) (r0 : 0 < r) (A0 : 0 ≤ A) (B0 : 0 ≤ B) (Y0 : 0 < A + B) (mu0 : 0 < mu) (k0 : 0 ≤ k) (e0 : 0 ≤ e) (e1 : e ≤ 1 / 1000)
    (ha : mu * ((A + B) * (A + B)) ≤ a) (hb : mu * ((A + B) * (A + B)) ≤ b) (hr : Near (r * r - a * b) (e * (a * b)))
    (low : -(k * ((r * A + a * B) * (r * A + a * B))) ≤ r * r * a + r * a * (v + v) + a * a * b) : -(v * (2 * mu)) ≤ r * (2 * mu + 2 * e * mu + k * (1 + 8 * e)) := by
  have ab := Rat.mul_pos a0 b0
  have YY := Rat.mul_pos Y0 Y0
  generalize hY : (A + B) * (A + B) = Y at *
  have mY := Rat.mul_pos mu0 YY
  have ea := Rat.mul_nonneg e0 (Rat.le_of_lt ab)
  have es := Rat.mul_le_mul_of_nonneg_right e1 (Rat.le_of_lt ab)
  have rr1 : r * r ≤ (1 + e) * (a * b) := by unfold Near at hr; grind
  have rr2 : a * b ≤ (1 + 2 * e) * (r * r) := by
    have h1 : (1 - e) * (a * b) ≤ r * r := by unfold Near at hr; grind
    have h2 := Rat.mul_le_mul_of_nonneg_left h1 (show 0 ≤ 1 + 2 * e by grind)
    have h3 : 0 ≤ e * (1 - 2 * e) * (a * b) := by
      have : (1 / 1000 : Rat) * 2 ≤ 1 := by decide +kernel
      exact Rat.mul_nonneg (Rat.mul_nonneg e0 (by grind)) (Rat.le_of_lt ab)
    grind
  have m1 : mu * Y ≤ (1 + e) * r := by
    refine le_of_sq (Rat.mul_nonneg (by grind) (Rat.le_of_lt r0)) ?_
    have h1 := Rat.mul_le_mul_of_nonneg_right ha (Rat.le_of_lt mY)
    have h2 := Rat.mul_le_mul_of_nonneg_left hb (Rat.le_of_lt a0)
    have h3 := sqn' (e * r)
    have h4 : (1 + e) * r * ((1 + e) * r) = (1 + 2 * e) * (r * r) + e * r * (e * r) := by grind
    rw [h4]
    grind
  have key : mu * ((r * A + a * B) * (r * A + a * B)) ≤ (1 + 4 * e) * (a * (a * b)) := by
    refine Rat.le_of_mul_le_mul_left (c := Y) ?_ YY
    have AA := Rat.mul_nonneg A0 A0
    have BB := Rat.mul_nonneg B0 B0
    have AB := Rat.mul_nonneg A0 B0
    have aab := Rat.mul_pos a0 ab
    have ra := Rat.mul_pos r0 a0
    have t1 : mu * Y * (r * r * (A * A)) ≤ (1 + e) * (a * (a * b)) * (A * A) := by
      have h1 := Rat.mul_le_mul_of_nonneg_right ha (Rat.mul_nonneg (Rat.le_of_lt (Rat.mul_pos r0 r0)) AA)
      have h2 := Rat.mul_le_mul_of_nonneg_left rr1 (Rat.mul_nonneg (Rat.le_of_lt a0) AA)
      grind
    have t2 : mu * Y * (2 * (r * a * (A * B))) ≤ (1 + e) * (1 + e) * 2 * (a * (a * b)) * (A * B) := by
      have h1 := Rat.mul_le_mul_of_nonneg_right m1 (Rat.mul_nonneg (Rat.le_of_lt ra) AB)
      have h2 := Rat.mul_le_mul_of_nonneg_left rr1 (Rat.mul_nonneg (show 0 ≤ (1 + e) * a from Rat.mul_nonneg (by grind) (Rat.le_of_lt a0)) AB)
      grind
    have t3 : mu * Y * (a * a * (B * B)) ≤ a * (a * b) * (B * B) := by
      have h1 := Rat.mul_le_mul_of_nonneg_right hb (Rat.mul_nonneg (Rat.le_of_lt (Rat.mul_pos a0 a0)) BB)
      grind
    have c1 : 1 + e ≤ 1 + 4 * e := by grind
    have c2 : (1 + e) * (1 + e) ≤ 1 + 4 * e := by
      have : e * e ≤ 1 / 1000 * e := Rat.mul_le_mul_of_nonneg_right e1 e0
      have : (1 / 1000 : Rat) * e ≤ 1 * e := Rat.mul_le_mul_of_nonneg_right (by decide +kernel) e0
      grind
    have w1 := Rat.mul_le_mul_of_nonneg_right c1 (Rat.mul_nonneg (Rat.le_of_lt aab) AA)
    have w2 := Rat.mul_le_mul_of_nonneg_right c2 (Rat.mul_nonneg (Rat.le_of_lt aab) AB)
    have w3 : 0 ≤ 4 * e * (a * (a * b) * (B * B)) := Rat.mul_nonneg (by grind) (Rat.mul_nonneg (Rat.le_of_lt aab) BB)
    have lhs : Y * (mu * ((r * A + a * B) * (r * A + a * B))) = mu * Y * (r * r * (A * A)) + mu * Y * (2 * (r * a * (A * B))) + mu * Y * (a * a * (B * B)) := by grind
    have rhs : Y * ((1 + 4 * e) * (a * (a * b))) = (1 + 4 * e) * (a * (a * b) * (A * A)) + 2 * ((1 + 4 * e) * (a * (a * b) * (A * B))) + (a * (a * b) * (B * B) + 4 * e * (a * (a * b) * (B * B))) := by rw [← hY]; grind
    rw [lhs, rhs]
    grind
  have kk := Rat.mul_le_mul_of_nonneg_left key k0
  have l2 := Rat.mul_le_mul_of_nonneg_left low (Rat.le_of_lt mu0)
  refine Rat.le_of_mul_le_mul_left (c := a * r) ?_ (Rat.mul_pos a0 r0)
  have aar := Rat.mul_nonneg (Rat.le_of_lt a0) (show 0 ≤ mu by grind)
  have x1 := Rat.mul_le_mul_of_nonneg_left rr2 aar
  have x2 := Rat.mul_le_mul_of_nonneg_left rr2 (show 0 ≤ k * (1 + 4 * e) * a from Rat.mul_nonneg (Rat.mul_nonneg k0 (by grind)) (Rat.le_of_lt a0))
  have x4 : (1 + 4 * e) * (1 + 2 * e) ≤ 1 + 8 * e := by
    have : e * e ≤ 1 / 1000 * e := Rat.mul_le_mul_of_nonneg_right e1 e0
    have : (1 / 1000 : Rat) * e * 8 ≤ 2 * e := by
      have : (1 / 1000 : Rat) * 8 ≤ 2 := by decide +kernel
      have := Rat.mul_le_mul_of_nonneg_right this e0
      grind
    grind
  have x5 := Rat.mul_le_mul_of_nonneg_right x4 (Rat.mul_nonneg k0 (Rat.mul_nonneg (Rat.le_of_lt a0) (Rat.le_of_lt (Rat.mul_pos r0 r0))))
  have g1 : a * r * -(v * (2 * mu)) = -(mu * (r * a * (v + v))) := by grind
  have g2 : a * r * (r * (2 * mu + 2 * e * mu + k * (1 + 8 * e))) = a * mu * (r * r) * 2 + 2 * e * (a * mu * (r * r)) + (1 + 8 * e) * (k * (a * (r * r))) := by grind
  rw [g1, g2]
  grind
section
variable {wx wy wz wa wb wla wlb : Nat} {G11 G12 G22 La Lb vx vy vz va vb la lb : Rat} (H : Cpl wx wy wz wa wb wla wlb G11 G12 G22 La Lb vx vy vz va vb la lb)
include H
theorem Cpl.share (Y0 : 0 < La + Lb) : (bif bif forder .f64 (fcvt .f32 .f64 wa) (fop .mul .f64 (can .f64 4576918229304087675) (sz10 wla wlb)) == some .gt then forder .f64 (fcvt .f32 .f64 wb) (fop .mul .f64 (can .f64 4576918229304087675) (sz10 wla wlb)) == some .gt else false then bif !fin (fop .quo .f32 wx (root32 (fop .mul .f32 wa wb))) then true else forder .f64 (gap8 (fcvt .f32 .f64 (bif fin (fop .quo .f32 wx (root32 (fop .mul .f32 wa wb))) then fop .quo .f32 wx (root32 (fop .mul .f32 wa wb)) else can .f32 0)) (can .f64 0)) (can .f64 4607227454796291113) == some .gt else false) = false := by
  obtain ⟨s, s1, s2⟩ := sz_val H.l1 H.l2 (H.na'.mono (by decide)) (H.nb'.mono (by decide))
  obtain ⟨q1, q2, q3⟩ := size_le H.a0 H.b0 H.na' H.nb' H.sa H.sb s2
  have kc : Val .f64 (can .f64 4576918229304087675) (5764607523034235 / 576460752303423488) := Val.of_vof (by decide +kernel)
  obtain ⟨K, K1, K2⟩ := scale_val kc s1 (by constructor <;> decide +kernel) (near_size q2 q3)
  have Klow : 99 / 10000 * s < K := by
    have h1 := Rat.mul_le_mul_of_nonneg_right (show (991 / 100000 : Rat) ≤ 5764607523034235 / 576460752303423488 by decide +kernel) (half_pos q2)
    have h4 := Rat.mul_le_mul_of_nonneg_left q2 (show (0 : Rat) ≤ 1 / 100000 by decide +kernel)
    have h5 : (991 / 100000 : Rat) = 99 / 10000 + 1 / 100000 := by decide +kernel
    have h6 : (1 / 1000000 : Rat) < 1 / 100000 * (1 / 2) := by decide +kernel
    rw [h5] at h1
    unfold Near at K2
    grind
  by_cases ha : va ≤ 99 / 10000 * s
  · rw [forder_lt H.a.widen K1 (by grind)]; rfl
  by_cases hb : vb ≤ 99 / 10000 * s
  · rw [forder_lt H.b.widen K1 (by grind)]
    cases forder .f64 (fcvt .f32 .f64 wa) (fop .mul .f64 (can .f64 4576918229304087675) (sz10 wla wlb)) == some .gt <;> rfl
  have ha : 99 / 10000 * s ≤ va := by grind
  have hb : 99 / 10000 * s ≤ vb := by grind
  have low := Rat.mul_le_mul_of_nonneg_left q2 (show (0 : Rat) ≤ 99 / 10000 by decide +kernel)
  have l2 : (1 / 256 : Rat) ≤ 99 / 10000 * (1 / 2) := by decide +kernel
  have a1 : 1 / 256 ≤ va := by grind
  have b1 : 1 / 256 ≤ vb := by grind
  have p256 : (0 : Rat) < 1 / 256 := by decide +kernel
  have a0 : 0 < va := by grind
  have b0 : 0 < vb := by grind
  have mq := Rat.mul_le_mul_of_nonneg_left q1 (show (0 : Rat) ≤ 39 / 1000 by decide +kernel)
  have mq2 : (39 / 1000 : Rat) * (251 / 1000) ≤ 99 / 10000 := by decide +kernel
  have mq2 := Rat.mul_le_mul_of_nonneg_right mq2 (half_pos q2)
  have mA : 39 / 1000 * ((La + Lb) * (La + Lb)) ≤ va := by grind
  have mB : 39 / 1000 * ((La + Lb) * (La + Lb)) ≤ vb := by grind
  obtain ⟨ma, mx, my, mb⟩ := H.mags
  obtain ⟨a9, b9⟩ := H.len
  have aM : La * La ≤ 91 * 91 := sq_mono H.a0 a9
  have bM : Lb * Lb ≤ 91 * 91 := sq_mono H.b0 b9
  have maN := ma.mono (show 5 * (La * La) ≤ 50000 by
    have : (91 * 91 : Rat) * 5 ≤ 50000 := by decide +kernel
    grind)
  have mbN := mb.mono (show 5 * (Lb * Lb) ≤ 50000 by
    have : (91 * 91 : Rat) * 5 ≤ 50000 := by decide +kernel
    grind)
  have w0 := Rat.mul_pos a0 b0
  have wM : va * vb ≤ 50000 * 50000 := (maN.mul mbN).2
  obtain ⟨w, w1, w2⟩ := H.a.mul H.b (X := va * vb) (by unfold Near; constructor <;> grind) (by
    have : (50000 * 50000 : Rat) ≤ most := by decide +kernel
    grind)
  have wl : 1 / 256 * (1 / 256) ≤ va * vb := by
    have h1 := Rat.mul_le_mul_of_nonneg_right a1 (Rat.le_of_lt b0)
    have h2 := Rat.mul_le_mul_of_nonneg_left b1 (show (0 : Rat) ≤ 1 / 256 by decide +kernel)
    grind
  have t1 : tiny .f32 ≤ ur .f32 * (1 / 256 * (1 / 256)) := by decide +kernel
  have t2 := Rat.mul_le_mul_of_nonneg_left wl (Rat.le_of_lt (ur_pos .f32))
  have w3 : Near (w - va * vb) (2 * ur .f32 * (va * vb)) := w2.mono (by grind)
  have u2 : 2 * ur .f32 ≤ 1 / 1000 := by decide +kernel
  have u2 := Rat.mul_le_mul_of_nonneg_right u2 (Rat.le_of_lt w0)
  have wpos : 0 ≤ w := by unfold Near at w3; grind
  obtain ⟨r, r1, r2, r3, _⟩ := w1.root wpos (by
    have : (50000 * 50000 : Rat) * 2 ≤ most := by decide +kernel
    unfold Near at w3; grind)
  have e22u : e22 = 4 * ur .f32 := by decide +kernel
  have r4 : Near (r * r - va * vb) (1 / 1000000 * (va * vb)) := by
    have h1 : w * e22 ≤ (va * vb * (1001 / 1000)) * e22 := Rat.mul_le_mul_of_nonneg_right (by
      have : (1001 / 1000 : Rat) = 1 + 1 / 1000 := by decide +kernel
      unfold Near at w3; grind) (Rat.le_of_lt e22_pos)
    have h2 : 2 * ur .f32 + 1001 / 1000 * e22 ≤ 1 / 1000000 := by decide +kernel
    have h2 := Rat.mul_le_mul_of_nonneg_right h2 (Rat.le_of_lt w0)
    have := r3.add w3
    rw [show r * r - w + (w - va * vb) = r * r - va * vb by grind] at this
    exact this.mono (by grind)
  have rpos : 0 < r := by
    by_cases h : 0 < r
    · exact h
    · have hz : r = 0 := by grind
      subst hz
      have : (1 / 1000000 : Rat) * (va * vb) ≤ 1 / 2 * (va * vb) := Rat.mul_le_mul_of_nonneg_right (by decide +kernel) (Rat.le_of_lt w0)
      unfold Near at r4
      grind
  have nr : nabs r = r := if_pos r2
  have na : nabs va = va := if_pos (Rat.le_of_lt a0)
  have nn : nabs (-va) = va := by unfold nabs; rw [if_neg (by grind)]; grind
  have low1 := (H.low r va).1
  have low2 := (H.low r (-va)).1
  rw [nr, na] at low1
  rw [nr, nn] at low2
  have c1 := share_core (a := va) (b := vb) (v := vx) (r := r) (A := La) (B := Lb) (k := 1 / 2400) (mu := 39 / 1000) (e := 1 / 1000000) a0 b0 rpos H.a0 H.b0 Y0 (by decide +kernel) (by decide +kernel) (by decide +kernel) (by decide +kernel) mA mB r4 low1
  have c2 := share_core (a := va) (b := vb) (v := -vx) (r := r) (A := La) (B := Lb) (k := 1 / 2400) (mu := 39 / 1000) (e := 1 / 1000000) a0 b0 rpos H.a0 H.b0 Y0 (by decide +kernel) (by decide +kernel) (by decide +kernel) (by decide +kernel) mA mB r4 (by
    have e : r * r * va + r * va * (-vx + -vx) + va * va * vb = r * r * va + r * -va * (vx + vx) + -va * -va * vb := by grind
    rw [e]; exact low2)
  have cc : (2 * (39 / 1000) + 2 * (1 / 1000000) * (39 / 1000) + 1 / 2400 * (1 + 8 * (1 / 1000000)) : Rat) ≤ 1006 / 1000 * (2 * (39 / 1000)) := by decide +kernel
  have cc := Rat.mul_le_mul_of_nonneg_left cc r2
  have kp : (0 : Rat) < 2 * (39 / 1000) := by decide +kernel
  have vN : Near vx (1006 / 1000 * r) := by
    constructor
    · refine Rat.le_of_mul_le_mul_right (c := 2 * (39 / 1000)) ?_ kp
      grind
    · refine Rat.le_of_mul_le_mul_right (c := 2 * (39 / 1000)) ?_ kp
      grind
  have vr : vx / r * r = vx := Rat.div_mul_cancel (by grind)
  have qN : Near (vx / r) (1006 / 1000) := by
    unfold Near at vN ⊢
    constructor
    · refine Rat.le_of_mul_le_mul_right (c := r) ?_ rpos
      rw [vr]; grind
    · refine Rat.le_of_mul_le_mul_right (c := r) ?_ rpos
      rw [vr]; grind
  obtain ⟨f, f1, f2⟩ := H.x.quo r1 (by grind) qN (by decide +kernel)
  have f2 := near_of f2 qN
  have r1' : Val .f32 (fop .quo .f32 wx (root32 (fop .mul .f32 wa wb))) f := f1
  have hf := fin_val r1'
  have fN := f2.mono (show (1006 / 1000 : Rat) + (1006 / 1000 * ur .f32 + tiny .f32) ≤ 1007 / 1000 by decide +kernel)
  have k101 : Val .f64 (can .f64 4607227454796291113) (4548635623644201 / 4503599627370496) := Val.of_vof (by decide +kernel)
  have g := gap_ngt4 r1'.widen zero64 (t := 1007 / 1000) (by rw [show f - 0 = f by grind]; exact fN) k101 (by decide +kernel) (by decide +kernel)
  rw [hf]
  rw [show (bif true then fop .quo .f32 wx (root32 (fop .mul .f32 wa wb)) else can .f32 0) = fop .quo .f32 wx (root32 (fop .mul .f32 wa wb)) from rfl, g]
  cases forder .f64 (fcvt .f32 .f64 wa) (fop .mul .f64 (can .f64 4576918229304087675) (sz10 wla wlb)) == some .gt <;> cases forder .f64 (fcvt .f32 .f64 wb) (fop .mul .f64 (can .f64 4576918229304087675) (sz10 wla wlb)) == some .gt <;> rfl
end
end Go.Fw.E1

/-
  The law of couplings: two wires of quarters, all sums.
-/
namespace Go.Fw.E1
open Go.Proofs
theorem gsum_near {p q : Nat → Nat → Nat} {n m : Nat} {A B : Nat → Nat → Rat} {la lb : Nat → Rat} (hp : Pcs p n A la) (hq : Pcs q m B lb) : Near (gsum A B n m) (41 / 10 * (rsum la n * rsum lb m)) := by
  rw [← dsum_prod, ← dsum_mul]
  refine dsum_nearF fun i j hi hj => ?_
  obtain ⟨_, _, _, _, _, _, _, M1, M0⟩ := pair_term (hp i hi) (hq j hj) q4_sq
  have W := cs3 (hp i hi).ww (hq j hj).ww (hp.pos hi).2 (hq.pos hj).2
  have MN : Near (mqf (sqd A B i j)) (41 / 10) := by
    have : (0 : Rat) ≤ 41 / 10 := by decide +kernel
    have M0 : 0 ≤ mqf (sqd A B i j) := M0
    have M1 : mqf (sqd A B i j) ≤ 41 / 10 := M1
    unfold Near; constructor <;> grind
  have := W.mul MN
  rw [show la i * lb j * (41 / 10) = 41 / 10 * (la i * lb j) by grind] at this
  exact this
theorem len_lam {n pp : Nat} {x y z : Nat → Nat} (hx : Qs x) (hy : Qs y) (hz : Qs z) (h0 : 2 ≤ n) (h6 : n ≤ 6) (p0 : 1 ≤ pp) (p3 : pp ≤ 3) (cl : Bool) : ∃ la : Rat, Val .f32 (lenW n x y z cl) la ∧ Near la 90 ∧ rsum (lamW n pp x y z) (pp * cnt n cl) ≤ la * (1 + 1 / 500000) + 11 / 100000 ∧ 0 ≤ rsum (lamW n pp x y z) (pp * cnt n cl) ∧ rsum (lamW n pp x y z) (pp * cnt n cl) ≤ 91 := by
  have hm : cnt n cl ≤ 6 := Nat.le_trans (cnt_le n cl) h6
  have hf : ∀ k, k < cnt n cl → Val .f32 (segLen (sg n x y z) k) (vl (segLen (sg n x y z) k)) ∧ 0 ≤ vl (segLen (sg n x y z) k) ∧ vl (segLen (sg n x y z) k) ≤ 14 := fun k _ => by
    obtain ⟨s, s1, s2, s3⟩ := seg_len (n := n) hx hy hz k
    rw [vl_eq s1]
    exact ⟨s1, s2, s3⟩
  obtain ⟨la, l1, l2⟩ := lenS_val hm hf
  have b := len_bound hm hf l1
  have r0 := rsum_nonneg (f := fun s => vl (segLen (sg n x y z) s)) (cnt n cl) fun k hk => (hf k hk).2.1
  have r84 : rsum (fun s => vl (segLen (sg n x y z) s)) (cnt n cl) ≤ 86 := by
    unfold Near at l2 b
    have : (85 : Rat) + 1 / 10000 ≤ 86 := by decide +kernel
    grind
  have c18 : ((pp * cnt n cl : Nat) : Rat) ≤ 18 := Rat.natCast_le_natCast.2 (show pp * cnt n cl ≤ 3 * 6 from Nat.mul_le_mul p3 hm)
  have c0 : (0 : Rat) ≤ ((pp * cnt n cl : Nat) : Rat) := Rat.natCast_nonneg
  rw [lam_sum n pp x y z p0]
  refine ⟨la, l1, b.mono (by decide), ?_⟩
  generalize ((pp * cnt n cl : Nat) : Rat) = C at *
  generalize rsum (fun s => vl (segLen (sg n x y z) s)) (cnt n cl) = R at *
  have k1 := Rat.mul_le_mul_of_nonneg_right c18 (show (0 : Rat) ≤ 1 / 1099511627776 by decide +kernel)
  have k2 := Rat.mul_nonneg c0 (show (0 : Rat) ≤ 1 / 1099511627776 by decide +kernel)
  have k3 := Rat.mul_le_mul_of_nonneg_right (show (1 + 1 / 524288 : Rat) ≤ 1 + 1 / 500000 by decide +kernel) r0
  have k4 := Rat.mul_nonneg (show (0 : Rat) ≤ 1 + 1 / 524288 by decide +kernel) r0
  have k5 : (18 : Rat) * (1 / 1099511627776) + (1 + 1 / 500000) * (1 / 10000) ≤ 11 / 100000 := by decide +kernel
  have k6 := Rat.mul_le_mul_of_nonneg_left (show R ≤ la + 1 / 10000 by unfold Near at l2; grind) (show (0 : Rat) ≤ 1 + 1 / 500000 by decide +kernel)
  have k7 : (18 : Rat) * (1 / 1099511627776) + (1 + 1 / 524288) * 86 ≤ 91 := by decide +kernel
  have k8 := Rat.mul_le_mul_of_nonneg_left r84 (show (0 : Rat) ≤ 1 + 1 / 524288 by decide +kernel)
  refine ⟨?_, ?_, ?_⟩
  · grind
  · grind
  · grind
section
variable {n m pp : Nat} {x y z u v w : Nat → Nat} (hx : Qs x) (hy : Qs y) (hz : Qs z) (hu : Qs u) (hv : Qs v) (hw : Qs w) (n2 : 2 ≤ n) (n6 : n ≤ 6) (m2 : 2 ≤ m) (m6 : m ≤ 6) (p1 : 1 ≤ pp) (p3 : pp ≤ 3)
include hx hy hz hu hv hw n2 n6 m2 m6 p1 p3
theorem couple (cl dl : Bool) : ∃ G11 G12 G22 La Lb vx vy vz va vb la lb : Rat, Cpl (psW n x y z cl m u v w dl Q4 pp) (psW m u v w dl n x y z cl Q4 pp) (psW n x y z cl m (revR m u) (revR m v) (revR m w) dl Q4 pp) (psW n x y z cl n x y z cl Q4 pp) (psW m u v w dl m u v w dl Q4 pp) (lenW n x y z cl) (lenW m u v w dl) G11 G12 G22 La Lb vx vy vz va vb la lb ∧ 0 < La + Lb := by
  have hur : Qs (revR m u) := hu.rev m
  have hvr : Qs (revR m v) := hv.rev m
  have hwr : Qs (revR m w) := hw.rev m
  have cn : 1 ≤ cnt n cl := by cases cl <;> (show 1 ≤ _; first | exact (show 1 ≤ n - 1 by omega) | exact (show 1 ≤ n by omega))
  have cm : 1 ≤ cnt m dl := by cases dl <;> (show 1 ≤ _; first | exact (show 1 ≤ m - 1 by omega) | exact (show 1 ≤ m by omega))
  have N0 : 0 < pp * cnt n cl := Nat.mul_pos (by omega) cn
  have M0 : 0 < pp * cnt m dl := Nat.mul_pos (by omega) cm
  have N18 : pp * cnt n cl ≤ 18 := Nat.mul_le_mul p3 (Nat.le_trans (cnt_le n cl) n6)
  have M18 : pp * cnt m dl ≤ 18 := Nat.mul_le_mul p3 (Nat.le_trans (cnt_le m dl) m6)
  obtain ⟨A, A1, A2, A3, A4⟩ := pieces (n := n) hx hy hz p1 p3 (pp * cnt n cl)
  obtain ⟨B, B1, B2, B3, B4⟩ := pieces (n := m) hu hv hw p1 p3 (pp * cnt m dl)
  obtain ⟨C, C1, C2, C3, C4⟩ := pieces (n := m) hur hvr hwr p1 p3 (pp * cnt m dl)
  obtain ⟨la, a1, a2, a3, a4, a5⟩ := len_lam hx hy hz n2 n6 p1 p3 cl
  obtain ⟨lb, b1, b2, b3, b4, b5⟩ := len_lam hu hv hw m2 m6 p1 p3 dl
  obtain ⟨bk1, bk2⟩ := gsum_back (cl := dl) hu hv hw m2 p1 A1 B1 C1 B2 B3 B4 C2 C3
  have big : (91 * 91 : Rat) ≤ 1000000 := by decide +kernel
  have LM : ∀ {p q : Rat}, 0 ≤ p → p ≤ 91 → 0 ≤ q → q ≤ 91 → p * q ≤ 1000000 := fun {p q} h1 h2 h3 h4 => by
    have := Rat.mul_le_mul_of_nonneg_right h2 h3
    have := Rat.mul_le_mul_of_nonneg_left h4 (show (0 : Rat) ≤ 91 by decide)
    grind
  have NM : ∀ {p q : Nat}, p ≤ 18 → q ≤ 18 → p * q ≤ 324 := fun h1 h2 => Nat.mul_le_mul h1 h2
  obtain ⟨vx, x1, x2⟩ := ps_val N0 M0 (NM N18 M18) A1 B1 (LM a4 a5 b4 b5)
  obtain ⟨vy, y1, y2⟩ := ps_val M0 N0 (NM M18 N18) B1 A1 (LM b4 b5 a4 a5)
  obtain ⟨vz, z1, z2⟩ := ps_val N0 M0 (NM N18 M18) A1 C1 (by rw [bk2]; exact LM a4 a5 b4 b5)
  obtain ⟨va, va1, va2⟩ := ps_val N0 N0 (NM N18 N18) A1 A1 (LM a4 a5 a4 a5)
  obtain ⟨vb, vb1, vb2⟩ := ps_val M0 M0 (NM M18 M18) B1 B1 (LM b4 b5 b4 b5)
  have gs := gram_sum A B (pp * cnt n cl) (pp * cnt m dl)
  have g11 := gsum_near A1 A1
  have g12 := gsum_near A1 B1
  have g22 := gsum_near B1 B1
  have pos := rsum_ge N0 (by decide +kernel) fun j hj => (A1.pos hj).1
  rw [bk2] at z2
  rw [gsum_comm B A] at y2
  generalize gsum A A (pp * cnt n cl) (pp * cnt n cl) = G11 at *
  generalize gsum A B (pp * cnt n cl) (pp * cnt m dl) = G12 at *
  generalize gsum B B (pp * cnt m dl) (pp * cnt m dl) = G22 at *
  generalize rsum (lamW n pp x y z) (pp * cnt n cl) = La at *
  generalize rsum (lamW m pp u v w) (pp * cnt m dl) = Lb at *
  refine ⟨G11, G12, G22, La, Lb, vx, vy, vz, va, vb, la, lb, ⟨x1, y1, z1, va1, vb1, a1, b1, x2, ?_, ?_, va2, vb2, gs, g11, g12, g22, a4, b4, a2, b2, a3, b3⟩, ?_⟩
  · rw [Rat.mul_comm La Lb]; exact y2
  · have := z2.add bk1
    rw [show vz - gsum A C (pp * cnt n cl) (pp * cnt m dl) + (gsum A C (pp * cnt n cl) (pp * cnt m dl) + G12) = vz + G12 by grind] at this
    refine this.mono ?_
    have k : (1 / 2400 + 1 / 4000 : Rat) = 1 / 1500 := by decide +kernel
    rw [← k]; grind
  · have : (0 : Rat) < 1 / 1099511627776 := by decide +kernel
    grind
end
end Go.Fw.E1

/-
  Wires of quarters: turned ones are finite, and as long, nearly.
-/
namespace Go.Fw.E1
open Go.Proofs
section
variable {t : Nat} {C S : Rat} (hc : Val .f32 (cT t) C) (hs : Val .f32 (sT t) S) (hC : Near (C * C + S * S - 1) (2 * ur .f32))
include hc hs hC
end
end Go.Fw.E1

/-
  Wires of quarters: turned ones are as long, nearly.
-/
namespace Go.Fw.E1
open Go.Proofs
section
variable {t n : Nat} {x y z : Nat → Nat} {C S : Rat} (hc : Val .f32 (cT t) C) (hs : Val .f32 (sT t) S) (hC : Near (C * C + S * S - 1) (2 * ur .f32)) (hx : Qs x) (hy : Qs y) (hz : Qs z) (h0 : 2 ≤ n) (h6 : n ≤ 6)
include hc hs hC hx hy hz h0 h6
end
end Go.Fw.E1

/-
  The law of wires.
-/
namespace Go.Fw.E1
open Go.Proofs
section
variable {n c p q r t : Nat} {x y z : Nat → Nat} {C S : Rat}
  (hc : Val .f32 (cT t) C) (hs : Val .f32 (sT t) S) (hC : Near (C * C + S * S - 1) (2 * ur .f32)) (ht : fin t = true)
  (hx : Qs x) (hy : Qs y) (hz : Qs z) (h0 : 2 ≤ n) (h6 : n ≤ 6) (hi : c < 17) (hp : p < 17) (hq : q < 17) (hr : r < 17)
include hx hy hz h0 h6 hp hq hr
include hc hs hC ht hi
end
theorem wp_qs {b : Nat → Nat} (hb : ∀ i, b i < 256) (la : Nat) : Qs (wpx la b) ∧ Qs (wpy la b) ∧ Qs (wpz la b) :=
  ⟨fun k => wq_ex hb la _ _, fun k => wq_ex hb la _ _, fun k => wq_ex hb la _ _⟩
end Go.Fw.E1

/-
  The law of couplings.
-/
namespace Go.Fw.E1
open Go.Proofs
theorem least_q4 : least Q4 = true := by decide +kernel
theorem inI_pp {pp : Nat} (h1 : 1 ≤ pp) (h3 : pp ≤ 3) : inI (Int.ofNat pp) 1 8 = true := by
  match pp, h1, h3 with
  | 1, _, _ => rfl
  | 2, _, _ => rfl
  | 3, _, _ => rfl
theorem two_q {n m pp c d : Nat} {x y z u v w : Nat → Nat} (h1 : okW n c x y z = true) (h2 : okW m d u v w = true) (p1 : 1 ≤ pp) (p3 : pp ≤ 3) : two n c x y z m d u v w Q4 (Int.ofNat pp) = true := by
  unfold two
  rw [h1, h2, least_q4, inI_pp p1 p3]
  rfl
theorem all2 {f : Nat → Bool} (h0 : f 0 = true) (h1 : f 1 = true) : allUpTo f 2 = true := allUpTo_iff.2 fun i hi => by
  match i, hi with
  | 0, _ => exact h0
  | 1, _ => exact h1
theorem all4 {f : Nat → Bool} (h0 : f 0 = true) (h1 : f 1 = true) (h2 : f 2 = true) (h3 : f 3 = true) : allUpTo f 4 = true := allUpTo_iff.2 fun i hi => by
  match i, hi with
  | 0, _ => exact h0
  | 1, _ => exact h1
  | 2, _ => exact h2
  | 3, _ => exact h3
section
variable {n m pp i j : Nat} {x y z u v w : Nat → Nat} (hx : Qs x) (hy : Qs y) (hz : Qs z) (hu : Qs u) (hv : Qs v) (hw : Qs w) (n2 : 2 ≤ n) (n6 : n ≤ 6) (m2 : 2 ≤ m) (m6 : m ≤ 6) (hi : i < 17) (hj : j < 17) (p1 : 1 ≤ pp) (p3 : pp ≤ 3)
include hx hy hz hu hv hw n2 n6 m2 m6 hi hj p1 p3
theorem law10_true (cl dl : Bool) : c10 n (qw i) x y z cl m (qw j) u v w dl (Int.ofNat pp) = true ∧ v10 n (qw i) x y z cl m (qw j) u v w dl (Int.ofNat pp) = true := by
  obtain ⟨G11, G12, G22, La, Lb, vx, vy, vz, va, vb, la, lb, H, Y0⟩ := couple hx hy hz hu hv hw n2 n6 m2 m6 p1 p3 cl dl
  have o1 := ok_own hx hy hz n2 n6 (fin_qw hi)
  have o2 := ok_own hu hv hw m2 m6 (fin_qw hj)
  have o3 := ok_rev hu hv hw m2 m6 (fin_qw hj)
  have t12 := two_q o1 o2 p1 p3
  have t21 := two_q o2 o1 p1 p3
  have t13 := two_q o1 o3 p1 p3
  have pk : (Int.ofNat pp).toNat = pp := rfl
  have pd : decide (0 ≤ Int.ofNat pp) = true := decide_eq_true (Int.natCast_nonneg pp)
  have nb : Nat.ble n 1048576 = true := Nat.ble_eq_true_of_le (by omega)
  have mb : Nat.ble m 1048576 = true := Nat.ble_eq_true_of_le (by omega)
  have fx := fin_val H.x
  have fy := fin_val H.y
  have fz := fin_val H.z
  have fa := fin_val H.a
  have fb := fin_val H.b
  have s1 : psC8 n m = true := by unfold psC8; rw [nb, mb]; rfl
  have s2 : psC8 m n = true := by unfold psC8; rw [nb, mb]; rfl
  have k12 : psOk n (qw i) x y z cl m (qw j) u v w dl Q4 pp = true := by unfold psOk; rw [t12, fx]; rfl
  have k21 : psOk m (qw j) u v w dl n (qw i) x y z cl Q4 pp = true := by unfold psOk; rw [t21, fy]; rfl
  have k13 : psOk n (qw i) x y z cl m (qw j) (revR m u) (revR m v) (revR m w) dl Q4 pp = true := by unfold psOk; rw [t13, fz]; rfl
  have wc : wcOk (l2N n m) (l2F x u) (l2F y v) (l2F z w) (l2B cl dl) (l2N (qw i) (qw j)) Q4 pp = true := by
    have h1 : allUpTo (shortW (l2N n m)) 2 = true := all2 nb mb
    have h2 : areW 2 (l2N n m) (l2F x u) (l2F y v) (l2F z w) (l2N (qw i) (qw j)) = true := by
      unfold areW
      have : allUpTo (okAt (l2N n m) (l2F x u) (l2F y v) (l2F z w) (l2N (qw i) (qw j))) 2 = true := all2 o1 o2
      rw [this]; rfl
    have h3 : wcN (l2N n m) pp 0 1 = true := by
      show (Nat.ble 1 n && n.ble 1000 && Nat.ble 1 m && m.ble 1000 && pp.ble 32) = true
      rw [ble_of (show 1 ≤ n by omega), ble_of (show n ≤ 1000 by omega), ble_of (show 1 ≤ m by omega), ble_of (show m ≤ 1000 by omega), ble_of (show pp ≤ 32 by omega)]; rfl
    have h4 : allUpTo (finA (wcF (l2N n m) (l2F x u) (l2F y v) (l2F z w) (l2B cl dl) Q4 pp)) 4 = true := all4 fa fx fy fb
    have h5 : inI (Int.ofNat pp) (Int.ofNat 1) (Int.ofNat 8) = true := inI_pp p1 p3
    unfold wcOk wcA
    rw [h1, h2, h3, h4, h5, least_q4]; rfl
  have en := H.energy hi hj (f := wcF (l2N n m) (l2F x u) (l2F y v) (l2F z w) (l2B cl dl) Q4 pp) rfl rfl rfl rfl
  obtain ⟨_, mx, _, _⟩ := H.mags
  obtain ⟨a9, b9⟩ := H.len
  have qj := q_val (x := fun _ => qw j) (fun _ => ⟨j, hj, rfl⟩) 0
  obtain ⟨f, f1, _⟩ := H.x.mul qj.1 (mx.mul qj.2) (by
    have h1 := Rat.mul_le_mul_of_nonneg_right a9 H.b0
    have h2 := Rat.mul_le_mul_of_nonneg_left b9 (show (0 : Rat) ≤ 91 by decide)
    have h3 : 5 * (91 * 91 : Rat) * 2 ≤ most := by decide +kernel
    grind)
  have z0 : Val .f32 (can .f32 0) 0 := Val.of_vof (by decide +kernel)
  have f2 := val_add0 z0 f1
  have fl : flC 1 (l1N m) (l1F u) (l1F v) (l1F w) (l1B dl) (l1N (qw j)) n (qw i) x y z cl Q4 pp = true := by
    have h1 : allUpTo (shortW (l1N m)) 1 = true := allUpTo_iff.2 fun i hi => by
      match i, hi with
      | 0, _ => exact mb
    have h2 : areW 1 (l1N m) (l1F u) (l1F v) (l1F w) (l1N (qw j)) = true := by
      unfold areW
      have : allUpTo (okAt (l1N m) (l1F u) (l1F v) (l1F w) (l1N (qw j))) 1 = true := allUpTo_iff.2 fun i hi => by
        match i, hi with
        | 0, _ => exact o2
      rw [this]; rfl
    have h3 : canL 1 (l1N m) (l1F u) (l1F v) (l1F w) (l1N (qw j)) Q4 (Int.ofNat pp) = true := by
      unfold canL
      rw [h2, least_q4, inI_pp p1 p3]; rfl
    have h4 : fin (fxW (l1N m) (l1F u) (l1F v) (l1F w) (l1B dl) (l1N (qw j)) n x y z cl Q4 pp (can .f32 0) 1) = true := fin_val f2
    unfold flC flxOk
    rw [h1, h3, h4, o1, nb]; rfl
  have eqx := forder_eq H.x H.x
  have eqy := forder_eq H.y H.y
  have eqf := forder_eq f2 f1
  have eqf : forder .f32 (fop .add .f32 (can .f32 0) (fop .mul .f32 (psW n x y z cl m u v w dl Q4 pp) (qw j))) (fop .mul .f32 (psW n x y z cl m u v w dl Q4 pp) (qw j)) = some .eq := eqf
  have w0 : wcF (l2N n m) (l2F x u) (l2F y v) (l2F z w) (l2B cl dl) Q4 pp 0 = psW n x y z cl n x y z cl Q4 pp := rfl
  have w1 : wcF (l2N n m) (l2F x u) (l2F y v) (l2F z w) (l2B cl dl) Q4 pp 1 = psW n x y z cl m u v w dl Q4 pp := rfl
  have w2 : wcF (l2N n m) (l2F x u) (l2F y v) (l2F z w) (l2B cl dl) Q4 pp 2 = psW m u v w dl n x y z cl Q4 pp := rfl
  have w3 : wcF (l2N n m) (l2F x u) (l2F y v) (l2F z w) (l2B cl dl) Q4 pp 3 = psW m u v w dl m u v w dl Q4 pp := rfl
  have sh := H.share Y0
  constructor
  · have shW' : shW n x y z cl m u v w dl Q4 pp = fop .quo .f32 (psW n x y z cl m u v w dl Q4 pp) (root32 (fop .mul .f32 (psW n x y z cl n x y z cl Q4 pp) (psW m u v w dl m u v w dl Q4 pp))) := rfl
    unfold c10
    rw [pk, pd, s1, s2, k12, k21, k13, o2, wc, en.1, fl, len_own hx hy hz n2 n6 (fin_qw hi), len_own hu hv hw m2 m6 (fin_qw hj), w0, w3, shW', sh]
    rfl
  · unfold v10
    rw [pk, H.gap_xy, H.gap_xz, w1, w2, eqx, eqy, en.2, eqf]
    rfl
end
theorem law10 {la lc : Nat} {b c : Nat → Nat} (hb : ∀ i, b i < 256) (hc : ∀ i, c i < 256) : PureCall Try.prog 10 [.ro 1 la (.gen fun i => .int .u8 (Int.ofNat (b i))), .ro 1 lc (.gen fun i => .int .u8 (Int.ofNat (c i)))] (.bool true) := by
  by_cases h : la ≤ 48 ∧ lc ≤ 48
  · obtain ⟨t, ht, E1⟩ := r8a_ex (la := lc) hc 40 (n := 3) (by omega)
    have E1 : r8a lc c 40 3 = Int.ofNat t := E1
    have EP : p10 (Int.ofNat t) = Int.ofNat (1 + t) := by
      unfold p10
      rw [show Int.ofNat 1 + Int.ofNat t = Int.ofNat (1 + t) from rfl, wrap_nat (by omega)]
    obtain ⟨i, I, CU⟩ := wq_ex hb la (Int.ofNat 0 + Int.ofNat 1) (sd1 la b)
    have CU : wcu la b = qw i := CU
    obtain ⟨j, J, CV⟩ := wq_ex hc lc (Int.ofNat 0 + Int.ofNat 1) (sd1 lc c)
    have CV : wcu lc c = qw j := CV
    obtain ⟨n, n0, n6, _, N⟩ := wn_ex (la := la) (b := b) fun i _ => hb i
    obtain ⟨m, m0, m6, _, M⟩ := wn_ex (la := lc) (b := c) fun i _ => hc i
    obtain ⟨X, Y, Z⟩ := wp_qs hb la
    obtain ⟨U, V, W⟩ := wp_qs hc lc
    have K := walk10 la lc b c
    obtain ⟨T1, T2⟩ := law10_true X Y Z U V W n0 n6 m0 m6 I J (show 1 ≤ 1 + t by omega) (show 1 + t ≤ 3 by omega) (wcl la b) (wcl lc c)
    rw [E1, EP, CU, CV, N, M, T1, T2] at K
    refine autoW_ok cfgT3_ok Try.func10 (by kernel_rfl) (lp_none _) K ?_
    have ub : allUpTo (isU8 fun i => A.int .u8 (Int.ofNat (b i))) la = true := u8_all (la := la) hb
    have uc : allUpTo (isU8 fun i => A.int .u8 (Int.ofNat (c i))) lc = true := u8_all (la := lc) hc
    rw [ub, uc, decide_eq_false (show ¬ Int.ofNat la > 48 by simp; omega), decide_eq_false (show ¬ Int.ofNat lc > 48 by simp; omega)]
    rfl
  · refine autoW_ok cfgT3_ok Try.func10 (by kernel_rfl) (lp_none _) (long10 la lc b c) ?_
    by_cases h1 : la ≤ 48
    · rw [decide_eq_false (show ¬ Int.ofNat la > 48 by simp; omega), decide_eq_true (show Int.ofNat lc > 48 by simp; omega)]; rfl
    · rw [decide_eq_true (show Int.ofNat la > 48 by simp; omega)]; rfl
end Go.Fw.E1
