/-
  What wires do to each segment of a wire: the loop's summary; how wires turn a wire: the round.
-/
import Derived.Test.YtlehhjphmenfbaaLpA
import Derived.Test.YtlehhjphmenfbaaFwD

namespace Go.Fw.E1
open Go.Proofs
noncomputable def F56u : List A → List (Option O) → Option R3
  | [.ro 3 m (.wires n x y z cl cur), .ptr 0 0, .emp, .bool false, .sl 176 0, .sl 224 N, .int .i64 l, .int .i64 0], [some (.row 0 6 N2 (.flns .f32 6 gg)), some (.row 30 3 0 g0), some (.var [.ro 3 n2 (.vecs .f32 x2 y2 z2), .bool cl2, .flt .f32 cur2])] =>
    some (.ite (Nat.beq N N2 && decide (l = Int.ofNat N) && Nat.ble N 1000 && allUpTo (fpC m n x y z cl cur cur2 gg) N) (.leaf .normal (I56u m n x y z cl cur N N) (J56u m n x y z cl cur N n2 cur2 x2 y2 z2 cl2 gg N)) .fail)
  | _, _ => none
theorem loop56u : CodeOK Try.prog (fun _ σ => sumAt Try.f56.ntmps 272 [0, 3, 4, 5, 6, 21, 22, 23] [224, 176, 0] F56u σ) (.block 0 (.loop (loopOf Try.f56 0))) := by
  refine block_ok (own := fun _ => true) (lp := (fun _ => none)) (un := 0) (fuel := 1000) cfgU3_ok (lp_none _) fun az os R hF hok => ?_
  unfold F56u at hF
  split at hF
  · rename_i m n x y z cl cur N l N2 gg g0 n2 x2 y2 z2 cl2 cur2
    injection hF with hF
    subst hF
    have hg := hok.guard
    have hg' := hg
    simp only [Bool.and_eq_true, Nat.ble_eq, Nat.beq_eq, decide_eq_true_eq] at hg'
    obtain ⟨⟨⟨rfl, rfl⟩, hN⟩, hall⟩ := hg'
    have hall := allUpTo_iff.1 hall
    refine for_fact (ids := [224, 176, 0]) (fun _ => true) N (I56u m n x y z cl cur N) (J56u m n x y z cl cur N n2 cur2 x2 y2 z2 cl2 gg) _ (.ret) (I56u m n x y z cl cur N) (I56u m n x y z cl cur N) (I56u m n x y z cl cur N N) (J56u m n x y z cl cur N n2 cur2 x2 y2 z2 cl2 gg N) rfl (by unfold J56u; exact ⟨⟨0, _, rfl, .inr rfl, fun _ _ => rfl⟩, ⟨30, _, rfl, .inr rfl, fun p hp => absurd hp (by omega)⟩, rfl, trivial⟩) (fun _ => rfl) (fun _ => rfl) (fun _ => ALe.self _) (fun _ => rfl) (ALe.self _) (OSims.self _) rfl (fun h => by cases h) (fun k hk L h1 h2 h3 => ?_) fun L hL => ?_
    · rw [round56u]
      by_cases hkm : k < N
      · refine condT (lt_dec hkm) (condT (lt_dec hkm) (condT (hall k hkm) (condT (decide_eq_true (by omega)) ?_)))
        rw [wrap_succ (by omega)]
        exact h1 hkm rfl _ ⟨⟨0, _, rfl, .inr rfl, fun _ _ => rfl⟩, ⟨30, _, rfl, .inr rfl, fun p' hp => vec_at (app3 (u := fpX m n x y z cl cur cur2 gg) rfl hp) (app3 (u := fpY m n x y z cl cur cur2 gg) rfl hp) (app3 (u := fpZ m n x y z cl cur cur2 gg) rfl hp)⟩, rfl, trivial⟩
      · refine condE (ge_dec (by omega)) ?_
        obtain rfl : k = N := by omega
        exact h3 rfl
    · exact ⟨fun _ => hL.1 hg, fun N _ h => by cases h⟩
  · cases hF
noncomputable def lp56u : List (Nat × (St → T)) := [(0, sumAt Try.f56.ntmps 272 [0, 3, 4, 5, 6, 21, 22, 23] [224, 176, 0] F56u)]
theorem lp56u_ok : LpOK Try.prog (look lp56u) (bodyOf Try.f56) := lp_loops (by kernel_rfl) (by kernel_rfl) fun p hp => by
  simp only [lp56u, List.mem_cons, List.not_mem_nil, or_false] at hp
  rcases hp with rfl
  · exact loop56u
noncomputable def tqX (m : Nat) (n : Nat → Nat) (x y z : Nat → Nat → Nat) (cl : Nat → Bool) (cur : Nat → Nat) (a b c cur2 : Nat) (g : Nat → Nat) : Nat := crX (fop .sub .f32 (g 3) a) (fop .sub .f32 (g 4) b) (fop .sub .f32 (g 5) c) (fop .mul .f32 (onX m n x y z cl cur g) cur2) (fop .mul .f32 (onY m n x y z cl cur g) cur2) (fop .mul .f32 (onZ m n x y z cl cur g) cur2)
noncomputable def tqY (m : Nat) (n : Nat → Nat) (x y z : Nat → Nat → Nat) (cl : Nat → Bool) (cur : Nat → Nat) (a b c cur2 : Nat) (g : Nat → Nat) : Nat := crY (fop .sub .f32 (g 3) a) (fop .sub .f32 (g 4) b) (fop .sub .f32 (g 5) c) (fop .mul .f32 (onX m n x y z cl cur g) cur2) (fop .mul .f32 (onY m n x y z cl cur g) cur2) (fop .mul .f32 (onZ m n x y z cl cur g) cur2)
noncomputable def tqZ (m : Nat) (n : Nat → Nat) (x y z : Nat → Nat → Nat) (cl : Nat → Bool) (cur : Nat → Nat) (a b c cur2 : Nat) (g : Nat → Nat) : Nat := crZ (fop .sub .f32 (g 3) a) (fop .sub .f32 (g 4) b) (fop .sub .f32 (g 5) c) (fop .mul .f32 (onX m n x y z cl cur g) cur2) (fop .mul .f32 (onY m n x y z cl cur g) cur2) (fop .mul .f32 (onZ m n x y z cl cur g) cur2)
noncomputable def I57u (m : Nat) (n : Nat → Nat) (x y z : Nat → Nat → Nat) (cl : Nat → Bool) (cur : Nat → Nat) (pp N k : Nat) : List A := [.ro 3 m (.wires n x y z cl cur), .int .i64 (Int.ofNat pp), .ptr 0 0, .ptr 16 0, .ptr 32 0, .bool false, .ptr 368 0, .sl 432 N, .int .i64 (Int.ofNat N), .int .i64 (Int.ofNat k)]
noncomputable def J57u (N p q r a b c n2 cur2 : Nat) (x2 y2 z2 : Nat → Nat) (cl2 : Bool) (gg : Nat → Nat → Nat) : List O := [.row 0 6 N (.flns .f32 6 gg), .var [.flt .f32 p, .flt .f32 q, .flt .f32 r], .var [.flt .f32 0, .flt .f32 0, .flt .f32 0], .var [.flt .f32 a, .flt .f32 b, .flt .f32 c], .var [.ro 3 n2 (.vecs .f32 x2 y2 z2), .bool cl2, .flt .f32 cur2]]
theorem round57u (m : Nat) (n : Nat → Nat) (x y z : Nat → Nat → Nat) (cl : Nat → Bool) (cur : Nat → Nat) (pp N k p q r a b c n2 cur2 : Nat) (x2 y2 z2 : Nat → Nat) (cl2 : Bool) (gg : Nat → Nat → Nat) (L : XK → List A → List (Option O) → Prop) :
    ((exec cfgU1 (fun _ => true) (fun _ => none) 0 1000 (loopOf Try.f57 0) (litSt Try.f57.ntmps 480 [0, 3, 5, 6, 8, 9, 10, 37, 38, 39] [432, 368, 32, 16, 0] (I57u m n x y z cl cur pp N k) (J57u N p q r a b c n2 cur2 x2 y2 z2 cl2 gg))).rt [0, 3, 5, 6, 8, 9, 10, 37, 38, 39] [432, 368, 32, 16, 0]).Ok L =
    bif decide (Int.ofNat k < Int.ofNat N) then
      bif decide (Int.ofNat k < Int.ofNat N) then
        bif faG m n x y z cl cur (gg k 3) (gg k 4) (gg k 5) then
          L (XK.normal) [.ro 3 m (.wires n x y z cl cur), .int .i64 (Int.ofNat pp), .ptr 0 0, .ptr 16 0, .ptr 32 0, .bool false, .ptr 368 0, .sl 432 N, .int .i64 (Int.ofNat N), .int .i64 (IntKind.i64.wrap (Int.ofNat k + Int.ofNat 1))] ((J57u N (fop .add .f32 p (tqX m n x y z cl cur a b c cur2 (gg k))) (fop .add .f32 q (tqY m n x y z cl cur a b c cur2 (gg k))) (fop .add .f32 r (tqZ m n x y z cl cur a b c cur2 (gg k))) a b c n2 cur2 x2 y2 z2 cl2 gg).map some)
        else
          False
      else
        False
    else
      L (XK.exit 0) (I57u m n x y z cl cur pp N k) ((J57u N p q r a b c n2 cur2 x2 y2 z2 cl2 gg).map some) := by kernel_rfl
noncomputable def J57k (m : Nat) (n : Nat → Nat) (x y z : Nat → Nat → Nat) (cl : Nat → Bool) (cur : Nat → Nat) (N a b c n2 cur2 : Nat) (x2 y2 z2 : Nat → Nat) (cl2 : Bool) (gg : Nat → Nat → Nat) (k : Nat) : List O := J57u N (sumW (fun j => tqX m n x y z cl cur a b c cur2 (gg j)) k) (sumW (fun j => tqY m n x y z cl cur a b c cur2 (gg j)) k) (sumW (fun j => tqZ m n x y z cl cur a b c cur2 (gg j)) k) a b c n2 cur2 x2 y2 z2 cl2 gg
noncomputable def F57u : List A → List (Option O) → Option R3
  | [.ro 3 m (.wires n x y z cl cur), .int .i64 (.ofNat pp), .ptr 0 0, .ptr 16 0, .ptr 32 0, .bool false, .ptr 368 0, .sl 432 N, .int .i64 l, .int .i64 0], [some (.row 0 6 N2 (.flns .f32 6 gg)), some (.var [.flt .f32 0, .flt .f32 0, .flt .f32 0]), some (.var [.flt .f32 0, .flt .f32 0, .flt .f32 0]), some (.var [.flt .f32 a, .flt .f32 b, .flt .f32 c]), some (.var [.ro 3 n2 (.vecs .f32 x2 y2 z2), .bool cl2, .flt .f32 cur2])] =>
    some (.ite (Nat.beq N N2 && decide (l = Int.ofNat N) && Nat.ble N 100000 && allUpTo (onOk m n x y z cl cur gg) N) (.leaf .normal (I57u m n x y z cl cur pp N N) (J57k m n x y z cl cur N a b c n2 cur2 x2 y2 z2 cl2 gg N)) .fail)
  | _, _ => none
theorem loop57u : CodeOK Try.prog (fun _ σ => sumAt Try.f57.ntmps 480 [0, 3, 5, 6, 8, 9, 10, 37, 38, 39] [432, 368, 32, 16, 0] F57u σ) (.block 0 (.loop (loopOf Try.f57 0))) := by
  refine block_ok (own := fun _ => true) (lp := (fun _ => none)) (un := 0) (fuel := 1000) cfgU1_ok (lp_none _) fun az os R hF hok => ?_
  unfold F57u at hF
  split at hF
  · rename_i m n x y z cl cur pp N l N2 gg a b c n2 x2 y2 z2 cl2 cur2
    injection hF with hF
    subst hF
    have hg := hok.guard
    have hg' := hg
    simp only [Bool.and_eq_true, Nat.ble_eq, Nat.beq_eq, decide_eq_true_eq] at hg'
    obtain ⟨⟨⟨rfl, rfl⟩, hN⟩, hall⟩ := hg'
    have hall := allUpTo_iff.1 hall
    refine for_fact (ids := [432, 368, 32, 16, 0]) (fun _ => true) N (I57u m n x y z cl cur pp N) (J57k m n x y z cl cur N a b c n2 cur2 x2 y2 z2 cl2 gg) _ (.ret) (I57u m n x y z cl cur pp N) (I57u m n x y z cl cur pp N) (I57u m n x y z cl cur pp N N) (J57k m n x y z cl cur N a b c n2 cur2 x2 y2 z2 cl2 gg N) rfl (by exact ⟨⟨0, _, rfl, .inr rfl, fun _ _ => rfl⟩, rfl, rfl, rfl, rfl, trivial⟩) (fun _ => rfl) (fun _ => rfl) (fun _ => ALe.self _) (fun _ => rfl) (ALe.self _) (OSims.self _) rfl (fun h => by cases h) (fun k hk L h1 h2 h3 => ?_) fun L hL => ?_
    · unfold J57k
      rw [round57u]
      by_cases hkm : k < N
      · refine condT (lt_dec hkm) (condT (lt_dec hkm) (condT (hall k hkm) ?_))
        rw [wrap_succ (by omega)]
        exact h1 hkm rfl _ ⟨⟨0, _, rfl, .inr rfl, fun _ _ => rfl⟩, rfl, rfl, rfl, rfl, trivial⟩
      · refine condE (ge_dec (by omega)) ?_
        obtain rfl : k = N := by omega
        exact h3 rfl
    · exact ⟨fun _ => hL.1 hg, fun N _ h => by cases h⟩
  · cases hF
noncomputable def lp57u : List (Nat × (St → T)) := [(0, sumAt Try.f57.ntmps 480 [0, 3, 5, 6, 8, 9, 10, 37, 38, 39] [432, 368, 32, 16, 0] F57u)]
theorem lp57u_ok : LpOK Try.prog (look lp57u) (bodyOf Try.f57) := lp_loops (by kernel_rfl) (by kernel_rfl) fun p hp => by
  simp only [lp57u, List.mem_cons, List.not_mem_nil, or_false] at hp
  rcases hp with rfl
  · exact loop57u
end Go.Fw.E1

/-
  What wires do to each segment of a wire, how they turn a wire: contracts by success.
-/
namespace Go.Fw.E1
open Go.Proofs
noncomputable def ptA (m : Nat) (n : Nat → Nat) (x y z : Nat → Nat → Nat) (cur : Nat → Nat) (n2 cur2 : Nat) (x2 y2 z2 : Nat → Nat) : Bool := !bif !areW m n x y z cur then true else !okW n2 cur2 x2 y2 z2
noncomputable def ptC (m : Nat) (n : Nat → Nat) (x y z : Nat → Nat → Nat) (cl : Nat → Bool) (cur : Nat → Nat) (n2 cur2 : Nat) (x2 y2 z2 : Nat → Nat) (cl2 : Bool) : Bool := m.ble 1048576 && allUpTo (shortW n) m && (Nat.ble 1 n2 && n2.ble 1000) && ptA m n x y z cur n2 cur2 x2 y2 z2 && allUpTo (fpC m n x y z cl cur cur2 (sg n2 x2 y2 z2)) (cnt n2 cl2)
theorem walk56u (m : Nat) (n : Nat → Nat) (x y z : Nat → Nat → Nat) (cl : Nat → Bool) (cur : Nat → Nat) (n2 cur2 : Nat) (x2 y2 z2 : Nat → Nat) (cl2 : Bool) : autoW cfgU3 (fun _ => true) 0 (look lp56u) [false] Try.f56 [.ro 3 m (.wires n x y z cl cur), .agg [.ro 3 n2 (.vecs .f32 x2 y2 z2), .bool cl2, .flt .f32 cur2]] =
    some (m.ble 1048576 && allUpTo (shortW n) m && ((n2.ble 4611686018427387000 || !(!areW m n x y z cur) == false) && (ptA m n x y z cur n2 cur2 x2 y2 z2 && (Nat.ble 1 n2 && n2.ble 1073741824 && ((cnt n2 cl2).beq (cnt n2 cl2) && decide (Int.ofNat (cnt n2 cl2) = Int.ofNat (cnt n2 cl2)) && (cnt n2 cl2).ble 1000 && allUpTo (fpC m n x y z cl cur cur2 (sg n2 x2 y2 z2)) (cnt n2 cl2) && true)))), .tup [.ro 3 (cnt n2 cl2) (.vecs .f32 (fpX m n x y z cl cur cur2 (sg n2 x2 y2 z2)) (fpY m n x y z cl cur cur2 (sg n2 x2 y2 z2)) (fpZ m n x y z cl cur cur2 (sg n2 x2 y2 z2))), .bool true]) := by kernel_rfl
noncomputable def s56U : List A → Option (Bool × A)
  | [.ro 3 m (.wires n x y z cl cur), .agg [.ro 3 n2 (.vecs .f32 x2 y2 z2), .bool cl2, .flt .f32 cur2]] => some (ptC m n x y z cl cur n2 cur2 x2 y2 z2 cl2, .tup [.ro 3 (cnt n2 cl2) (.vecs .f32 (fpX m n x y z cl cur cur2 (sg n2 x2 y2 z2)) (fpY m n x y z cl cur cur2 (sg n2 x2 y2 z2)) (fpZ m n x y z cl cur cur2 (sg n2 x2 y2 z2))), .bool true])
  | _ => none
theorem s56U_at : EnvAt Try.prog 56 s56U := by
  refine ⟨⟨Try.f56, Try.func56, by kernel_rfl, by kernel_rfl⟩, fun ds cc rr h hc => ?_⟩
  unfold s56U at h
  split at h
  · rename_i m n x y z cl cur n2 x2 y2 z2 cl2 cur2
    simp only [Option.some.injEq, Prod.mk.injEq] at h
    obtain ⟨rfl, rfl⟩ := h
    exact autoW_ok cfgU3_ok Try.func56 (by kernel_rfl) lp56u_ok (walk56u m n x y z cl cur n2 cur2 x2 y2 z2 cl2) (by
      unfold ptC at hc
      simp only [Bool.and_eq_true, Nat.ble_eq] at hc
      obtain ⟨⟨⟨⟨h1, h2⟩, h3, h4⟩, h5⟩, h6⟩ := hc
      have hN := cnt_le n2 cl2
      rw [ble_of h1, h2, ble_of h3, h5, h6, ble_of (show n2 ≤ 1073741824 by omega), ble_of (show cnt n2 cl2 ≤ 1000 by omega), ble_of (show n2 ≤ 4611686018427387000 by omega), Nat.beq_refl, decide_eq_true rfl]; rfl)
  · cases h
noncomputable def tqF (f : (Nat → Nat) → Nat) (n2 : Nat) (x2 y2 z2 : Nat → Nat) (cl2 : Bool) (pp : Nat) : Nat := sumW (fun j => f (pc (sg n2 x2 y2 z2) pp j)) (pp * cnt n2 cl2)
noncomputable def tqA (m : Nat) (n : Nat → Nat) (x y z : Nat → Nat → Nat) (cur : Nat → Nat) (n2 cur2 : Nat) (x2 y2 z2 : Nat → Nat) (p q r pp : Nat) : Bool := !bif bif bif !areW m n x y z cur then true else !okW n2 cur2 x2 y2 z2 then true else !vfin p q r then true else !inI (Int.ofNat pp) (Int.ofNat 1) (Int.ofNat 8)
noncomputable def tqC (m : Nat) (n : Nat → Nat) (x y z : Nat → Nat → Nat) (cl : Nat → Bool) (cur : Nat → Nat) (n2 cur2 : Nat) (x2 y2 z2 : Nat → Nat) (cl2 : Bool) (p q r pp : Nat) : Bool := m.ble 1048576 && allUpTo (shortW n) m && (Nat.ble 1 n2 && n2.ble 1000 && pp.ble 32) && tqA m n x y z cur n2 cur2 x2 y2 z2 p q r pp && allUpTo (onOk m n x y z cl cur (pc (sg n2 x2 y2 z2) pp)) (pp * cnt n2 cl2) && vfin (tqF (tqX m n x y z cl cur p q r cur2) n2 x2 y2 z2 cl2 pp) (tqF (tqY m n x y z cl cur p q r cur2) n2 x2 y2 z2 cl2 pp) (tqF (tqZ m n x y z cl cur p q r cur2) n2 x2 y2 z2 cl2 pp)
theorem walk57u (m : Nat) (n : Nat → Nat) (x y z : Nat → Nat → Nat) (cl : Nat → Bool) (cur : Nat → Nat) (n2 cur2 : Nat) (x2 y2 z2 : Nat → Nat) (cl2 : Bool) (p q r pp : Nat) : autoW cfgU1 (fun _ => true) 0 (look lp57u) [false] Try.f57 [.ro 3 m (.wires n x y z cl cur), .agg [.ro 3 n2 (.vecs .f32 x2 y2 z2), .bool cl2, .flt .f32 cur2], .agg [.flt .f32 p, .flt .f32 q, .flt .f32 r], .int .i64 (.ofNat pp)] =
    some (m.ble 1048576 && allUpTo (shortW n) m && ((n2.ble 4611686018427387000 || !(!areW m n x y z cur) == false) && (tqA m n x y z cur n2 cur2 x2 y2 z2 p q r pp && (Nat.ble 1 n2 && n2.ble 1000 && pp.ble 32 && ((pp * cnt n2 cl2).beq (pp * cnt n2 cl2) && decide (Int.ofNat (pp * cnt n2 cl2) = Int.ofNat (pp * cnt n2 cl2)) && (pp * cnt n2 cl2).ble 100000 && allUpTo (onOk m n x y z cl cur (pc (sg n2 x2 y2 z2) pp)) (pp * cnt n2 cl2) && (vfin (tqF (tqX m n x y z cl cur p q r cur2) n2 x2 y2 z2 cl2 pp) (tqF (tqY m n x y z cl cur p q r cur2) n2 x2 y2 z2 cl2 pp) (tqF (tqZ m n x y z cl cur p q r cur2) n2 x2 y2 z2 cl2 pp) && true))))), .tup [.agg [.flt .f32 (tqF (tqX m n x y z cl cur p q r cur2) n2 x2 y2 z2 cl2 pp), .flt .f32 (tqF (tqY m n x y z cl cur p q r cur2) n2 x2 y2 z2 cl2 pp), .flt .f32 (tqF (tqZ m n x y z cl cur p q r cur2) n2 x2 y2 z2 cl2 pp)], .bool true]) := by kernel_rfl
noncomputable def s57U : List A → Option (Bool × A)
  | [.ro 3 m (.wires n x y z cl cur), .agg [.ro 3 n2 (.vecs .f32 x2 y2 z2), .bool cl2, .flt .f32 cur2], .agg [.flt .f32 p, .flt .f32 q, .flt .f32 r], .int .i64 (.ofNat pp)] => some (tqC m n x y z cl cur n2 cur2 x2 y2 z2 cl2 p q r pp, .tup [.agg [.flt .f32 (tqF (tqX m n x y z cl cur p q r cur2) n2 x2 y2 z2 cl2 pp), .flt .f32 (tqF (tqY m n x y z cl cur p q r cur2) n2 x2 y2 z2 cl2 pp), .flt .f32 (tqF (tqZ m n x y z cl cur p q r cur2) n2 x2 y2 z2 cl2 pp)], .bool true])
  | _ => none
theorem s57U_at : EnvAt Try.prog 57 s57U := by
  refine ⟨⟨Try.f57, Try.func57, by kernel_rfl, by kernel_rfl⟩, fun ds cc rr h hc => ?_⟩
  unfold s57U at h
  split at h
  · rename_i m n x y z cl cur n2 x2 y2 z2 cl2 cur2 p q r pp
    simp only [Option.some.injEq, Prod.mk.injEq] at h
    obtain ⟨rfl, rfl⟩ := h
    exact autoW_ok cfgU1_ok Try.func57 (by kernel_rfl) lp57u_ok (walk57u m n x y z cl cur n2 cur2 x2 y2 z2 cl2 p q r pp) (by
      unfold tqC at hc
      simp only [Bool.and_eq_true, Nat.ble_eq] at hc
      obtain ⟨⟨⟨⟨⟨h1, h2⟩, ⟨h3, h4⟩, h5⟩, h6⟩, h7⟩, h8⟩ := hc
      have hN : pp * cnt n2 cl2 ≤ 100000 := pcnt_le h4 h5
      rw [ble_of h1, h2, ble_of h3, ble_of h4, ble_of h5, h6, h7, h8, ble_of hN, ble_of (show n2 ≤ 4611686018427387000 by omega), Nat.beq_refl, decide_eq_true rfl]; rfl)
  · cases h
noncomputable def envU6 : List (Nat × (List A → Option (Bool × A))) := (56, s56U) :: (57, s57U) :: envU3
theorem envU6_ok : EnvOK Try.prog (look envU6) := env_cons s56U_at (env_cons s57U_at envU3_ok)
noncomputable def cfgU6 : Cfg := mkCfg tab [] xts (look envU6)
theorem cfgU6_ok : CfgOK Try.prog cfgU6 := cfg_ok tab_eq (no_fts _) xts_ok envU6_ok mixed
end Go.Fw.E1

/-
  The couplings of two wires: a contract by success; contracts for counts that are told as integers.
-/
namespace Go.Fw.E1
open Go.Proofs
end Go.Fw.E1

/-
  Shares, energies, fluxes, sums of pairs: contracts for two wires.
-/
namespace Go.Fw.E1
open Go.Proofs
noncomputable def psC8 (n n2 : Nat) : Bool := Nat.ble n 1048576 && Nat.ble n2 1048576
end Go.Fw.E1

/-
  Forces along a way, forces between wires: contracts by success.
-/
namespace Go.Fw.E1
open Go.Proofs
noncomputable def stX (p s : Nat) (x : Nat → Nat) : Nat → Nat := adX (fop .mul .f32 p s) x
noncomputable def algW (n cur : Nat) (x y z : Nat → Nat) (cl : Bool) (n2 cur2 : Nat) (x2 y2 z2 : Nat → Nat) (cl2 : Bool) (p q r s th pp : Nat) : Nat := fop .mul .f32 (fop .mul .f32 cur cur2) (fop .quo .f32 (fop .sub .f32 (psW n (stX p s x) (stX q s y) (stX r s z) cl n2 x2 y2 z2 cl2 th pp) (psW n (stX p (fneg .f32 s) x) (stX q (fneg .f32 s) y) (stX r (fneg .f32 s) z) cl n2 x2 y2 z2 cl2 th pp)) (fop .mul .f32 (can .f32 1073741824) s))
noncomputable def algA (n2 cur2 : Nat) (x2 y2 z2 : Nat → Nat) (s th pp : Nat) : Bool := !bif bif bif !okW n2 cur2 x2 y2 z2 then true else !above s then true else !least th then true else !inI (Int.ofNat pp) (Int.ofNat 1) (Int.ofNat 8)
noncomputable def algC (n cur : Nat) (x y z : Nat → Nat) (cl : Bool) (n2 cur2 : Nat) (x2 y2 z2 : Nat → Nat) (cl2 : Bool) (p q r s th pp : Nat) : Bool := (Nat.ble 1 n && n.ble 1000 && Nat.ble 1 n2 && n2.ble 1000 && pp.ble 32) && algA n2 cur2 x2 y2 z2 s th pp && movOk n cur (fop .mul .f32 p s) (fop .mul .f32 q s) (fop .mul .f32 r s) x y z && movOk n cur (fop .mul .f32 p (fneg .f32 s)) (fop .mul .f32 q (fneg .f32 s)) (fop .mul .f32 r (fneg .f32 s)) x y z && fin (algW n cur x y z cl n2 cur2 x2 y2 z2 cl2 p q r s th pp)
theorem walk54u (n cur : Nat) (x y z : Nat → Nat) (cl : Bool) (n2 cur2 : Nat) (x2 y2 z2 : Nat → Nat) (cl2 : Bool) (p q r s th pp : Nat) : autoW cfgU6 (fun _ => true) 0 (fun _ => none) [false, false] Try.f54 [.agg [.ro 3 n (.vecs .f32 x y z), .bool cl, .flt .f32 cur], .agg [.ro 3 n2 (.vecs .f32 x2 y2 z2), .bool cl2, .flt .f32 cur2], .agg [.flt .f32 p, .flt .f32 q, .flt .f32 r], .flt .f32 s, .flt .f32 th, .int .i64 (.ofNat pp)] =
    some (n2.ble 4611686018427387000 && (algA n2 cur2 x2 y2 z2 s th pp && (movOk n cur (fop .mul .f32 p s) (fop .mul .f32 q s) (fop .mul .f32 r s) x y z && true && (movOk n cur (fop .mul .f32 p (fneg .f32 s)) (fop .mul .f32 q (fneg .f32 s)) (fop .mul .f32 r (fneg .f32 s)) x y z && true && (!false && (Nat.ble 1 n && n.ble 1000 && Nat.ble 1 n2 && n2.ble 1000 && pp.ble 32 && true && (Nat.ble 1 n && n.ble 1000 && Nat.ble 1 n2 && n2.ble 1000 && pp.ble 32 && (fin (algW n cur x y z cl n2 cur2 x2 y2 z2 cl2 p q r s th pp) && true))))))), .tup [.flt .f32 (algW n cur x y z cl n2 cur2 x2 y2 z2 cl2 p q r s th pp), .bool true]) := by kernel_rfl
noncomputable def s54U : List A → Option (Bool × A)
  | [.agg [.ro 3 n (.vecs .f32 x y z), .bool cl, .flt .f32 cur], .agg [.ro 3 n2 (.vecs .f32 x2 y2 z2), .bool cl2, .flt .f32 cur2], .agg [.flt .f32 p, .flt .f32 q, .flt .f32 r], .flt .f32 s, .flt .f32 th, .int .i64 (.ofNat pp)] => some (algC n cur x y z cl n2 cur2 x2 y2 z2 cl2 p q r s th pp, .tup [.flt .f32 (algW n cur x y z cl n2 cur2 x2 y2 z2 cl2 p q r s th pp), .bool true])
  | _ => none
theorem s54U_at : EnvAt Try.prog 54 s54U := by
  refine ⟨⟨Try.f54, Try.func54, by kernel_rfl, by kernel_rfl⟩, fun ds cc rr h hc => ?_⟩
  unfold s54U at h
  split at h
  · rename_i n x y z cl cur n2 x2 y2 z2 cl2 cur2 p q r s th pp
    simp only [Option.some.injEq, Prod.mk.injEq] at h
    obtain ⟨rfl, rfl⟩ := h
    exact autoW_ok cfgU6_ok Try.func54 (by kernel_rfl) (lp_none _) (walk54u n cur x y z cl n2 cur2 x2 y2 z2 cl2 p q r s th pp) (by
      unfold algC at hc
      simp only [Bool.and_eq_true, Nat.ble_eq] at hc
      obtain ⟨⟨⟨⟨⟨⟨⟨⟨h1, h2⟩, h3⟩, h4⟩, h5⟩, h6⟩, h7⟩, h8⟩, h9⟩ := hc
      rw [ble_of h1, ble_of h2, ble_of h3, ble_of h4, ble_of h5, h6, h7, h8, h9, ble_of (show n2 ≤ 4611686018427387000 by omega)]; rfl)
  · cases h
noncomputable def s53U : List A → Option (Bool × A)
  | [.agg [.ro 3 n (.vecs .f32 x y z), .bool cl, .flt .f32 cur], .agg [.ro 3 n2 (.vecs .f32 x2 y2 z2), .bool cl2, .flt .f32 cur2], .int .i64 (.ofNat pp)] => some (psC8 n n2 && fbOk n cur x y z cl n2 cur2 x2 y2 z2 cl2 pp, .tup [.agg [.flt .f32 (fwXb n cur x y z cl n2 cur2 x2 y2 z2 cl2 pp), .flt .f32 (fwYb n cur x y z cl n2 cur2 x2 y2 z2 cl2 pp), .flt .f32 (fwZb n cur x y z cl n2 cur2 x2 y2 z2 cl2 pp)], .bool true])
  | _ => none
theorem s53U_at : EnvAt Try.prog 53 s53U := by
  refine ⟨s48_at.1, fun ds c r h hc => ?_⟩
  unfold s53U at h
  split at h
  · rename_i n x y z cl cur n2 x2 y2 z2 cl2 cur2 pp
    simp only [Option.some.injEq, Prod.mk.injEq] at h
    obtain ⟨rfl, rfl⟩ := h
    rw [Bool.and_eq_true] at hc
    obtain ⟨h1, h2⟩ := hc
    have key := s48a_at.2 [.agg [.ro 3 n (.vecs .f32 x y z), .bool cl, .flt .f32 cur], .agg [.ro 3 n2 (.vecs .f32 x2 y2 z2), .bool cl2, .flt .f32 cur2], .int .i64 (.ofNat pp)] _ _ rfl h1
    rw [h2] at key
    exact key
  · cases h
noncomputable def envU7 : List (Nat × (List A → Option (Bool × A))) := (54, s54U) :: (53, s53U) :: envU6
theorem envU7_ok : EnvOK Try.prog (look envU7) := env_cons s54U_at (env_cons s53U_at envU6_ok)
noncomputable def cfgU7 : Cfg := mkCfg tab [] xts (look envU7)
theorem cfgU7_ok : CfgOK Try.prog cfgU7 := cfg_ok tab_eq (no_fts _) xts_ok envU7_ok mixed
end Go.Fw.E1

/-
  The law of forces: the loop that adds up.
-/
namespace Go.Fw.E1
open Go.Proofs
noncomputable def I9u (lc : Nat) (g : Nat → A) (al N sz : Nat) (X Y Z : Nat → Nat) (k : Nat) : List A := [.ro 1 lc (.gen g), .bool false, .ptr 320 0, .ptr 448 0, .ptr 592 0, .flt .f32 al, .ptr 896 0, .ro 3 N (.vecs .f32 X Y Z), .flt .f64 sz, .ptr 1936 0, .int .i64 (Int.ofNat k)]
noncomputable def J9u (a b c d e f p q r s t u x y z : Nat) : List O := [.var [.flt .f32 a, .flt .f32 b, .flt .f32 c], .var [.flt .f32 d, .flt .f32 e, .flt .f32 f], .var [.flt .f32 p, .flt .f32 q, .flt .f32 r], .var [.flt .f32 s, .flt .f32 t, .flt .f32 u], .var [.flt .f32 x, .flt .f32 y, .flt .f32 z]]
theorem round9u (lc : Nat) (gg : Nat → A) (al N sz : Nat) (X Y Z : Nat → Nat) (k a b c d e f p q r s t u x y z : Nat) (L : XK → List A → List (Option O) → Prop) :
    ((exec cfgU7 (fun _ => false) (fun _ => none) 0 1000 (loopOf Try.f9 0) (litSt Try.f9.ntmps 1984 [1, 4, 8, 9, 11, 13, 15, 17, 23, 24, 25] [320, 448, 592, 896, 1936] (I9u lc gg al N sz X Y Z k) (J9u a b c d e f p q r s t u x y z))).rt [1, 4, 8, 9, 11, 13, 15, 17, 23, 24, 25] [320, 448, 592, 896, 1936]).Ok L =
    bif decide (Int.ofNat k < Int.ofNat N) then
      bif (decide (0 ≤ Int.ofNat k) && decide (Int.ofNat k < Int.ofNat N) && true) then
        L (XK.normal) [.ro 1 lc (.gen gg), .bool false, .ptr 320 0, .ptr 448 0, .ptr 592 0, .flt .f32 al, .ptr 896 0, .ro 3 N (.vecs .f32 X Y Z), .flt .f64 sz, .ptr 1936 0, .int .i64 (IntKind.i64.wrap (Int.ofNat k + Int.ofNat 1))] ((J9u a b c d e f p q r s t u (fop .add .f32 x (X k)) (fop .add .f32 y (Y k)) (fop .add .f32 z (Z k))).map some)
      else
        False
    else
      L (XK.exit 0) (I9u lc gg al N sz X Y Z k) ((J9u a b c d e f p q r s t u x y z).map some) := by kernel_rfl
noncomputable def F9u : List A → List (Option O) → Option R3
  | [.ro 1 lc (.gen gg), .bool false, .ptr 320 0, .ptr 448 0, .ptr 592 0, .flt .f32 al, .ptr 896 0, .ro 3 N (.vecs .f32 X Y Z), .flt .f64 sz, .ptr 1936 0, .int .i64 0], [some (.var [.flt .f32 a, .flt .f32 b, .flt .f32 c]), some (.var [.flt .f32 d, .flt .f32 e, .flt .f32 f]), some (.var [.flt .f32 p, .flt .f32 q, .flt .f32 r]), some (.var [.flt .f32 s, .flt .f32 t, .flt .f32 u]), some (.var [.flt .f32 0, .flt .f32 0, .flt .f32 0])] =>
    some (.ite (Nat.ble N 1000) (.leaf .normal (I9u lc gg al N sz X Y Z N) (J9u a b c d e f p q r s t u (sumW X N) (sumW Y N) (sumW Z N))) .fail)
  | _, _ => none
theorem loop9u : CodeOK Try.prog (fun _ σ => sumAt Try.f9.ntmps 1984 [1, 4, 8, 9, 11, 13, 15, 17, 23, 24, 25] [320, 448, 592, 896, 1936] F9u σ) (.block 0 (.loop (loopOf Try.f9 0))) := by
  refine block_ok (own := fun _ => false) (lp := (fun _ => none)) (un := 0) (fuel := 1000) cfgU7_ok (lp_none _) fun az os R hF hok => ?_
  unfold F9u at hF
  split at hF
  · rename_i lc gg al N X Y Z sz a b c d e f p q r s t u
    injection hF with hF
    subst hF
    have hg := hok.guard
    have hg' := hg
    simp only [Nat.ble_eq] at hg'
    refine for_fact (ids := [320, 448, 592, 896, 1936]) (fun _ => true) N (I9u lc gg al N sz X Y Z) (fun k => J9u a b c d e f p q r s t u (sumW X k) (sumW Y k) (sumW Z k)) _ (.ret) (I9u lc gg al N sz X Y Z) (I9u lc gg al N sz X Y Z) (I9u lc gg al N sz X Y Z N) (J9u a b c d e f p q r s t u (sumW X N) (sumW Y N) (sumW Z N)) rfl (by exact ⟨rfl, rfl, rfl, rfl, rfl, trivial⟩) (fun _ => rfl) (fun _ => rfl) (fun _ => ALe.self _) (fun _ => rfl) (ALe.self _) (OSims.self _) rfl (fun h => by cases h) (fun k hk L h1 h2 h3 => ?_) fun L hL => ?_
    · rw [round9u]
      by_cases hkm : k < N
      · refine condT (lt_dec hkm) (condT (show (decide (0 ≤ Int.ofNat k) && decide (Int.ofNat k < Int.ofNat N) && true) = true by rw [decide_eq_true (show 0 ≤ Int.ofNat k from Int.natCast_nonneg k), lt_dec hkm]; rfl) ?_)
        rw [wrap_succ (by omega)]
        exact h1 hkm rfl _ ⟨rfl, rfl, rfl, rfl, rfl, trivial⟩
      · refine condE (ge_dec (by omega)) ?_
        obtain rfl : k = N := by omega
        exact h3 rfl
    · exact ⟨fun _ => hL.1 hg, fun N _ h => by cases h⟩
  · cases hF
noncomputable def lp9u : List (Nat × (St → T)) := [(0, sumAt Try.f9.ntmps 1984 [1, 4, 8, 9, 11, 13, 15, 17, 23, 24, 25] [320, 448, 592, 896, 1936] F9u)]
theorem lp9u_ok : LpOK Try.prog (look lp9u) (bodyOf Try.f9) := lp_loops (by kernel_rfl) (by kernel_rfl) fun p hp => by
  simp only [lp9u, List.mem_cons, List.not_mem_nil, or_false] at hp
  rcases hp with rfl
  · exact loop9u
end Go.Fw.E1

/-
  The law of couplings: its walk.
-/
namespace Go.Fw.E1
open Go.Proofs
noncomputable def Q4 : Nat := can .f32 1048576000
def l1N (a : Nat) (i : Nat) : Nat := [a].getD i 0
def l1F (a : Nat → Nat) (i : Nat) : Nat → Nat := [a].getD i fun _ => 0
def l1B (a : Bool) (i : Nat) : Bool := [a].getD i false
end Go.Fw.E1

/-
  The law of forces: its walk.
-/
namespace Go.Fw.E1
open Go.Proofs
noncomputable def ONE : Nat := can .f32 1065353216
noncomputable def TWO : Nat := can .f32 1073741824
noncomputable def STP : Nat := can .f32 1031798784
noncomputable def V7 : Nat := can .f32 1088421888
noncomputable def h9 (v : Int) : Nat := fop .add .f32 (can .f32 1077936128) (fofInt .f32 v)
noncomputable def sz9 (a b : Nat) : Nat := fop .add .f64 (can .f64 4607182418800017408) (fop .mul .f64 (fop .mul .f64 (can .f64 4616189618054758400) (fcvt .f32 .f64 a)) (fcvt .f32 .f64 b))
noncomputable def g9A (N1 U1 : Nat) (X1 Y1 Z1 : Nat → Nat) (L1 : Bool) (N2 U2 : Nat) (X3 Y3 Z3 : Nat → Nat) (L2 : Bool) (VX VY VZ : Nat) : Bool := forder .f64 (fcvt .f32 .f64 (long (fop .sub .f32 (fwXb N1 U1 X1 Y1 Z1 L1 N2 U2 X3 Y3 Z3 L2 2) (fop .mul .f32 (fwXb N2 U2 X3 Y3 Z3 L2 N1 U1 X1 Y1 Z1 L1 2) (can .f32 3212836864))) (fop .sub .f32 (fwYb N1 U1 X1 Y1 Z1 L1 N2 U2 X3 Y3 Z3 L2 2) (fop .mul .f32 (fwYb N2 U2 X3 Y3 Z3 L2 N1 U1 X1 Y1 Z1 L1 2) (can .f32 3212836864))) (fop .sub .f32 (fwZb N1 U1 X1 Y1 Z1 L1 N2 U2 X3 Y3 Z3 L2 2) (fop .mul .f32 (fwZb N2 U2 X3 Y3 Z3 L2 N1 U1 X1 Y1 Z1 L1 2) (can .f32 3212836864))))) (fop .mul .f64 (can .f64 4562254508917369340) (sz9 (lenW N1 X1 Y1 Z1 L1) (lenW N2 X3 Y3 Z3 L2))) == some .gt
noncomputable def g9B (N1 U1 : Nat) (X1 Y1 Z1 : Nat → Nat) (L1 : Bool) (N2 U2 : Nat) (X3 Y3 Z3 : Nat → Nat) (L2 : Bool) (VX VY VZ : Nat) : Bool := forder .f64 (gap8 (fcvt .f32 .f64 (algW N1 U1 X1 Y1 Z1 L1 N2 U2 X3 Y3 Z3 L2 VX VY VZ STP (can .f32 0) 2)) (fcvt .f32 .f64 (inn (fwXb N1 U1 X1 Y1 Z1 L1 N2 U2 X3 Y3 Z3 L2 2) (fwYb N1 U1 X1 Y1 Z1 L1 N2 U2 X3 Y3 Z3 L2 2) (fwZb N1 U1 X1 Y1 Z1 L1 N2 U2 X3 Y3 Z3 L2 2) VX VY VZ))) (fop .mul .f64 (can .f64 4566758108544739836) (sz9 (lenW N1 X1 Y1 Z1 L1) (lenW N2 X3 Y3 Z3 L2))) == some .gt
noncomputable def g9C (N1 U1 : Nat) (X1 Y1 Z1 : Nat → Nat) (L1 : Bool) (N2 U2 : Nat) (X3 Y3 Z3 : Nat → Nat) (L2 : Bool) (VX VY VZ : Nat) : Bool := forder .f64 (fcvt .f32 .f64 (long (fop .sub .f32 (sumW (fpX 1 (l1N N2) (l1F X3) (l1F Y3) (l1F Z3) (l1B L2) (l1N U2) U1 (sg N1 X1 Y1 Z1)) (cnt N1 L1)) (onFX 1 (l1N N2) (l1F X3) (l1F Y3) (l1F Z3) (l1B L2) (l1N U2) N1 U1 X1 Y1 Z1 L1 1)) (fop .sub .f32 (sumW (fpY 1 (l1N N2) (l1F X3) (l1F Y3) (l1F Z3) (l1B L2) (l1N U2) U1 (sg N1 X1 Y1 Z1)) (cnt N1 L1)) (onFY 1 (l1N N2) (l1F X3) (l1F Y3) (l1F Z3) (l1B L2) (l1N U2) N1 U1 X1 Y1 Z1 L1 1)) (fop .sub .f32 (sumW (fpZ 1 (l1N N2) (l1F X3) (l1F Y3) (l1F Z3) (l1B L2) (l1N U2) U1 (sg N1 X1 Y1 Z1)) (cnt N1 L1)) (onFZ 1 (l1N N2) (l1F X3) (l1F Y3) (l1F Z3) (l1B L2) (l1N U2) N1 U1 X1 Y1 Z1 L1 1)))) (fop .mul .f64 (can .f64 4562254508917369340) (sz9 (lenW N1 X1 Y1 Z1 L1) (lenW N2 X3 Y3 Z3 L2))) == some .gt
noncomputable def c9 (N1 U1 : Nat) (X1 Y1 Z1 : Nat → Nat) (L1 : Bool) (N2 U2 : Nat) (X3 Y3 Z3 : Nat → Nat) (L2 : Bool) (VX VY VZ : Nat) (rest : Bool) : Bool := ((psC8 N1 N2 && fbOk N1 U1 X1 Y1 Z1 L1 N2 U2 X3 Y3 Z3 L2 2) && ((psC8 N2 N1 && fbOk N2 U2 X3 Y3 Z3 L2 N1 U1 X1 Y1 Z1 L1 2) && ((algC N1 U1 X1 Y1 Z1 L1 N2 U2 X3 Y3 Z3 L2 VX VY VZ STP (can .f32 0) 2) && ((onC 1 (l1N N2) (l1F X3) (l1F Y3) (l1F Z3) (l1B L2) (l1N U2) N1 U1 X1 Y1 Z1 L1 1) && ((ptC 1 (l1N N2) (l1F X3) (l1F Y3) (l1F Z3) (l1B L2) (l1N U2) N1 U1 X1 Y1 Z1 L1) && ((lenOk N1 U1 X1 Y1 Z1 L1) && ((lenOk N2 U2 X3 Y3 Z3 L2) && ((!false) && (((cnt N1 L1).ble 1000) && ((!bif bif g9A N1 U1 X1 Y1 Z1 L1 N2 U2 X3 Y3 Z3 L2 VX VY VZ then true else g9B N1 U1 X1 Y1 Z1 L1 N2 U2 X3 Y3 Z3 L2 VX VY VZ then true else g9C N1 U1 X1 Y1 Z1 L1 N2 U2 X3 Y3 Z3 L2 VX VY VZ) && rest))))))))))
noncomputable def d9 (H : Nat) : Bool := (sqOk ONE H ONE && (onC 1 (l1N 4) (l1F (sqX ONE H)) (l1F (sqY ONE H)) (l1F (sqZ ONE H)) (l1B true) (l1N ONE) 4 TWO (sqX ONE (can .f32 0)) (sqY ONE (can .f32 0)) (sqZ ONE (can .f32 0)) true 8 && (psC8 4 4 && fbOk 4 TWO (sqX ONE (can .f32 0)) (sqY ONE (can .f32 0)) (sqZ ONE (can .f32 0)) true 4 ONE (sqX ONE H) (sqY ONE H) (sqZ ONE H) true 8 && (tqC 1 (l1N 4) (l1F (sqX ONE H)) (l1F (sqY ONE H)) (l1F (sqZ ONE H)) (l1B true) (l1N ONE) 4 TWO (sqX ONE (can .f32 0)) (sqY ONE (can .f32 0)) (sqZ ONE (can .f32 0)) true 0 0 0 4 && true))))
noncomputable def v9 (H : Nat) : Bool := bif bif forder .f32 (onFZ 1 (l1N 4) (l1F (sqX ONE H)) (l1F (sqY ONE H)) (l1F (sqZ ONE H)) (l1B true) (l1N ONE) 4 TWO (sqX ONE (can .f32 0)) (sqY ONE (can .f32 0)) (sqZ ONE (can .f32 0)) true 8) (can .f32 0) == some .gt then forder .f64 (fcvt .f32 .f64 (long (fop .sub .f32 (onFX 1 (l1N 4) (l1F (sqX ONE H)) (l1F (sqY ONE H)) (l1F (sqZ ONE H)) (l1B true) (l1N ONE) 4 TWO (sqX ONE (can .f32 0)) (sqY ONE (can .f32 0)) (sqZ ONE (can .f32 0)) true 8) (fwXb 4 TWO (sqX ONE (can .f32 0)) (sqY ONE (can .f32 0)) (sqZ ONE (can .f32 0)) true 4 ONE (sqX ONE H) (sqY ONE H) (sqZ ONE H) true 8)) (fop .sub .f32 (onFY 1 (l1N 4) (l1F (sqX ONE H)) (l1F (sqY ONE H)) (l1F (sqZ ONE H)) (l1B true) (l1N ONE) 4 TWO (sqX ONE (can .f32 0)) (sqY ONE (can .f32 0)) (sqZ ONE (can .f32 0)) true 8) (fwYb 4 TWO (sqX ONE (can .f32 0)) (sqY ONE (can .f32 0)) (sqZ ONE (can .f32 0)) true 4 ONE (sqX ONE H) (sqY ONE H) (sqZ ONE H) true 8)) (fop .sub .f32 (onFZ 1 (l1N 4) (l1F (sqX ONE H)) (l1F (sqY ONE H)) (l1F (sqZ ONE H)) (l1B true) (l1N ONE) 4 TWO (sqX ONE (can .f32 0)) (sqY ONE (can .f32 0)) (sqZ ONE (can .f32 0)) true 8) (fwZb 4 TWO (sqX ONE (can .f32 0)) (sqY ONE (can .f32 0)) (sqZ ONE (can .f32 0)) true 4 ONE (sqX ONE H) (sqY ONE H) (sqZ ONE H) true 8)))) (fop .mul .f64 (can .f64 4587366580439587226) (fcvt .f32 .f64 (long (onFX 1 (l1N 4) (l1F (sqX ONE H)) (l1F (sqY ONE H)) (l1F (sqZ ONE H)) (l1B true) (l1N ONE) 4 TWO (sqX ONE (can .f32 0)) (sqY ONE (can .f32 0)) (sqZ ONE (can .f32 0)) true 8) (onFY 1 (l1N 4) (l1F (sqX ONE H)) (l1F (sqY ONE H)) (l1F (sqZ ONE H)) (l1B true) (l1N ONE) 4 TWO (sqX ONE (can .f32 0)) (sqY ONE (can .f32 0)) (sqZ ONE (can .f32 0)) true 8) (onFZ 1 (l1N 4) (l1F (sqX ONE H)) (l1F (sqY ONE H)) (l1F (sqZ ONE H)) (l1B true) (l1N ONE) 4 TWO (sqX ONE (can .f32 0)) (sqY ONE (can .f32 0)) (sqZ ONE (can .f32 0)) true 8)))) == some .lt else false then forder .f64 (fcvt .f32 .f64 (long (tqF (tqX 1 (l1N 4) (l1F (sqX ONE H)) (l1F (sqY ONE H)) (l1F (sqZ ONE H)) (l1B true) (l1N ONE) 0 0 0 TWO) 4 (sqX ONE (can .f32 0)) (sqY ONE (can .f32 0)) (sqZ ONE (can .f32 0)) true 4) (tqF (tqY 1 (l1N 4) (l1F (sqX ONE H)) (l1F (sqY ONE H)) (l1F (sqZ ONE H)) (l1B true) (l1N ONE) 0 0 0 TWO) 4 (sqX ONE (can .f32 0)) (sqY ONE (can .f32 0)) (sqZ ONE (can .f32 0)) true 4) (tqF (tqZ 1 (l1N 4) (l1F (sqX ONE H)) (l1F (sqY ONE H)) (l1F (sqZ ONE H)) (l1B true) (l1N ONE) 0 0 0 TWO) 4 (sqX ONE (can .f32 0)) (sqY ONE (can .f32 0)) (sqZ ONE (can .f32 0)) true 4))) (can .f64 4576918229304087675) == some .lt else false
theorem walk9 (la lc : Nat) (b c : Nat → Nat) : autoW cfgU7 (fun _ => false) 0 (look lp9u) [false, false, false] Try.f9 [.ro 1 la (.gen fun i => .int .u8 (Int.ofNat (b i))), .ro 1 lc (.gen fun i => .int .u8 (Int.ofNat (c i)))] =
    some ((!bif decide (Int.ofNat la > 48) then true else decide (Int.ofNat lc > 48)) && (allUpTo (isU8 fun i => A.int .u8 (Int.ofNat (b i))) la && (allUpTo (isU8 fun i => A.int .u8 (Int.ofNat (c i))) lc && (movOk (wn lc c) (wcu lc c) V7 0 0 (wpx lc c) (wpy lc c) (wpz lc c) && (allUpTo (isU8 fun i => A.int .u8 (Int.ofNat (c i))) lc && c9 (wn la b) (wcu la b) (wpx la b) (wpy la b) (wpz la b) (wcl la b) (wn lc c) (wcu lc c) (adX V7 (wpx lc c)) (adX 0 (wpy lc c)) (adX 0 (wpz lc c)) (wcl lc c) (r8c lc c 3 0) (r8c lc c 3 1) (r8c lc c 3 2) (sqOk ONE (can .f32 0) TWO && (allUpTo (isU8 fun i => A.int .u8 (Int.ofNat (c i))) lc && true && true && d9 (h9 (r8a lc c 6 4)))))))), .bool (v9 (h9 (r8a lc c 6 4)))) := by kernel_rfl
theorem long9 (la lc : Nat) (b c : Nat → Nat) : autoW cfgU7 (fun _ => false) 0 (look lp9u) [true] Try.f9 [.ro 1 la (.gen fun i => .int .u8 (Int.ofNat (b i))), .ro 1 lc (.gen fun i => .int .u8 (Int.ofNat (c i)))] = some ((bif decide (Int.ofNat la > 48) then true else decide (Int.ofNat lc > 48)) && true, .bool true) := by kernel_rfl
end Go.Fw.E1

/-
  Wires fed with another current: contracts.
-/
namespace Go.Fw.E1
open Go.Proofs
end Go.Fw.E1

/-
  Rows of bytes; a current that a byte chooses.
-/
namespace Go.Fw.E1
noncomputable def gL (b : Nat → Nat) (i : Nat) : A := .int .u8 (Int.ofNat (b i))
end Go.Fw.E1

/-
  The law of fields: its walk.
-/
namespace Go.Fw.E1
open Go.Proofs
noncomputable def K2 : Nat := can .f32 1073741824
end Go.Fw.E1

/-
  The law of wires: its walk.
-/
namespace Go.Fw.E1
open Go.Proofs
end Go.Fw.E1

/-
  Fields of rings as the kernel evaluates them.
-/
namespace Go.Fw.E1
open Go.Proofs
theorem rep0 : Rep .f32 0 .zero := rep_of .f32 0
theorem can0 : can .f32 0 = 0 := by decide +kernel
theorem repc0 : Rep .f32 (can .f32 0) .zero := by rw [can0]; exact rep0
theorem rep_fin {x : Nat} {a : V} (hx : Rep .f32 x a) (h : vgood a = true) : fin x = true := by
  have hv := rep_val hx h
  have h2 : Fin .f32 (fop .sub .f32 x x) 0 := by
    have := Fin.sub hv hv
    rw [Int.sub_self, rI_0] at this
    exact this (limK_pos _)
  unfold fin
  rw [Fin.order h2 (show Fin .f32 (can .f32 0) 0 from repc0)]
  rfl
noncomputable def vup (v : V) : Bool := V.rec false (fun b m _ => Bool.rec (Nat.ble 1 m) false b) false v
theorem rep_up {x : Nat} {a : V} (hx : Rep .f32 x a) (h : vup a = true) : (forder .f32 x (can .f32 0) == some .gt) = true := by
  cases a with
  | zero => cases h
  | bad => cases h
  | num b m s =>
    cases b
    · have hm : 1 ≤ m := Nat.le_of_ble_eq_true h
      have hv : Fin .f32 x ((m * 2 ^ s : Nat) : Int) := hx
      rw [Fin.order hv (show Fin .f32 (can .f32 0) 0 from repc0)]
      have : 0 < m * 2 ^ s := Nat.mul_pos (by omega) (Nat.two_pow_pos _)
      show (some (compareOfLessAndEq _ _) == some Ordering.gt) = true
      unfold compareOfLessAndEq
      rw [if_neg (by omega), if_neg (by omega)]
      rfl
    · cases h
noncomputable def vgd (ok : Bool) (v : V) : V := Bool.rec V.bad v ok
noncomputable def band (a b : Bool) : Bool := Bool.rec false b a
theorem band_eq (a b : Bool) : band a b = (a && b) := by cases a <;> rfl
noncomputable def vinn (a b c x y z : V) : V := vadd (vadd (vmul a x) (vmul b y)) (vmul c z)
noncomputable def vlong (a b c : V) : V := vsqrt (vinn a b c a b c)
noncomputable def vsgD (a b c x y z : V) : V := vmul (vmul (vlong a b c) (vlong x y z)) (vadd (vmul (vlong a b c) (vlong x y z)) (vinn a b c x y z))
noncomputable def vsgQ (a b c x y z : V) : V := vquo (vadd (vlong a b c) (vlong x y z)) (vsgD a b c x y z)
noncomputable def vsgO (a b c x y z : V) : Bool := band (vup (vsgD a b c x y z)) (vgood (vsgQ a b c x y z))
noncomputable def vsgX (a b c x y z : V) : V := vgd (vsgO a b c x y z) (vmul (vsub (vmul b z) (vmul c y)) (vsgQ a b c x y z))
noncomputable def vsgY (a b c x y z : V) : V := vgd (vsgO a b c x y z) (vmul (vsub (vmul c x) (vmul a z)) (vsgQ a b c x y z))
noncomputable def vsgZ (a b c x y z : V) : V := vgd (vsgO a b c x y z) (vmul (vsub (vmul a y) (vmul b x)) (vsgQ a b c x y z))
section
variable {a b c x y z : Nat} {A B C X Y Z : V} (ha : Rep .f32 a A) (hb : Rep .f32 b B) (hc : Rep .f32 c C) (hx : Rep .f32 x X) (hy : Rep .f32 y Y) (hz : Rep .f32 z Z)
include ha hb hc hx hy hz
theorem rep_inn : Rep .f32 (inn a b c x y z) (vinn A B C X Y Z) := rep_add (rep_add (rep_mul ha hx) (rep_mul hb hy)) (rep_mul hc hz)
omit hx hy hz in
theorem rep_long : Rep .f32 (long a b c) (vlong A B C) := rep_vsqrt (rep_inn ha hb hc ha hb hc)
theorem rep_sgD : Rep .f32 (sgD a b c x y z) (vsgD A B C X Y Z) := rep_mul (rep_mul (rep_long ha hb hc) (rep_long hx hy hz)) (rep_add (rep_mul (rep_long ha hb hc) (rep_long hx hy hz)) (rep_inn ha hb hc hx hy hz))
theorem rep_sgQ : Rep .f32 (sgQ a b c x y z) (vsgQ A B C X Y Z) := rep_quo (rep_add (rep_long ha hb hc) (rep_long hx hy hz)) (rep_sgD ha hb hc hx hy hz)
theorem sg_yes (h : vsgO A B C X Y Z = true) : sgNo a b c x y z = false := by
  unfold vsgO at h
  rw [band_eq, Bool.and_eq_true] at h
  unfold sgNo
  rw [rep_up (rep_sgD ha hb hc hx hy hz) h.1, rep_fin (rep_sgQ ha hb hc hx hy hz) h.2]
  rfl
theorem rep_sgX : Rep .f32 (sgX a b c x y z) (vsgX A B C X Y Z) := by
  unfold vsgX
  cases h : vsgO A B C X Y Z
  · trivial
  · unfold sgX
    rw [sg_yes ha hb hc hx hy hz h]
    exact rep_mul (rep_sub (rep_mul hb hz) (rep_mul hc hy)) (rep_sgQ ha hb hc hx hy hz)
theorem rep_sgY : Rep .f32 (sgY a b c x y z) (vsgY A B C X Y Z) := by
  unfold vsgY
  cases h : vsgO A B C X Y Z
  · trivial
  · unfold sgY
    rw [sg_yes ha hb hc hx hy hz h]
    exact rep_mul (rep_sub (rep_mul hc hx) (rep_mul ha hz)) (rep_sgQ ha hb hc hx hy hz)
theorem rep_sgZ : Rep .f32 (sgZ a b c x y z) (vsgZ A B C X Y Z) := by
  unfold vsgZ
  cases h : vsgO A B C X Y Z
  · trivial
  · unfold sgZ
    rw [sg_yes ha hb hc hx hy hz h]
    exact rep_mul (rep_sub (rep_mul ha hy) (rep_mul hb hx)) (rep_sgQ ha hb hc hx hy hz)
end
noncomputable def vsegX (X Y Z : Nat → V) (n : Nat) (P Q R : V) (j : Nat) : V := vsgX (vsub P (X j)) (vsub Q (Y j)) (vsub R (Z j)) (vsub P (X (Nat.mod (Nat.succ j) n))) (vsub Q (Y (Nat.mod (Nat.succ j) n))) (vsub R (Z (Nat.mod (Nat.succ j) n)))
noncomputable def vsegY (X Y Z : Nat → V) (n : Nat) (P Q R : V) (j : Nat) : V := vsgY (vsub P (X j)) (vsub Q (Y j)) (vsub R (Z j)) (vsub P (X (Nat.mod (Nat.succ j) n))) (vsub Q (Y (Nat.mod (Nat.succ j) n))) (vsub R (Z (Nat.mod (Nat.succ j) n)))
noncomputable def vsegZ (X Y Z : Nat → V) (n : Nat) (P Q R : V) (j : Nat) : V := vsgZ (vsub P (X j)) (vsub Q (Y j)) (vsub R (Z j)) (vsub P (X (Nat.mod (Nat.succ j) n))) (vsub Q (Y (Nat.mod (Nat.succ j) n))) (vsub R (Z (Nat.mod (Nat.succ j) n)))
noncomputable def vsumF (f : Nat → V) (k : Nat) : V := Nat.rec V.zero (fun i s => vadd s (f i)) k
theorem rep_fX {x y z : Nat → Nat} {X Y Z : Nat → V} {n p q r : Nat} {P Q R : V} (hx : ∀ i, Rep .f32 (x i) (X i)) (hy : ∀ i, Rep .f32 (y i) (Y i)) (hz : ∀ i, Rep .f32 (z i) (Z i)) (hp : Rep .f32 p P) (hq : Rep .f32 q Q) (hr : Rep .f32 r R) :
    ∀ k, Rep .f32 (fX (sg n x y z) p q r 0 k) (vsumF (vsegX X Y Z n P Q R) k)
  | 0 => rep0
  | k + 1 => rep_add (rep_fX hx hy hz hp hq hr k) (rep_sgX (rep_sub hp (hx _)) (rep_sub hq (hy _)) (rep_sub hr (hz _)) (rep_sub hp (hx _)) (rep_sub hq (hy _)) (rep_sub hr (hz _)))
theorem rep_fY {x y z : Nat → Nat} {X Y Z : Nat → V} {n p q r : Nat} {P Q R : V} (hx : ∀ i, Rep .f32 (x i) (X i)) (hy : ∀ i, Rep .f32 (y i) (Y i)) (hz : ∀ i, Rep .f32 (z i) (Z i)) (hp : Rep .f32 p P) (hq : Rep .f32 q Q) (hr : Rep .f32 r R) :
    ∀ k, Rep .f32 (fY (sg n x y z) p q r 0 k) (vsumF (vsegY X Y Z n P Q R) k)
  | 0 => rep0
  | k + 1 => rep_add (rep_fY hx hy hz hp hq hr k) (rep_sgY (rep_sub hp (hx _)) (rep_sub hq (hy _)) (rep_sub hr (hz _)) (rep_sub hp (hx _)) (rep_sub hq (hy _)) (rep_sub hr (hz _)))
theorem rep_fZ {x y z : Nat → Nat} {X Y Z : Nat → V} {n p q r : Nat} {P Q R : V} (hx : ∀ i, Rep .f32 (x i) (X i)) (hy : ∀ i, Rep .f32 (y i) (Y i)) (hz : ∀ i, Rep .f32 (z i) (Z i)) (hp : Rep .f32 p P) (hq : Rep .f32 q Q) (hr : Rep .f32 r R) :
    ∀ k, Rep .f32 (fZ (sg n x y z) p q r 0 k) (vsumF (vsegZ X Y Z n P Q R) k)
  | 0 => rep0
  | k + 1 => rep_add (rep_fZ hx hy hz hp hq hr k) (rep_sgZ (rep_sub hp (hx _)) (rep_sub hq (hy _)) (rep_sub hr (hz _)) (rep_sub hp (hx _)) (rep_sub hq (hy _)) (rep_sub hr (hz _)))
end Go.Fw.E1

/-
  Bytes' choices, and values of what the kernel evaluates.
-/
namespace Go.Fw.E1
open Go.Proofs
theorem r8a_ex {la : Nat} {b : Nat → Nat} (hb : ∀ i, b i < 256) (k : Nat) {n : Nat} (hn : 0 < n) : ∃ v, v < n ∧ r8a la b (Int.ofNat k) (Int.ofNat n) = Int.ofNat v := by
  unfold r8a
  by_cases h : la ≤ k
  · exact ⟨0, hn, by rw [decide_eq_true (show Int.ofNat k ≥ Int.ofNat la by simp; omega)]; rfl⟩
  · refine ⟨b k % n, Nat.mod_lt _ hn, ?_⟩
    rw [decide_eq_false (show ¬ Int.ofNat k ≥ Int.ofNat la by simp; omega)]
    show (IntKind.i64.wrap (Int.ofNat (b k))).tmod (Int.ofNat n) = _
    rw [wrap_nat (by have := hb k; omega)]; rfl
theorem u8_all {la : Nat} {b : Nat → Nat} (hb : ∀ i, b i < 256) : allUpTo (isU8 (gL b)) la = true := allUpTo_iff.2 fun i _ => by
  show (decide (0 ≤ Int.ofNat (b i)) && decide (Int.ofNat (b i) < 256)) = true
  have := hb i
  rw [decide_eq_true (show 0 ≤ Int.ofNat (b i) from Int.natCast_nonneg _), decide_eq_true (show Int.ofNat (b i) < 256 by simp; omega)]; rfl
end Go.Fw.E1

/-
  The law of fields: rings and turns, evaluated.
-/
namespace Go.Fw.E1
open Go.Proofs
end Go.Fw.E1

/-
  The law of fields: a ring's field, twice the current, gone back.
-/
namespace Go.Fw.E1
open Go.Proofs
structure Place (P Q Z : Nat) (i j k : Nat) : Prop where
  hi : i < 17
  hj : j < 17
  hk : k < 17
  p : Qt P (Int.ofNat i - 8)
  q : Qt Q (Int.ofNat j - 8)
  z : Qt Z (Int.ofNat k + 4)
theorem qt_near {z : Int} {n : Nat} (h : z.natAbs ≤ n) : Near ((z : Rat) * (1 / 4)) ((n : Rat) * (1 / 4)) := by
  have h1 : z ≤ (n : Int) := by omega
  have h2 : -(n : Int) ≤ z := by omega
  have h1 := Rat.intCast_le_intCast.2 h1
  have h2 := Rat.intCast_le_intCast.2 h2
  rw [Rat.intCast_natCast] at h1
  rw [Rat.intCast_neg, Rat.intCast_natCast] at h2
  have q : (0 : Rat) ≤ 1 / 4 := by decide +kernel
  have h1 := Rat.mul_le_mul_of_nonneg_right h1 q
  have h2 := Rat.mul_le_mul_of_nonneg_right h2 q
  rw [Rat.neg_mul] at h2
  exact ⟨h2, h1⟩
section
variable {P Q Z i j k v : Nat} (H : Place P Q Z i j k) (hv : v < 10)
include H hv
end
end Go.Fw.E1

/-
  The law of fields: a square and a place turned together.
-/
namespace Go.Fw.E1
open Go.Proofs
section
variable {P Q Z i j k v : Nat} (H : Place P Q Z i j k) (hv : v < 32)
include H hv
end
end Go.Fw.E1

/-
  The law of fields: rings.
-/
namespace Go.Fw.E1
open Go.Proofs
section
variable {P Q Z i j k v : Nat} (H : Place P Q Z i j k) (hv : v < 10)
include H hv
end
end Go.Fw.E1

/-
  The law of fields: all of it, but for the walk.
-/
namespace Go.Fw.E1
open Go.Proofs
section
variable {P Q Z i j k v u : Nat} (H : Place P Q Z i j k) (hv : v < 10) (hu : u < 32)
include H hv hu
end
end Go.Fw.E1

/-
  Wires fed with another current.
-/
namespace Go.Fw.E1
open Go.Proofs
end Go.Fw.E1

/-
  The law of fields.
-/
namespace Go.Fw.E1
open Go.Proofs
end Go.Fw.E1

/-
  Quarters: sums, differences, doubles as words.
-/
namespace Go.Fw.E1
open Go.Proofs
def hw (j : Nat) : Nat := [3229614080, 3228565504, 3227516928, 3226468352, 3225419776, 3224371200, 3223322624, 3222274048, 3221225472, 3219128320, 3217031168, 3214934016, 3212836864, 3208642560, 3204448256, 3196059648, 0, 1048576000, 1056964608, 1061158912, 1065353216, 1067450368, 1069547520, 1071644672, 1073741824, 1074790400, 1075838976, 1076887552, 1077936128, 1078984704, 1080033280, 1081081856, 1082130432].getD j 0
end Go.Fw.E1

/-
  Wires of quarters: lengths of moved ones, segments of wires gone back.
-/
namespace Go.Fw.E1
open Go.Proofs
def Qs (x : Nat → Nat) : Prop := ∀ k, ∃ i, i < 17 ∧ x k = qw i
end Go.Fw.E1

/-
  Wires of quarters: how long segments and wires are.
-/
namespace Go.Fw.E1
open Go.Proofs
def St (w : Nat) (z : Int) : Prop := Val .f32 w ((z : Rat) * (1 / 16))
end Go.Fw.E1

/-
  Wires of quarters: how long they are, gone back too.
-/
namespace Go.Fw.E1
open Go.Proofs
theorem near14 {s : Rat} (h0 : 0 ≤ s) (h1 : s ≤ 14) : Near s 14 := by unfold Near; constructor <;> grind
theorem lenS_val {g : Nat → Nat → Nat} {f : Nat → Rat} {m : Nat} (hm : m ≤ 6) (hf : ∀ k, k < m → Val .f32 (segLen g k) (f k) ∧ 0 ≤ f k ∧ f k ≤ 14) : ∃ v, Val .f32 (lenS g (can .f32 0) m) v ∧ Near (v - rsum f m) (1 / 10000) := by
  have hz : Val .f32 (can .f32 0) 0 := Val.of_vof (by decide +kernel)
  obtain ⟨v, h1, h2⟩ := sum_val (s := fun k => lenS g (can .f32 0) k) (t := segLen g) (f := f) (B := 14) (n := m) hz (fun _ => rfl) (fun k hk => (hf k hk).1) (fun k hk => near14 (hf k hk).2.1 (hf k hk).2.2) (by omega) (by decide) (by decide) m (Nat.le_refl _)
  refine ⟨v, h1, h2.mono ?_⟩
  have hm6 : ((m : Nat) : Rat) ≤ 6 := by
    have : ((m : Nat) : Rat) ≤ ((6 : Nat) : Rat) := Rat.natCast_le_natCast.2 hm
    exact this
  have h3 : ((m : Nat) : Rat) * eta 14 ≤ 6 * eta 14 := Rat.mul_le_mul_of_nonneg_right hm6 (by decide +kernel)
  exact Rat.le_trans h3 (by decide +kernel)
theorem kMil : Val .f64 (can .f64 4562254508917369340) (1152921504606847 / 2 ^ 60) := Val.of_vof (by decide +kernel)
end Go.Fw.E1

/-
  Twice a wire: sums and roots of doubles.
-/
namespace Go.Fw.E1
open Go.Proofs
end Go.Fw.E1

/-
  Twice a wire is twice as long.
-/
namespace Go.Fw.E1
open Go.Proofs
end Go.Fw.E1

/-
  Twice a wire is twice as long: the sums.
-/
namespace Go.Fw.E1
open Go.Proofs
theorem len_bound {g : Nat → Nat → Nat} {f : Nat → Rat} {m : Nat} (hm : m ≤ 6) (hf : ∀ k, k < m → Val .f32 (segLen g k) (f k) ∧ 0 ≤ f k ∧ f k ≤ 14) {v : Rat} (hv : Val .f32 (lenS g (can .f32 0) m) v) : Near v 85 := by
  obtain ⟨u, h1, h2⟩ := lenS_val hm hf
  obtain rfl := hv.unique h1
  have h3 := rsum_near (f := f) (B := 14) m fun j hj => near14 (hf j hj).2.1 (hf j hj).2.2
  have hm6 : ((m : Nat) : Rat) ≤ 6 := by
    have : ((m : Nat) : Rat) ≤ ((6 : Nat) : Rat) := Rat.natCast_le_natCast.2 hm
    exact this
  have h4 : ((m : Nat) : Rat) * 14 ≤ 6 * 14 := Rat.mul_le_mul_of_nonneg_right hm6 (by decide)
  generalize rsum f m = S at h2 h3
  generalize ((m : Nat) : Rat) * 14 = K at h3 h4
  unfold Near at h2 h3 ⊢
  obtain ⟨p1, p2⟩ := h2
  obtain ⟨p3, p4⟩ := h3
  constructor <;> grind
end Go.Fw.E1

/-
  Wires of quarters: all is finite.
-/
namespace Go.Fw.E1
open Go.Proofs
def Vs (x : Nat → Nat) : Prop := ∀ k, ∃ q : Rat, Val .f32 (x k) q
theorem okW_vs {n c : Nat} {x y z : Nat → Nat} (h0 : 2 ≤ n) (h6 : n ≤ 6) (hc : fin c = true) (hx : Vs x) (hy : Vs y) (hz : Vs z) : okW n c x y z = true := by
  unfold okW
  have h : allUpTo (vfinAt x y z) n = true := allUpTo_iff.2 fun k _ => by
    obtain ⟨a, ha⟩ := hx k
    obtain ⟨b, hb⟩ := hy k
    obtain ⟨d, hd⟩ := hz k
    unfold vfinAt vfin
    rw [fin_val ha, fin_val hb, fin_val hd]
    rfl
  rw [h, hc, decide_eq_true (show 2 ≤ n ∧ n ≤ 48 by omega)]
  rfl
theorem Qs.vs {x : Nat → Nat} (h : Qs x) : Vs x := fun k => by
  obtain ⟨i, hi, e⟩ := h k
  exact ⟨_, by rw [e]; exact qw_qt hi⟩
theorem fin_qw {i : Nat} (h : i < 17) : fin (qw i) = true := fin_val (qw_qt h)
section
variable {n c : Nat} {x y z : Nat → Nat} (hx : Qs x) (hy : Qs y) (hz : Qs z) (h0 : 2 ≤ n) (h6 : n ≤ 6) (hc : fin c = true)
include hx hy hz h0 h6 hc
theorem ok_own : okW n c x y z = true := okW_vs h0 h6 hc hx.vs hy.vs hz.vs
end
end Go.Fw.E1

/-
  Wires of quarters: distances that are next to nothing; products and areas.
-/
namespace Go.Fw.E1
open Go.Proofs
end Go.Fw.E1

/-
  Wires of quarters: areas are sums of integers, and the same for closed wires that are moved.
-/
namespace Go.Fw.E1
open Go.Proofs
end Go.Fw.E1

/-
  Wires of quarters: areas of closed wires stay where they are moved.
-/
namespace Go.Fw.E1
open Go.Proofs
end Go.Fw.E1

/-
  Wires of quarters: areas and moments are finite; moments are areas times currents.
-/
namespace Go.Fw.E1
open Go.Proofs
end Go.Fw.E1

/-
  Wires of quarters: sums of places, one through a count.
-/
namespace Go.Fw.E1
open Go.Proofs
end Go.Fw.E1

/-
  Wires of quarters: middles move with their wires.
-/
namespace Go.Fw.E1
open Go.Proofs
end Go.Fw.E1

/-
  Wires of quarters: segments of turned ones are as long, nearly (fractions alone).
-/
namespace Go.Fw.E1
open Go.Proofs
section
variable {C S x y p q : Rat} (hC : Near (C * C + S * S - 1) (2 * ur .f32)) (hp : p = C * x - S * y) (hq : q = S * x + C * y)
include hC hp hq
end
end Go.Fw.E1

/-
  Pieces of wires of quarters, in numbers.
-/
namespace Go.Fw.E1
open Go.Proofs
end Go.Fw.E1

/-
  All pieces of a wire of quarters.
-/
namespace Go.Fw.E1
open Go.Proofs
theorem q_val {x : Nat → Nat} (hx : Qs x) (k : Nat) : Val .f32 (x k) (vl (x k)) ∧ Near (vl (x k)) 2 := by
  obtain ⟨i, hi, e⟩ := hx k
  have q := qw_qt hi
  have o : ∀ x : Nat, (Int.ofNat x) = (x : Int) := fun _ => rfl
  have n := qt_near (z := Int.ofNat i - 8) (n := 8) (by rw [o]; omega)
  rw [show ((8 : Nat) : Rat) * (1 / 4) = 2 by decide +kernel] at n
  rw [e, vl_eq q]
  exact ⟨q, n⟩
noncomputable def lamS (n pp : Nat) (x y z : Nat → Nat) (s : Nat) : Rat := vl (segLen (sg n x y z) s) * (1 / (pp : Rat)) * (1 + 1 / 524288) + 1 / 1099511627776
noncomputable def lamW (n pp : Nat) (x y z : Nat → Nat) (j : Nat) : Rat := lamS n pp x y z (j / pp)
section
variable {n pp : Nat} {x y z : Nat → Nat} (hx : Qs x) (hy : Qs y) (hz : Qs z) (h0 : 1 ≤ pp) (h3 : pp ≤ 3)
include hx hy hz h0 h3
end
end Go.Fw.E1

/-
  Sums of pairs of wires of quarters, in numbers; wires gone back.
-/
namespace Go.Fw.E1
open Go.Proofs
theorem lam_sum (n pp : Nat) (x y z : Nat → Nat) (h0 : 1 ≤ pp) (c : Nat) : rsum (lamW n pp x y z) (pp * c) = (1 + 1 / 524288) * rsum (fun s => vl (segLen (sg n x y z) s)) c + ((pp * c : Nat) : Rat) * (1 / 1099511627776) := by
  have e := dsum_flat (fun s _ => lamS n pp x y z s) (show 0 < pp by omega) c
  rw [Nat.mul_comm pp c]
  have p0 : (0 : Rat) < (pp : Rat) := Rat.natCast_pos.2 (by omega)
  have hr : 1 / (pp : Rat) * (pp : Rat) = 1 := Rat.div_mul_cancel (by grind)
  have const : ∀ (a : Rat) (k : Nat), rsum (fun _ => a) k = (k : Rat) * a := fun a k => by
    induction k with
    | zero => show (0 : Rat) = ((0 : Nat) : Rat) * a; rw [show ((0 : Nat) : Rat) = 0 from rfl, Rat.zero_mul]
    | succ k ih =>
      show rsum (fun _ => a) k + a = ((k + 1 : Nat) : Rat) * a
      rw [ih, Rat.natCast_add, show ((1 : Nat) : Rat) = 1 from rfl]; grind
  have row : dsum (fun s _ => lamS n pp x y z s) c pp = rsum (fun s => (1 + 1 / 524288) * vl (segLen (sg n x y z) s) + (pp : Rat) * (1 / 1099511627776)) c := by
    unfold dsum
    refine rsum_congr _ fun s _ => ?_
    rw [const]
    unfold lamS
    generalize vl (segLen (sg n x y z) s) = l
    generalize 1 / (pp : Rat) = r at *
    have : (pp : Rat) * (l * r * (1 + 1 / 524288) + 1 / 1099511627776) = (r * (pp : Rat)) * l * (1 + 1 / 524288) + (pp : Rat) * (1 / 1099511627776) := by grind
    rw [this, hr]; grind
  have e2 : rsum (lamW n pp x y z) (c * pp) = rsum (fun k => (fun s _ => lamS n pp x y z s) (k / pp) (k % pp)) (c * pp) := rfl
  rw [e2, e, row, rsum_add2, rsum_mul, const, Rat.natCast_mul]
  grind
end Go.Fw.E1

/-
  A wire of quarters and another one gone back: the opposite sum, nearly.
-/
namespace Go.Fw.E1
open Go.Proofs
section
variable {n pp : Nat} {x y z : Nat → Nat} (hx : Qs x) (hy : Qs y) (hz : Qs z) (hn : 2 ≤ n) (h0 : 1 ≤ pp)
include hx hy hz hn h0
end
end Go.Fw.E1

/-
  The law of couplings: its sizes and gaps, in numbers.
-/
namespace Go.Fw.E1
open Go.Proofs
theorem one64 : Val .f64 (can .f64 4607182418800017408) 1 := Val.of_vof (by decide +kernel)
theorem four64 : Val .f64 (can .f64 4616189618054758400) 4 := Val.of_vof (by decide +kernel)
theorem near_of {a b E F : Rat} (h : Near (a - b) E) (hb : Near b F) : Near a (F + E) := by
  have := hb.add h
  rw [show b + (a - b) = a by grind] at this
  exact this
theorem gap_valL {x y : Nat} {a b t : Rat} (hx : Val .f64 x a) (hy : Val .f64 y b) (h : Near (a - b) t) (ht : t ≤ 1048576) : ∃ g, Val .f64 (gap8 x y) g ∧ g ≤ t + 1 / 1000000 := by
  have hm : t ≤ most := Rat.le_trans ht (by decide +kernel)
  obtain ⟨c, h1, h2⟩ := hx.sub hy h hm
  obtain ⟨d, h3, h4⟩ := hy.sub hx (X := t) (by unfold Near at *; constructor <;> grind) hm
  refine ⟨_, fmax_val h1 h3, ?_⟩
  have hu : 1048576 * ur .f64 + tiny .f64 ≤ 1 / 1000000 := by decide +kernel
  have hup := ur_pos .f64
  have := Rat.mul_le_mul_of_nonneg_right ht (Rat.le_of_lt hup)
  unfold Near at *
  split <;> grind
theorem scale_val {w S : Nat} {k s : Rat} (hw : Val .f64 w k) (hS : Val .f64 S s) (k0 : Near k 2) (s1 : Near s 1000000) : ∃ K, Val .f64 (fop .mul .f64 w S) K ∧ Near (K - k * s) (1 / 1000000) := by
  obtain ⟨K, K1, K2⟩ := hw.mul hS (k0.mul s1) (by decide +kernel)
  exact ⟨K, K1, K2.mono (by decide +kernel)⟩
theorem half_pos {s : Rat} (h : 1 / 2 ≤ s) : 0 ≤ s := Rat.le_trans (by decide +kernel) h
theorem near_size {s : Rat} (h : 1 / 2 ≤ s) (h' : s ≤ 1000000) : Near s 1000000 := by
  have := half_pos h
  unfold Near
  constructor <;> grind
structure Cpl (wx wy wz wa wb wla wlb : Nat) (G11 G12 G22 La Lb vx vy vz va vb la lb : Rat) : Prop where
  x : Val .f32 wx vx
  y : Val .f32 wy vy
  z : Val .f32 wz vz
  a : Val .f32 wa va
  b : Val .f32 wb vb
  l1 : Val .f32 wla la
  l2 : Val .f32 wlb lb
  nx : Near (vx - G12) (1 / 2400 * (La * Lb))
  ny : Near (vy - G12) (1 / 2400 * (La * Lb))
  nz : Near (vz + G12) (1 / 1500 * (La * Lb))
  na : Near (va - G11) (1 / 2400 * (La * La))
  nb : Near (vb - G22) (1 / 2400 * (Lb * Lb))
  psd : ∀ s t : Rat, 0 ≤ s * s * G11 + 2 * (s * t) * G12 + t * t * G22
  g11 : Near G11 (41 / 10 * (La * La))
  g12 : Near G12 (41 / 10 * (La * Lb))
  g22 : Near G22 (41 / 10 * (Lb * Lb))
  a0 : 0 ≤ La
  b0 : 0 ≤ Lb
  na' : Near la 90
  nb' : Near lb 90
  sa : La ≤ la * (1 + 1 / 500000) + 11 / 100000
  sb : Lb ≤ lb * (1 + 1 / 500000) + 11 / 100000
section
variable {wx wy wz wa wb wla wlb : Nat} {G11 G12 G22 La Lb vx vy vz va vb la lb : Rat} (H : Cpl wx wy wz wa wb wla wlb G11 G12 G22 La Lb vx vy vz va vb la lb)
include H
end
end Go.Fw.E1

/-
  The law of couplings: energies and shares, in numbers.
-/
namespace Go.Fw.E1
open Go.Proofs
section
variable {wx wy wz wa wb wla wlb : Nat} {G11 G12 G22 La Lb vx vy vz va vb la lb : Rat} (H : Cpl wx wy wz wa wb wla wlb G11 G12 G22 La Lb vx vy vz va vb la lb)
include H
end
end Go.Fw.E1

/-
  The law of couplings: shares, in numbers.
-/
namespace Go.Fw.E1
open Go.Proofs
section
variable {wx wy wz wa wb wla wlb : Nat} {G11 G12 G22 La Lb vx vy vz va vb la lb : Rat} (H : Cpl wx wy wz wa wb wla wlb G11 G12 G22 La Lb vx vy vz va vb la lb)
include H
end
end Go.Fw.E1

/-
  The law of couplings: two wires of quarters, all sums.
-/
namespace Go.Fw.E1
open Go.Proofs
section
variable {n m pp : Nat} {x y z u v w : Nat → Nat} (hx : Qs x) (hy : Qs y) (hz : Qs z) (hu : Qs u) (hv : Qs v) (hw : Qs w) (n2 : 2 ≤ n) (n6 : n ≤ 6) (m2 : 2 ≤ m) (m6 : m ≤ 6) (p1 : 1 ≤ pp) (p3 : pp ≤ 3)
include hx hy hz hu hv hw n2 n6 m2 m6 p1 p3
end
end Go.Fw.E1

/-
  Wires of 64ths: their pieces without rounding.
-/
namespace Go.Fw.E1
open Go.Proofs
def Hz (x : Nat → Nat) (h : Nat → Int) : Prop := ∀ k, Dy 6 (x k) (h k) ∧ (h k).natAbs ≤ 600 ∧ ∀ j, (h k - h j).natAbs ≤ 256
def pzA (n : Nat) (hx hy hz : Nat → Int) (j c : Nat) : Int :=
  match c with
  | 0 => hx (nx n (j / 2)) - hx (j / 2)
  | 1 => hy (nx n (j / 2)) - hy (j / 2)
  | 2 => hz (nx n (j / 2)) - hz (j / 2)
  | 3 => hx (j / 2) * 4 + (hx (nx n (j / 2)) - hx (j / 2)) * (2 * (j % 2 : Nat) + 1)
  | 4 => hy (j / 2) * 4 + (hy (nx n (j / 2)) - hy (j / 2)) * (2 * (j % 2 : Nat) + 1)
  | _ => hz (j / 2) * 4 + (hz (nx n (j / 2)) - hz (j / 2)) * (2 * (j % 2 : Nat) + 1)
theorem inv2_dy : Dy 1 (inv 2) 1 := Dy.of_val (by decide) (Val.of_vof (by decide +kernel))
theorem mid2_dy {k : Nat} (hk : k < 2) : Dy 2 (mid k 2) (2 * (k : Int) + 1) := by
  match k, hk with
  | 0, _ => exact Dy.of_val (by decide) (Val.of_vof (by decide +kernel))
  | 1, _ => exact Dy.of_val (by decide) (Val.of_vof (by decide +kernel))
theorem piece_dy {x : Nat → Nat} {h : Nat → Int} (hx : Hz x h) (u a k : Nat) (hk : k < 2) : Dy 7 (fop .mul .f32 (fop .sub .f32 (x u) (x a)) (inv 2)) (h u - h a) ∧ Dy 8 (fop .add .f32 (x a) (fop .mul .f32 (fop .sub .f32 (x u) (x a)) (mid k 2))) (h a * 4 + (h u - h a) * (2 * (k : Int) + 1)) := by
  obtain ⟨u1, u2, u3⟩ := hx u
  obtain ⟨a1, a2, _⟩ := hx a
  have d3 := u3 a
  have d := u1.sub a1 (by omega)
  have w := d.mul inv2_dy (by omega) (by rw [Int.mul_one]; omega)
  rw [Int.mul_one] at w
  have kk : (2 * (k : Int) + 1).natAbs ≤ 3 := by omega
  have pb : ((h u - h a) * (2 * (k : Int) + 1)).natAbs ≤ 768 := by
    rw [Int.natAbs_mul]
    exact Nat.mul_le_mul d3 kk
  have m := d.mul (mid2_dy hk) (by omega) (by omega)
  have e : ((2 ^ 2 : Nat) : Int) = 4 := rfl
  have a4 := a1.up 2 (by omega)
  rw [e] at a4
  exact ⟨w, a4.add m (by omega)⟩
theorem seg_dy {n : Nat} {x y z : Nat → Nat} {hx hy hz : Nat → Int} (h1 : Hz x hx) (h2 : Hz y hy) (h3 : Hz z hz) (k : Nat) : ∃ l m : Rat, Val .f32 (segLen (sg n x y z) k) l ∧ 0 ≤ l ∧ l ≤ 14 ∧ Near (l * l - m) (m * e22) ∧ 0 ≤ m ∧
    m = (((hx (nx n k) - hx k) * (hx (nx n k) - hx k) + (hy (nx n k) - hy k) * (hy (nx n k) - hy k) + (hz (nx n k) - hz k) * (hz (nx n k) - hz k) : Int) : Rat) * dyu 12 := by
  obtain ⟨a1, a2, a3⟩ := h1 (nx n k)
  obtain ⟨b1, b2, b3⟩ := h2 (nx n k)
  obtain ⟨c1, c2, c3⟩ := h3 (nx n k)
  have a3 := a3 k
  have b3 := b3 k
  have c3 := c3 k
  have p := a1.sub (h1 k).1 (by omega)
  have q := b1.sub (h2 k).1 (by omega)
  have r := c1.sub (h3 k).1 (by omega)
  have s1 := sq_bound a3
  have s2 := sq_bound b3
  have s3 := sq_bound c3
  have pp := p.mul p (by omega) (by omega)
  have qq := q.mul q (by omega) (by omega)
  have rr := r.mul r (by omega) (by omega)
  have S := ((pp.add qq (by omega)).add rr (by omega)).val
  generalize hN : (hx (nx n k) - hx k) * (hx (nx n k) - hx k) + (hy (nx n k) - hy k) * (hy (nx n k) - hy k) + (hz (nx n k) - hz k) * (hz (nx n k) - hz k) = N at *
  have N0 : ((0 : Int) : Rat) ≤ (N : Rat) := Rat.intCast_le_intCast.2 (by omega)
  have N1 : (N : Rat) ≤ ((196608 : Int) : Rat) := Rat.intCast_le_intCast.2 (by omega)
  have u0 : 0 ≤ dyu 12 := by decide +kernel
  have m0 := Rat.mul_le_mul_of_nonneg_right N0 u0
  have m1 := Rat.mul_le_mul_of_nonneg_right N1 u0
  have k48 : ((196608 : Int) : Rat) * dyu 12 = 48 := by decide +kernel
  have k0 : ((0 : Int) : Rat) * dyu 12 = 0 := by decide +kernel
  rw [k48] at m1
  rw [k0] at m0
  generalize hm : (N : Rat) * dyu 12 = m at *
  obtain ⟨l, l1, l2, l3, _⟩ := S.root m0 (Rat.le_trans m1 (by decide +kernel))
  refine ⟨l, m, l1, l2, ?_, l3, m0, rfl⟩
  refine le_of_sq (by decide) ?_
  have k1 : (48 : Rat) + 48 * e22 ≤ 14 * 14 := by decide +kernel
  have k2 := Rat.mul_le_mul_of_nonneg_right m1 (show 0 ≤ e22 by decide +kernel)
  unfold Near at l3
  grind
theorem pieces_dy {n : Nat} {x y z : Nat → Nat} {hx hy hz : Nat → Int} (h1 : Hz x hx) (h2 : Hz y hy) (h3 : Hz z hz) {lam : Nat → Rat} (hl : ∀ j, ((pzA n hx hy hz j 0 * pzA n hx hy hz j 0 + pzA n hx hy hz j 1 * pzA n hx hy hz j 1 + pzA n hx hy hz j 2 * pzA n hx hy hz j 2 : Int) : Rat) * dyu 14 ≤ lam j * lam j ∧ 1 / 1099511627776 ≤ lam j ∧ lam j ≤ 16) (N : Nat) : Pzs (pc (sg n x y z) 2) N (pzA n hx hy hz) lam := fun j _ => by
  have hk : j % 2 < 2 := Nat.mod_lt _ (by omega)
  obtain ⟨a1, a2⟩ := piece_dy h1 (nx n (j / 2)) (j / 2) (j % 2) hk
  obtain ⟨b1, b2⟩ := piece_dy h2 (nx n (j / 2)) (j / 2) (j % 2) hk
  obtain ⟨c1, c2⟩ := piece_dy h3 (nx n (j / 2)) (j / 2) (j % 2) hk
  obtain ⟨l1, l2, l3⟩ := hl j
  have bd : ∀ {x : Nat → Nat} {h : Nat → Int}, Hz x h → (h (nx n (j / 2)) - h (j / 2)).natAbs ≤ 600 := fun hh => by have := (hh (nx n (j / 2))).2.2 (j / 2); omega
  exact ⟨a1, b1, c1, a2, b2, c2, bd h1, bd h2, bd h3, l1, l2, l3⟩
theorem lam_dy {n : Nat} {x y z : Nat → Nat} {hx hy hz : Nat → Int} (h1 : Hz x hx) (h2 : Hz y hy) (h3 : Hz z hz) (j : Nat) : ((pzA n hx hy hz j 0 * pzA n hx hy hz j 0 + pzA n hx hy hz j 1 * pzA n hx hy hz j 1 + pzA n hx hy hz j 2 * pzA n hx hy hz j 2 : Int) : Rat) * dyu 14 ≤ lamW n 2 x y z j * lamW n 2 x y z j ∧ 1 / 1099511627776 ≤ lamW n 2 x y z j ∧ lamW n 2 x y z j ≤ 16 := by
  obtain ⟨s, m, s1, s2, s3, s4, s5, s6⟩ := seg_dy (n := n) h1 h2 h3 (j / 2)
  have el : lamW n 2 x y z j = s * (1 / 2) * (1 + 1 / 524288) + 1 / 1099511627776 := by
    unfold lamW lamS
    rw [vl_eq s1]
    rfl
  rw [el]
  have sr := Rat.mul_nonneg s2 (show (0 : Rat) ≤ 1 / 2 by decide +kernel)
  have k0 := Rat.mul_nonneg sr (show (0 : Rat) ≤ 1 + 1 / 524288 by decide +kernel)
  refine ⟨?_, by grind, ?_⟩
  · have e : ((pzA n hx hy hz j 0 * pzA n hx hy hz j 0 + pzA n hx hy hz j 1 * pzA n hx hy hz j 1 + pzA n hx hy hz j 2 * pzA n hx hy hz j 2 : Int) : Rat) * dyu 14 = m * (1 / 4) := by
      have k14 : dyu 14 = dyu 12 * (1 / 4) := by decide +kernel
      rw [s6, k14]
      show _ = (((hx (nx n (j / 2)) - hx (j / 2)) * (hx (nx n (j / 2)) - hx (j / 2)) + (hy (nx n (j / 2)) - hy (j / 2)) * (hy (nx n (j / 2)) - hy (j / 2)) + (hz (nx n (j / 2)) - hz (j / 2)) * (hz (nx n (j / 2)) - hz (j / 2)) : Int) : Rat) * dyu 12 * (1 / 4)
      rw [Rat.mul_assoc]
      rfl
    rw [e]
    have e1 : e22 ≤ 1 / 2 := by decide +kernel
    have e0 := e22_pos
    have me := Rat.mul_le_mul_of_nonneg_left e1 s5
    have m2 : m ≤ 2 * (s * s) := by unfold Near at s4; grind
    have m3 := Rat.mul_le_mul_of_nonneg_right m2 (Rat.le_of_lt e0)
    have m4 : m ≤ (1 + 2 * e22) * (s * s) := by unfold Near at s4; grind
    have k1 : (1 + 2 * e22) ≤ (1 + 1 / 524288) * (1 + 1 / 524288 : Rat) := by decide +kernel
    have ss := sqn s
    have k1 := Rat.mul_le_mul_of_nonneg_right k1 ss
    have m5 : m * (1 / 4) ≤ (1 + 1 / 524288) * (1 + 1 / 524288) * (s * s) * (1 / 4) := Rat.mul_le_mul_of_nonneg_right (Rat.le_trans m4 k1) (by decide +kernel)
    have q4 : (1 / 2 : Rat) * (1 / 2) = 1 / 4 := by decide +kernel
    have ex : s * (1 / 2) * (1 + 1 / 524288) * (s * (1 / 2) * (1 + 1 / 524288)) = (1 + 1 / 524288) * (1 + 1 / 524288) * (s * s) * (1 / 4) := by rw [← q4]; grind
    rw [← ex] at m5
    refine Rat.le_trans m5 (sq_mono k0 ?_)
    have : (0 : Rat) ≤ 1 / 1099511627776 := by decide +kernel
    grind
  · have h := Rat.mul_le_mul_of_nonneg_right s3 (show (0 : Rat) ≤ 1 / 2 * (1 + 1 / 524288) by decide +kernel)
    have h2 : (14 : Rat) * (1 / 2 * (1 + 1 / 524288)) + 1 / 1099511627776 ≤ 16 := by decide +kernel
    grind
theorem len_dy {n : Nat} {x y z : Nat → Nat} {hx hy hz : Nat → Int} (h1 : Hz x hx) (h2 : Hz y hy) (h3 : Hz z hz) (n6 : n ≤ 6) (cl : Bool) : ∃ la : Rat, Val .f32 (lenW n x y z cl) la ∧ Near la 90 ∧ rsum (lamW n 2 x y z) (2 * cnt n cl) ≤ la * (1 + 1 / 500000) + 11 / 100000 ∧ 0 ≤ rsum (lamW n 2 x y z) (2 * cnt n cl) ∧ rsum (lamW n 2 x y z) (2 * cnt n cl) ≤ 91 := by
  have hm : cnt n cl ≤ 6 := Nat.le_trans (cnt_le n cl) n6
  have hf : ∀ k, k < cnt n cl → Val .f32 (segLen (sg n x y z) k) (vl (segLen (sg n x y z) k)) ∧ 0 ≤ vl (segLen (sg n x y z) k) ∧ vl (segLen (sg n x y z) k) ≤ 14 := fun k _ => by
    obtain ⟨s, _, s1, s2, s3, _⟩ := seg_dy (n := n) h1 h2 h3 k
    rw [vl_eq s1]
    exact ⟨s1, s2, s3⟩
  obtain ⟨la, l1, l2⟩ := lenS_val hm hf
  have b := len_bound hm hf l1
  have r0 := rsum_nonneg (f := fun s => vl (segLen (sg n x y z) s)) (cnt n cl) fun k hk => (hf k hk).2.1
  have r84 : rsum (fun s => vl (segLen (sg n x y z) s)) (cnt n cl) ≤ 86 := by
    unfold Near at l2 b
    have : (85 : Rat) + 1 / 10000 ≤ 86 := by decide +kernel
    grind
  have c18 : ((2 * cnt n cl : Nat) : Rat) ≤ 18 := Rat.natCast_le_natCast.2 (show 2 * cnt n cl ≤ 18 by omega)
  have c0 : (0 : Rat) ≤ ((2 * cnt n cl : Nat) : Rat) := Rat.natCast_nonneg
  rw [lam_sum n 2 x y z (by omega)]
  refine ⟨la, l1, b.mono (by decide), ?_⟩
  generalize ((2 * cnt n cl : Nat) : Rat) = C at *
  generalize rsum (fun s => vl (segLen (sg n x y z) s)) (cnt n cl) = R at *
  have k1 := Rat.mul_le_mul_of_nonneg_right c18 (show (0 : Rat) ≤ 1 / 1099511627776 by decide +kernel)
  have k2 := Rat.mul_nonneg c0 (show (0 : Rat) ≤ 1 / 1099511627776 by decide +kernel)
  have k3 := Rat.mul_le_mul_of_nonneg_right (show (1 + 1 / 524288 : Rat) ≤ 1 + 1 / 500000 by decide +kernel) r0
  have k4 := Rat.mul_nonneg (show (0 : Rat) ≤ 1 + 1 / 524288 by decide +kernel) r0
  have k5 : (18 : Rat) * (1 / 1099511627776) + (1 + 1 / 500000) * (1 / 10000) ≤ 11 / 100000 := by decide +kernel
  have k6 := Rat.mul_le_mul_of_nonneg_left (show R ≤ la + 1 / 10000 by unfold Near at l2; grind) (show (0 : Rat) ≤ 1 + 1 / 500000 by decide +kernel)
  have k7 : (18 : Rat) * (1 / 1099511627776) + (1 + 1 / 524288) * 86 ≤ 91 := by decide +kernel
  have k8 := Rat.mul_le_mul_of_nonneg_left r84 (show (0 : Rat) ≤ 1 + 1 / 524288 by decide +kernel)
  refine ⟨?_, ?_, ?_⟩
  · grind
  · grind
  · grind
end Go.Fw.E1

/-
  The law of forces: its wires in 64ths, how far they are apart.
-/
namespace Go.Fw.E1
open Go.Proofs
theorem qw_dy {i : Nat} (h : i < 17) : Dy 2 (qw i) ((i : Int) - 8) := Dy.of_val (by decide) (by
  have := qw_qt h
  unfold Qt at this
  have e : dyu 2 = 1 / 4 := by decide +kernel
  rw [e]
  exact this)
theorem v7_dy : Dy 6 V7 448 := Dy.of_val (by decide) (Val.of_vof (by decide +kernel))
theorem z0_dy (e : Nat) (h : e ≤ 149) : Dy e 0 0 := Dy.of_val h (by
  have : Val .f32 0 0 := Val.of_vof (by decide +kernel)
  rw [show ((0 : Int) : Rat) = 0 from rfl, Rat.zero_mul]
  exact this)
theorem c0_dy (e : Nat) (h : e ≤ 149) : Dy e (can .f32 0) 0 := Dy.of_val h (by
  have : Val .f32 (can .f32 0) 0 := Val.of_vof (by decide +kernel)
  rw [show ((0 : Int) : Rat) = 0 from rfl, Rat.zero_mul]
  exact this)
theorem stp_dy : Dy 4 STP 1 := Dy.of_val (by decide) (Val.of_vof (by decide +kernel))
def Qh (x : Nat → Nat) (h : Nat → Int) : Prop := ∀ k, Dy 6 (x k) (h k) ∧ (h k).natAbs ≤ 128
theorem qs_qh {x : Nat → Nat} (hx : Qs x) : ∃ h, Qh x h := by
  have H : ∀ k, ∃ z : Int, Dy 6 (x k) z ∧ z.natAbs ≤ 128 := fun k => by
    obtain ⟨i, hi, e⟩ := hx k
    have d := (qw_dy hi).up 4 (by omega)
    rw [show ((2 ^ 4 : Nat) : Int) = 16 from rfl] at d
    exact ⟨((i : Int) - 8) * 16, by rw [e]; exact d, by omega⟩
  exact ⟨fun k => (H k).choose, fun k => (H k).choose_spec⟩
theorem Qh.hz {x : Nat → Nat} {h : Nat → Int} (H : Qh x h) : Hz x h := fun k => ⟨(H k).1, by have := (H k).2; omega, fun j => by have := (H k).2; have := (H j).2; omega⟩
theorem Qh.far {x : Nat → Nat} {h : Nat → Int} (H : Qh x h) : Hz (adX V7 x) (fun k => h k + 448) := fun k => ⟨(H k).1.add v7_dy (by have := (H k).2; omega), by have := (H k).2; show (h k + 448).natAbs ≤ 600; omega, fun j => by have := (H k).2; have := (H j).2; show (h k + 448 - (h j + 448)).natAbs ≤ 256; omega⟩
theorem Qh.stay {x : Nat → Nat} {h : Nat → Int} (H : Qh x h) : Hz (adX 0 x) h := fun k => ⟨by
  have := (H k).1.add (z0_dy 6 (by decide)) (by have := (H k).2; omega)
  rw [Int.add_zero] at this
  exact this, by have := (H k).2; omega, fun j => by have := (H k).2; have := (H j).2; omega⟩
theorem Qh.step {x : Nat → Nat} {h : Nat → Int} (H : Qh x h) {v : Nat} (hv : v < 17) : Hz (stX (qw v) STP x) (fun k => h k + ((v : Int) - 8)) := fun k => by
  have s := (qw_dy hv).mul stp_dy (by decide) (by omega)
  rw [Int.mul_one] at s
  exact ⟨(H k).1.add s (by have := (H k).2; omega), by have := (H k).2; show (h k + ((v : Int) - 8)).natAbs ≤ 600; omega, fun j => by have := (H k).2; have := (H j).2; show (h k + ((v : Int) - 8) - (h j + ((v : Int) - 8))).natAbs ≤ 256; omega⟩
theorem Qh.back {x : Nat → Nat} {h : Nat → Int} (H : Qh x h) {v : Nat} (hv : v < 17) : Hz (stX (qw v) (fneg .f32 STP) x) (fun k => h k - ((v : Int) - 8)) := fun k => by
  have s := (qw_dy hv).mul stp_dy.neg (by decide) (by omega)
  rw [show ((v : Int) - 8) * -1 = -((v : Int) - 8) by omega] at s
  have a := (H k).1.add s (by have := (H k).2; omega)
  rw [show h k + -((v : Int) - 8) = h k - ((v : Int) - 8) by omega] at a
  exact ⟨a, by have := (H k).2; show (h k - ((v : Int) - 8)).natAbs ≤ 600; omega, fun j => by have := (H k).2; have := (H j).2; show (h k - ((v : Int) - 8) - (h j - ((v : Int) - 8))).natAbs ≤ 256; omega⟩
theorem pz_mid {a u : Int} {lo hi : Int} {k : Nat} (hk : k < 2) (ha : lo ≤ a ∧ a ≤ hi) (hu : lo ≤ u ∧ u ≤ hi) : lo * 4 ≤ a * 4 + (u - a) * (2 * (k : Int) + 1) ∧ a * 4 + (u - a) * (2 * (k : Int) + 1) ≤ hi * 4 := by
  match k, hk with
  | 0, _ => constructor <;> (simp; omega)
  | 1, _ => constructor <;> (simp; omega)
theorem pz_3 {n : Nat} {hx hy hz : Nat → Int} {lo hi : Int} (h : ∀ k, lo ≤ hx k ∧ hx k ≤ hi) (j : Nat) : lo * 4 ≤ pzA n hx hy hz j 3 ∧ pzA n hx hy hz j 3 ≤ hi * 4 := pz_mid (Nat.mod_lt _ (by omega)) (h _) (h _)
theorem pz_4 {n : Nat} {hx hy hz : Nat → Int} {lo hi : Int} (h : ∀ k, lo ≤ hy k ∧ hy k ≤ hi) (j : Nat) : lo * 4 ≤ pzA n hx hy hz j 4 ∧ pzA n hx hy hz j 4 ≤ hi * 4 := pz_mid (Nat.mod_lt _ (by omega)) (h _) (h _)
theorem pz_5 {n : Nat} {hx hy hz : Nat → Int} {lo hi : Int} (h : ∀ k, lo ≤ hz k ∧ hz k ≤ hi) (j : Nat) : lo * 4 ≤ pzA n hx hy hz j 5 ∧ pzA n hx hy hz j 5 ≤ hi * 4 := pz_mid (Nat.mod_lt _ (by omega)) (h _) (h _)
theorem pz_shift {n : Nat} {hx hy hz : Nat → Int} (a b c : Int) (j : Nat) : pzA n (fun k => hx k + a) (fun k => hy k + b) (fun k => hz k + c) j 0 = pzA n hx hy hz j 0 ∧ pzA n (fun k => hx k + a) (fun k => hy k + b) (fun k => hz k + c) j 1 = pzA n hx hy hz j 1 ∧ pzA n (fun k => hx k + a) (fun k => hy k + b) (fun k => hz k + c) j 2 = pzA n hx hy hz j 2 ∧
    pzA n (fun k => hx k + a) (fun k => hy k + b) (fun k => hz k + c) j 3 = pzA n hx hy hz j 3 + 4 * a ∧ pzA n (fun k => hx k + a) (fun k => hy k + b) (fun k => hz k + c) j 4 = pzA n hx hy hz j 4 + 4 * b ∧ pzA n (fun k => hx k + a) (fun k => hy k + b) (fun k => hz k + c) j 5 = pzA n hx hy hz j 5 + 4 * c := by
  have s : ∀ u v a : Int, u + a - (v + a) = u - v := fun u v a => by omega
  refine ⟨s _ _ _, s _ _ _, s _ _ _, ?_, ?_, ?_⟩
  · show (hx (j / 2) + a) * 4 + (hx (nx n (j / 2)) + a - (hx (j / 2) + a)) * _ = hx (j / 2) * 4 + (hx (nx n (j / 2)) - hx (j / 2)) * _ + 4 * a
    rw [s]; grind
  · show (hy (j / 2) + b) * 4 + (hy (nx n (j / 2)) + b - (hy (j / 2) + b)) * _ = hy (j / 2) * 4 + (hy (nx n (j / 2)) - hy (j / 2)) * _ + 4 * b
    rw [s]; grind
  · show (hz (j / 2) + c) * 4 + (hz (nx n (j / 2)) + c - (hz (j / 2) + c)) * _ = hz (j / 2) * 4 + (hz (nx n (j / 2)) - hz (j / 2)) * _ + 4 * c
    rw [s]; grind
theorem apart_dy {n m : Nat} {ax ay az bx by' bz : Nat → Int} (h1 : ∀ k, (ax k).natAbs ≤ 136) (h2 : ∀ k, (ay k).natAbs ≤ 136) (h3 : ∀ k, (az k).natAbs ≤ 136) (g1 : ∀ k, (bx k - 448).natAbs ≤ 128) (g2 : ∀ k, (by' k).natAbs ≤ 128) (g3 : ∀ k, (bz k).natAbs ≤ 128) (N M : Nat) : Apzs (pzA n ax ay az) (pzA m bx by' bz) N M := fun i j _ _ => by
  have x1 := pz_3 (n := n) (hx := ax) (hy := ay) (hz := az) (lo := -136) (hi := 136) (fun k => by have := h1 k; omega) i
  have x2 := pz_4 (n := n) (hx := ax) (hy := ay) (hz := az) (lo := -136) (hi := 136) (fun k => by have := h2 k; omega) i
  have x3 := pz_5 (n := n) (hx := ax) (hy := ay) (hz := az) (lo := -136) (hi := 136) (fun k => by have := h3 k; omega) i
  have y1 := pz_3 (n := m) (hx := bx) (hy := by') (hz := bz) (lo := 320) (hi := 576) (fun k => by have := g1 k; omega) j
  have y2 := pz_4 (n := m) (hx := bx) (hy := by') (hz := bz) (lo := -128) (hi := 128) (fun k => by have := g2 k; omega) j
  have y3 := pz_5 (n := m) (hx := bx) (hy := by') (hz := bz) (lo := -128) (hi := 128) (fun k => by have := g3 k; omega) j
  exact ⟨by omega, by omega, by omega, by omega⟩
theorem apart_768 {n m : Nat} {ax ay az bx by' bz : Nat → Int} (h1 : ∀ k, (ax k).natAbs ≤ 128) (g1 : ∀ k, (bx k - 448).natAbs ≤ 128) (i j : Nat) : 768 ≤ (pzA n ax ay az i 3 - pzA m bx by' bz j 3).natAbs := by
  have x1 := pz_3 (n := n) (hx := ax) (hy := ay) (hz := az) (lo := -128) (hi := 128) (fun k => by have := h1 k; omega) i
  have y1 := pz_3 (n := m) (hx := bx) (hy := by') (hz := bz) (lo := 320) (hi := 576) (fun k => by have := g1 k; omega) j
  omega
theorem Apzs.swap {A B : Nat → Nat → Int} {n m : Nat} (h : Apzs A B n m) : Apzs B A m n := fun i j hi hj => by
  have := (h j i hj hi).neg
  rw [Int.neg_sub, Int.neg_sub, Int.neg_sub] at this
  exact this
end Go.Fw.E1

/-
  Potentials and forces of wires of 64ths, in numbers.
-/
namespace Go.Fw.E1
open Go.Proofs
section
variable {p q : Nat → Nat → Nat} {n m : Nat} {A B : Nat → Nat → Int} {la lb : Nat → Rat} (hn : 0 < n) (hm : 0 < m) (hnm : n * m ≤ 144) (hp : Pzs p n A la) (hq : Pzs q m B lb) (hd : Apzs A B n m) (hL : rsum la n * rsum lb m ≤ 1000000)
include hn hm hnm hp hq hd hL
theorem pot_w : ∃ l, Lz A B n m l ∧ ∃ v, Val .f32 (psOut p q (can .f32 0) m (can .f32 0) n) v ∧ Near (v - dsum (fun i j => Wz A B i j * (1 / l i j)) n m) (1 / 160000 * (rsum la n * rsum lb m)) := by
  have z : Val .f32 (can .f32 0) 0 := Val.of_vof (by decide +kernel)
  refine pot_sum (I := fun k s i => psIn (p k 0) (p k 1) (p k 2) (p k 3) (p k 4) (p k 5) q (can .f32 0) s i) (O := psOut p q (can .f32 0) m (can .f32 0)) (Q := fun k i => fop .add .f32 (dqW p q k i) (fop .mul .f32 (can .f32 0) (can .f32 0))) hn hm hnm hp hq hd hL (fun k i hk hi => ?_) (fun _ _ => rfl) (fun k s i hk hi ⟨l, l1, l0⟩ => ?_) (fun _ => rfl) z
  · have d := dq_z hp hq hd hk hi
    have t := (c0_dy 8 (by decide)).mul (c0_dy 8 (by decide)) (by decide) (by decide)
    rw [Int.mul_zero] at t
    have b := (hd k i hk hi).sq
    have := d.add t (by omega)
    rw [Int.add_zero] at this
    exact this
  · have l1 : Val .f32 (psR (p k 3) (p k 4) (p k 5) q (can .f32 0) i) l := l1
    have c : psC (p k 3) (p k 4) (p k 5) q (can .f32 0) i = true := by
      unfold psC
      rw [forder_gt l1 z l0]
      rfl
    exact psIn_t c
theorem force_w : ∃ l, Lz A B n m l ∧ ∃ x y z, Val .f32 (foX p q m 0 n) x ∧ Val .f32 (foY p q m 0 n) y ∧ Val .f32 (foZ p q m 0 n) z ∧ Near (x - dsum (fun i j => -(Wz A B i j * Dz A B 3 i j * Iz A B l i j)) n m) (1 / 400000 * (rsum la n * rsum lb m)) ∧
      Near (y - dsum (fun i j => -(Wz A B i j * Dz A B 4 i j * Iz A B l i j)) n m) (1 / 400000 * (rsum la n * rsum lb m)) ∧ Near (z - dsum (fun i j => -(Wz A B i j * Dz A B 5 i j * Iz A B l i j)) n m) (1 / 400000 * (rsum la n * rsum lb m)) := by
  have z : Val .f32 (can .f32 0) 0 := Val.of_vof (by decide +kernel)
  have z0 : Val .f32 0 0 := Val.of_vof (by decide +kernel)
  refine force_sum (IX := fun k s i => fbX (p k 0) (p k 1) (p k 2) (p k 3) (p k 4) (p k 5) q s i) (IY := fun k s i => fbY (p k 0) (p k 1) (p k 2) (p k 3) (p k 4) (p k 5) q s i) (IZ := fun k s i => fbZ (p k 0) (p k 1) (p k 2) (p k 3) (p k 4) (p k 5) q s i) (OX := foX p q m 0) (OY := foY p q m 0) (OZ := foZ p q m 0) hn hm hnm hp hq hd hL (fun _ _ => ⟨rfl, rfl, rfl⟩) (fun k s i hk hi ⟨S, S1, S0⟩ => ?_) (fun _ => ⟨rfl, rfl, rfl⟩) ⟨z0, z0, z0⟩
  have S1 : Val .f32 (fbQ (p k 3) (p k 4) (p k 5) q i) S := S1
  have c : fbC (p k 3) (p k 4) (p k 5) q i = true := by
    unfold fbC
    rw [forder_gt S1 z S0]
    rfl
  exact ⟨fbX_t c, fbY_t c, fbZ_t c⟩
end
structure Fo (fx fy fz gx gy gz pm pl : Nat) (Ex Ey Ez M La Lb vfx vfy vfz vgx vgy vgz vm vl : Rat) : Prop where
  f1 : Val .f32 fx vfx
  f2 : Val .f32 fy vfy
  f3 : Val .f32 fz vfz
  g1 : Val .f32 gx vgx
  g2 : Val .f32 gy vgy
  g3 : Val .f32 gz vgz
  m : Val .f32 pm vm
  l : Val .f32 pl vl
  nf1 : Near (vfx - Ex) (1 / 400000 * (La * Lb))
  nf2 : Near (vfy - Ey) (1 / 400000 * (La * Lb))
  nf3 : Near (vfz - Ez) (1 / 400000 * (La * Lb))
  ng1 : Near (vgx + Ex) (1 / 280000 * (La * Lb))
  ng2 : Near (vgy + Ey) (1 / 280000 * (La * Lb))
  ng3 : Near (vgz + Ez) (1 / 280000 * (La * Lb))
  nm : Near (vm - vl - M) (1 / 80000 * (La * Lb))
  e1 : Near Ex (1 / 8 * (La * Lb))
  e2 : Near Ey (1 / 8 * (La * Lb))
  e3 : Near Ez (1 / 8 * (La * Lb))
  em : Near M (7 / 10 * (La * Lb))
  el : Near vl (36 / 100 * (La * Lb))
  a0 : 0 ≤ La
  b0 : 0 ≤ Lb
  a9 : La ≤ 91
  b9 : Lb ≤ 91
theorem dsum_lin (f g h : Nat → Nat → Rat) (a b c : Rat) (n m : Nat) : dsum (fun i j => a * f i j + b * g i j + c * h i j) n m = a * dsum f n m + b * dsum g n m + c * dsum h n m := by
  rw [dsum_add, dsum_add, dsum_mul, dsum_mul, dsum_mul]
theorem e_near {n m : Nat} {A B : Nat → Nat → Int} {la lb : Nat → Rat} {l : Nat → Nat → Rat} (hl : Lz A B n m l) (hW : ∀ i j, i < n → j < m → Near (Wz A B i j) (la i * lb j)) (c : Nat) (hc : c = 3 ∨ c = 4 ∨ c = 5) : Near (dsum (fun i j => -(Wz A B i j * Dz A B c i j * Iz A B l i j)) n m) (1 / 8 * (rsum la n * rsum lb m)) := by
  rw [← dsum_prod, ← dsum_mul]
  refine dsum_nearF fun i j hi hj => ?_
  obtain ⟨a1, a2, a3, a4, a5⟩ := hl i j hi hj
  have hI := Iz_mul hl hi hj
  have D : Near (Dz A B c i j) (101 / 100 * l i j) := by
    obtain ⟨h3, h4, h5⟩ := Dz_near hl hi hj
    rcases hc with rfl | rfl | rfl
    · exact h3
    · exact h4
    · exact h5
  have W := hW i j hi hj
  have c0 : (0 : Rat) < 287 / 100 := by decide +kernel
  have l0 : 0 < l i j := by grind
  have S0 : 0 < Sz A B i j := by
    have : (0 : Rat) < 826 / 100 := by decide +kernel
    grind
  have I0 : 0 ≤ Iz A B l i j := by
    refine Rat.le_of_mul_le_mul_right (c := Sz A B i j * l i j) ?_ (Rat.mul_pos S0 l0)
    rw [hI, Rat.zero_mul]; decide
  have il : Iz A B l i j * l i j ≤ 122 / 1000 := by
    refine Rat.le_of_mul_le_mul_right (c := Sz A B i j) ?_ S0
    have : Iz A B l i j * l i j * Sz A B i j = 1 := by rw [← hI]; grind
    rw [this]
    have := Rat.mul_le_mul_of_nonneg_left a4 (show (0 : Rat) ≤ 122 / 1000 by decide +kernel)
    have : (1 : Rat) ≤ 122 / 1000 * (826 / 100) := by decide +kernel
    grind
  have k := (W.mul D).mul (show Near (Iz A B l i j) (Iz A B l i j) by unfold Near; constructor <;> grind)
  refine k.neg.mono ?_
  have Y0 := W.nonneg
  have h1 := Rat.mul_le_mul_of_nonneg_left il (show 0 ≤ la i * lb j * (101 / 100) from Rat.mul_nonneg Y0 (by decide +kernel))
  have h2 : (101 / 100 : Rat) * (122 / 1000) ≤ 1 / 8 := by decide +kernel
  have h2 := Rat.mul_le_mul_of_nonneg_left h2 Y0
  grind
theorem p_near {n m : Nat} {A B : Nat → Nat → Int} {la lb : Nat → Rat} {l : Nat → Nat → Rat} (hl : Lz A B n m l) (hW : ∀ i j, i < n → j < m → Near (Wz A B i j) (la i * lb j)) : Near (dsum (fun i j => Wz A B i j * (1 / l i j)) n m) (349 / 1000 * (rsum la n * rsum lb m)) := by
  rw [← dsum_prod, ← dsum_mul]
  refine dsum_nearF fun i j hi hj => ?_
  obtain ⟨a1, _⟩ := hl i j hi hj
  have l0 : 0 < l i j := by
    have : (0 : Rat) < 287 / 100 := by decide +kernel
    grind
  have hI : 1 / l i j * l i j = 1 := Rat.div_mul_cancel (by grind)
  have I0 : 0 ≤ 1 / l i j := by
    refine Rat.le_of_mul_le_mul_right (c := l i j) ?_ l0
    rw [hI, Rat.zero_mul]; decide
  have I1 : 1 / l i j ≤ 349 / 1000 := by
    refine Rat.le_of_mul_le_mul_right (c := l i j) ?_ l0
    rw [hI]
    have := Rat.mul_le_mul_of_nonneg_left a1 (show (0 : Rat) ≤ 349 / 1000 by decide +kernel)
    have : (1 : Rat) ≤ 349 / 1000 * (287 / 100) := by decide +kernel
    grind
  have k := (hW i j hi hj).mul (show Near (1 / l i j) (349 / 1000) by unfold Near; constructor <;> grind)
  rw [Rat.mul_comm (la i * lb j)] at k
  exact k
section
variable {n m : Nat} {x y z u v w : Nat → Nat} {ax ay az bx by' bz : Nat → Int} {i j k : Nat}
  (hx : Qh x ax) (hy : Qh y ay) (hz : Qh z az) (hu : Qh u bx) (hv : Qh v by') (hw : Qh w bz) (n2 : 2 ≤ n) (n6 : n ≤ 6) (m2 : 2 ≤ m) (m6 : m ≤ 6) (hi : i < 17) (hj : j < 17) (hk : k < 17)
include hx hy hz hu hv hw n2 n6 m2 m6 hi hj hk
theorem forces (cl dl : Bool) : ∃ Ex Ey Ez M La Lb vfx vfy vfz vgx vgy vgz vm vl la lb : Rat,
    Fo (foX (pc (sg n x y z) 2) (pc (sg m (adX V7 u) (adX 0 v) (adX 0 w)) 2) (2 * cnt m dl) 0 (2 * cnt n cl)) (foY (pc (sg n x y z) 2) (pc (sg m (adX V7 u) (adX 0 v) (adX 0 w)) 2) (2 * cnt m dl) 0 (2 * cnt n cl)) (foZ (pc (sg n x y z) 2) (pc (sg m (adX V7 u) (adX 0 v) (adX 0 w)) 2) (2 * cnt m dl) 0 (2 * cnt n cl))
      (foX (pc (sg m (adX V7 u) (adX 0 v) (adX 0 w)) 2) (pc (sg n x y z) 2) (2 * cnt n cl) 0 (2 * cnt m dl)) (foY (pc (sg m (adX V7 u) (adX 0 v) (adX 0 w)) 2) (pc (sg n x y z) 2) (2 * cnt n cl) 0 (2 * cnt m dl)) (foZ (pc (sg m (adX V7 u) (adX 0 v) (adX 0 w)) 2) (pc (sg n x y z) 2) (2 * cnt n cl) 0 (2 * cnt m dl))
      (psW n (stX (qw i) STP x) (stX (qw j) STP y) (stX (qw k) STP z) cl m (adX V7 u) (adX 0 v) (adX 0 w) dl (can .f32 0) 2) (psW n (stX (qw i) (fneg .f32 STP) x) (stX (qw j) (fneg .f32 STP) y) (stX (qw k) (fneg .f32 STP) z) cl m (adX V7 u) (adX 0 v) (adX 0 w) dl (can .f32 0) 2)
      Ex Ey Ez M La Lb vfx vfy vfz vgx vgy vgz vm vl ∧ Near (8 * M - (Ex * Go.Fw.vl (qw i) + Ey * Go.Fw.vl (qw j) + Ez * Go.Fw.vl (qw k))) (18 / 10000 * (La * Lb)) ∧
    Val .f32 (lenW n x y z cl) la ∧ Val .f32 (lenW m (adX V7 u) (adX 0 v) (adX 0 w) dl) lb ∧ Near la 90 ∧ Near lb 90 ∧ La ≤ la * (1 + 1 / 500000) + 11 / 100000 ∧ Lb ≤ lb * (1 + 1 / 500000) + 11 / 100000 := by
  have vq : ∀ {i : Nat}, i < 17 → Go.Fw.vl (qw i) = (((i : Int) - 8 : Int) : Rat) * (1 / 4) := fun h => vl_eq (qw_qt h)
  have cn : 1 ≤ cnt n cl := by cases cl <;> (show 1 ≤ _; first | exact (show 1 ≤ n - 1 by omega) | exact (show 1 ≤ n by omega))
  have cm : 1 ≤ cnt m dl := by cases dl <;> (show 1 ≤ _; first | exact (show 1 ≤ m - 1 by omega) | exact (show 1 ≤ m by omega))
  have N0 : 0 < 2 * cnt n cl := by omega
  have M0 : 0 < 2 * cnt m dl := by omega
  have N12 : 2 * cnt n cl ≤ 12 := by have := cnt_le n cl; omega
  have M12 : 2 * cnt m dl ≤ 12 := by have := cnt_le m dl; omega
  have NM : 2 * cnt n cl * (2 * cnt m dl) ≤ 144 := Nat.mul_le_mul N12 M12
  have MN : 2 * cnt m dl * (2 * cnt n cl) ≤ 144 := Nat.mul_le_mul M12 N12
  have Pa := pieces_dy hx.hz hy.hz hz.hz (lam_dy (n := n) hx.hz hy.hz hz.hz) (2 * cnt n cl)
  have Pb := pieces_dy hu.far hv.stay hw.stay (lam_dy (n := m) hu.far hv.stay hw.stay) (2 * cnt m dl)
  have shp := fun t => pz_shift (n := n) (hx := ax) (hy := ay) (hz := az) ((i : Int) - 8) ((j : Int) - 8) ((k : Int) - 8) t
  have shm := fun t => pz_shift (n := n) (hx := ax) (hy := ay) (hz := az) (-((i : Int) - 8)) (-((j : Int) - 8)) (-((k : Int) - 8)) t
  have em : ∀ (h : Nat → Int) (a : Int), (fun k => h k - a) = fun k => h k + -a := fun h a => funext fun k => by omega
  have P1 := pieces_dy (n := n) (hx.step hi) (hy.step hj) (hz.step hk) (lam := lamW n 2 x y z) (fun t => by
    obtain ⟨h0, h1, h2, _⟩ := shp t
    rw [h0, h1, h2]
    exact lam_dy hx.hz hy.hz hz.hz t) (2 * cnt n cl)
  have P2 := pieces_dy (n := n) (hx.back hi) (hy.back hj) (hz.back hk) (lam := lamW n 2 x y z) (fun t => by
    rw [em ax, em ay, em az]
    obtain ⟨h0, h1, h2, _⟩ := shm t
    rw [h0, h1, h2]
    exact lam_dy hx.hz hy.hz hz.hz t) (2 * cnt n cl)
  obtain ⟨la, a1, a2, a3, a4, a5⟩ := len_dy (n := n) hx.hz hy.hz hz.hz n6 cl
  obtain ⟨lb, b1, b2, b3, b4, b5⟩ := len_dy (n := m) hu.far hv.stay hw.stay m6 dl
  have bd : ∀ {h : Nat → Int} {x : Nat → Nat}, Qh x h → ∀ k, (h k).natAbs ≤ 136 := fun H k => by have := (H k).2; omega
  have bs : ∀ {h : Nat → Int} {x : Nat → Nat} {v : Nat}, Qh x h → v < 17 → ∀ k, (h k + ((v : Int) - 8)).natAbs ≤ 136 := fun H hv k => by have := (H k).2; omega
  have bm : ∀ {h : Nat → Int} {x : Nat → Nat} {v : Nat}, Qh x h → v < 17 → ∀ k, (h k - ((v : Int) - 8)).natAbs ≤ 136 := fun H hv k => by have := (H k).2; omega
  have g1 : ∀ k, (bx k + 448 - 448).natAbs ≤ 128 := fun k => by have := (hu k).2; omega
  have g2 : ∀ k, (by' k).natAbs ≤ 128 := fun k => (hv k).2
  have g3 : ∀ k, (bz k).natAbs ≤ 128 := fun k => (hw k).2
  have D0 := apart_dy (n := n) (m := m) (bx := fun k => bx k + 448) (bd hx) (bd hy) (bd hz) g1 g2 g3 (2 * cnt n cl) (2 * cnt m dl)
  have D1 := apart_dy (n := n) (m := m) (bx := fun k => bx k + 448) (bs hx hi) (bs hy hj) (bs hz hk) g1 g2 g3 (2 * cnt n cl) (2 * cnt m dl)
  have D2 := apart_dy (n := n) (m := m) (bx := fun k => bx k + 448) (bm hx hi) (bm hy hj) (bm hz hk) g1 g2 g3 (2 * cnt n cl) (2 * cnt m dl)
  have X768 := apart_768 (n := n) (m := m) (ax := ax) (ay := ay) (az := az) (bx := fun k => bx k + 448) (by' := by') (bz := bz) (fun k => (hx k).2) g1
  have LM : ∀ {p q : Rat}, 0 ≤ p → p ≤ 91 → 0 ≤ q → q ≤ 91 → p * q ≤ 1000000 := fun {p q} h1 h2 h3 h4 => by
    have := Rat.mul_le_mul_of_nonneg_right h2 h3
    have := Rat.mul_le_mul_of_nonneg_left h4 (show (0 : Rat) ≤ 91 by decide)
    have : (91 * 91 : Rat) ≤ 1000000 := by decide +kernel
    grind
  have hW : ∀ s t, s < 2 * cnt n cl → t < 2 * cnt m dl → Near (Wz (pzA n ax ay az) (pzA m (fun k => bx k + 448) by' bz) s t) (lamW n 2 x y z s * lamW m 2 (adX V7 u) (adX 0 v) (adX 0 w) t) := fun s t hs ht => (dot_z (Pa s hs) (Pb t ht)).2.1
  have hW1 : ∀ s t, s < 2 * cnt n cl → t < 2 * cnt m dl → Near (Wz (pzA n (fun k => ax k + ((i : Int) - 8)) (fun k => ay k + ((j : Int) - 8)) (fun t => az t + ((k : Int) - 8))) (pzA m (fun k => bx k + 448) by' bz) s t) (lamW n 2 x y z s * lamW m 2 (adX V7 u) (adX 0 v) (adX 0 w) t) := fun s t hs ht => (dot_z (P1 s hs) (Pb t ht)).2.1
  have hW2 : ∀ s t, s < 2 * cnt n cl → t < 2 * cnt m dl → Near (Wz (pzA n (fun k => ax k - ((i : Int) - 8)) (fun k => ay k - ((j : Int) - 8)) (fun t => az t - ((k : Int) - 8))) (pzA m (fun k => bx k + 448) by' bz) s t) (lamW n 2 x y z s * lamW m 2 (adX V7 u) (adX 0 v) (adX 0 w) t) := fun s t hs ht => (dot_z (P2 s hs) (Pb t ht)).2.1
  obtain ⟨l, l1, fx, fy, fz, F1, F2, F3, F4, F5, F6⟩ := force_w N0 M0 NM Pa Pb D0 (LM a4 a5 b4 b5)
  obtain ⟨l', l1', gx, gy, gz, G1, G2, G3, G4, G5, G6⟩ := force_w M0 N0 MN Pb Pa (Apzs.swap D0) (LM b4 b5 a4 a5)
  obtain ⟨lp, lp1, vm, m1, m2'⟩ := pot_w N0 M0 NM P1 Pb D1 (LM a4 a5 b4 b5)
  obtain ⟨lq, lq1, vl, q1, q2⟩ := pot_w N0 M0 NM P2 Pb D2 (LM a4 a5 b4 b5)
  have B3 := force_back hW l1 l1' 3 (.inl rfl)
  have B4 := force_back hW l1 l1' 4 (.inr (.inl rfl))
  have B5 := force_back hW l1 l1' 5 (.inr (.inr rfl))
  have E3 := e_near l1 hW 3 (.inl rfl)
  have E4 := e_near l1 hW 4 (.inr (.inl rfl))
  have E5 := e_near l1 hW 5 (.inr (.inr rfl))
  have Q1 := p_near lp1 hW1
  have Q2 := p_near lq1 hW2
  have al := along_sum (A1 := pzA n (fun k => ax k + ((i : Int) - 8)) (fun k => ay k + ((j : Int) - 8)) (fun t => az t + ((k : Int) - 8))) (A2 := pzA n (fun k => ax k - ((i : Int) - 8)) (fun k => ay k - ((j : Int) - 8)) (fun t => az t - ((k : Int) - 8))) (vx := (i : Int) - 8) (vy := (j : Int) - 8) (vz := (k : Int) - 8) hW (fun s t _ _ => X768 s t) (by omega) (by omega) (by omega) shp (fun t => by
    rw [em ax, em ay, em az]
    obtain ⟨h0, h1, h2, h3, h4, h5⟩ := shm t
    exact ⟨h0, h1, h2, by rw [h3]; omega, by rw [h4]; omega, by rw [h5]; omega⟩) l1 lp1 lq1
  have eal : dsum (fun s t => Wz (pzA n ax ay az) (pzA m (fun k => bx k + 448) by' bz) s t * (Dz (pzA n ax ay az) (pzA m (fun k => bx k + 448) by' bz) 3 s t * ((((i : Int) - 8 : Int) : Rat) * (1 / 4)) + Dz (pzA n ax ay az) (pzA m (fun k => bx k + 448) by' bz) 4 s t * ((((j : Int) - 8 : Int) : Rat) * (1 / 4)) + Dz (pzA n ax ay az) (pzA m (fun k => bx k + 448) by' bz) 5 s t * ((((k : Int) - 8 : Int) : Rat) * (1 / 4))) * Iz (pzA n ax ay az) (pzA m (fun k => bx k + 448) by' bz) l s t) (2 * cnt n cl) (2 * cnt m dl) = dsum (fun s t => -((((i : Int) - 8 : Int) : Rat) * (1 / 4)) * -(Wz (pzA n ax ay az) (pzA m (fun k => bx k + 448) by' bz) s t * Dz (pzA n ax ay az) (pzA m (fun k => bx k + 448) by' bz) 3 s t * Iz (pzA n ax ay az) (pzA m (fun k => bx k + 448) by' bz) l s t) + -((((j : Int) - 8 : Int) : Rat) * (1 / 4)) * -(Wz (pzA n ax ay az) (pzA m (fun k => bx k + 448) by' bz) s t * Dz (pzA n ax ay az) (pzA m (fun k => bx k + 448) by' bz) 4 s t * Iz (pzA n ax ay az) (pzA m (fun k => bx k + 448) by' bz) l s t) + -((((k : Int) - 8 : Int) : Rat) * (1 / 4)) * -(Wz (pzA n ax ay az) (pzA m (fun k => bx k + 448) by' bz) s t * Dz (pzA n ax ay az) (pzA m (fun k => bx k + 448) by' bz) 5 s t * Iz (pzA n ax ay az) (pzA m (fun k => bx k + 448) by' bz) l s t)) (2 * cnt n cl) (2 * cnt m dl) := dsum_congr fun s t _ _ => by grind
  rw [eal, dsum_lin] at al
  rw [vq hi, vq hj, vq hk]
  rw [Rat.mul_comm (rsum (lamW m 2 (adX V7 u) (adX 0 v) (adX 0 w)) (2 * cnt m dl))] at G4 G5 G6
  generalize dsum (fun s t => -(Wz (pzA n ax ay az) (pzA m (fun k => bx k + 448) by' bz) s t * Dz (pzA n ax ay az) (pzA m (fun k => bx k + 448) by' bz) 3 s t * Iz (pzA n ax ay az) (pzA m (fun k => bx k + 448) by' bz) l s t)) (2 * cnt n cl) (2 * cnt m dl) = Ex at *
  generalize dsum (fun s t => -(Wz (pzA n ax ay az) (pzA m (fun k => bx k + 448) by' bz) s t * Dz (pzA n ax ay az) (pzA m (fun k => bx k + 448) by' bz) 4 s t * Iz (pzA n ax ay az) (pzA m (fun k => bx k + 448) by' bz) l s t)) (2 * cnt n cl) (2 * cnt m dl) = Ey at *
  generalize dsum (fun s t => -(Wz (pzA n ax ay az) (pzA m (fun k => bx k + 448) by' bz) s t * Dz (pzA n ax ay az) (pzA m (fun k => bx k + 448) by' bz) 5 s t * Iz (pzA n ax ay az) (pzA m (fun k => bx k + 448) by' bz) l s t)) (2 * cnt n cl) (2 * cnt m dl) = Ez at *
  generalize dsum (fun s t => Wz (pzA n (fun k => ax k + ((i : Int) - 8)) (fun k => ay k + ((j : Int) - 8)) (fun t => az t + ((k : Int) - 8))) (pzA m (fun k => bx k + 448) by' bz) s t * (1 / lp s t)) (2 * cnt n cl) (2 * cnt m dl) = Mp at *
  generalize dsum (fun s t => Wz (pzA n (fun k => ax k - ((i : Int) - 8)) (fun k => ay k - ((j : Int) - 8)) (fun t => az t - ((k : Int) - 8))) (pzA m (fun k => bx k + 448) by' bz) s t * (1 / lq s t)) (2 * cnt n cl) (2 * cnt m dl) = Mq at *
  generalize rsum (lamW n 2 x y z) (2 * cnt n cl) = La at *
  generalize rsum (lamW m 2 (adX V7 u) (adX 0 v) (adX 0 w)) (2 * cnt m dl) = Lb at *
  have Y0 : 0 ≤ La * Lb := Rat.mul_nonneg a4 b4
  have k28 : (1 / 400000 : Rat) + 1 / 1000000 ≤ 1 / 280000 := by decide +kernel
  have k28 := Rat.mul_le_mul_of_nonneg_right k28 Y0
  have k8 : (1 / 160000 : Rat) + 1 / 160000 ≤ 1 / 80000 := by decide +kernel
  have k8 := Rat.mul_le_mul_of_nonneg_right k8 Y0
  have k7 : (349 / 1000 : Rat) + 349 / 1000 ≤ 7 / 10 := by decide +kernel
  have k7 := Rat.mul_le_mul_of_nonneg_right k7 Y0
  have k36 : (349 / 1000 : Rat) + 1 / 160000 ≤ 36 / 100 := by decide +kernel
  have k36 := Rat.mul_le_mul_of_nonneg_right k36 Y0
  have gb : ∀ {g G E : Rat}, Near (g - G) (1 / 400000 * (La * Lb)) → Near (E + G) (1 / 1000000 * (La * Lb)) → Near (g + E) (1 / 280000 * (La * Lb)) := fun {g G E} h1 h2 => by
    have := h1.add h2
    rw [show g - G + (E + G) = g + E by grind] at this
    exact this.mono (by grind)
  refine ⟨Ex, Ey, Ez, Mp - Mq, La, Lb, fx, fy, fz, gx, gy, gz, vm, vl, la, lb, ⟨F1, F2, F3, G1, G2, G3, m1, q1, F4, F5, F6, gb G4 B3, gb G5 B4, gb G6 B5, ?_, E3, E4, E5, (Q1.sub Q2).mono (by grind), ?_, a4, b4, a5, b5⟩, ?_, a1, b1, a2, b2, a3, b3⟩
  · have := m2'.sub q2
    rw [show vm - Mp - (vl - Mq) = vm - vl - (Mp - Mq) by grind] at this
    exact this.mono (by grind)
  · exact (near_of q2 Q2).mono (by grind)
  · have e : 8 * (Mp - Mq) - (Ex * ((((i : Int) - 8 : Int) : Rat) * (1 / 4)) + Ey * ((((j : Int) - 8 : Int) : Rat) * (1 / 4)) + Ez * ((((k : Int) - 8 : Int) : Rat) * (1 / 4))) = 8 * (Mp - Mq) + (-((((i : Int) - 8 : Int) : Rat) * (1 / 4)) * Ex + -((((j : Int) - 8 : Int) : Rat) * (1 / 4)) * Ey + -((((k : Int) - 8 : Int) : Rat) * (1 / 4)) * Ez) := by grind
    rw [e]
    exact al
end
end Go.Fw.E1

/-
  The law of forces: action and reaction, and the way's work.
-/
namespace Go.Fw.E1
open Go.Proofs
theorem Hz.vs {x : Nat → Nat} {h : Nat → Int} (H : Hz x h) : Vs x := fun k => ⟨_, (H k).1.val⟩
theorem sz9_val {wa wb : Nat} {a b : Rat} (ha : Val .f32 wa a) (hb : Val .f32 wb b) (na : Near a 90) (nb : Near b 90) : ∃ s, Val .f64 (sz9 wa wb) s ∧ Near (s - (1 + 4 * (a * b))) (1 / 1000000) := by
  have k1 : (4 * 90 : Rat) * ur .f64 + tiny .f64 ≤ 1 / 2 ^ 43 := by decide +kernel
  have k2 : ((4 * 90 + 1 / 2 ^ 43) * 90 : Rat) * ur .f64 + tiny .f64 ≤ 1 / 2 ^ 36 := by decide +kernel
  have k3 : (1 / 2 ^ 43 * 90 + 1 / 2 ^ 36 : Rat) ≤ 1 / 2 ^ 34 := by decide +kernel
  have k4 : (1 + (4 * (90 * 90) + 1 / 2 ^ 34) : Rat) * ur .f64 + tiny .f64 + 1 / 2 ^ 34 ≤ 1 / 1000000 := by decide +kernel
  have n4 : Near (4 : Rat) 4 := by unfold Near; constructor <;> grind
  obtain ⟨d, d1, d2⟩ := four64.mul ha.widen (n4.mul na) (by decide +kernel)
  have d2 := d2.mono k1
  have dn := near_of d2 (n4.mul na)
  obtain ⟨e, e1, e2⟩ := d1.mul hb.widen (dn.mul nb) (by decide +kernel)
  have e2 := e2.mono k2
  have e3 : Near (e - 4 * (a * b)) (1 / 2 ^ 34) := by
    have := e2.add (d2.mul nb)
    rw [show e - d * b + (d - 4 * a) * b = e - 4 * (a * b) by grind] at this
    exact this.mono (by rw [Rat.add_comm]; exact k3)
  have en := near_of e3 (n4.mul (na.mul nb))
  have n1 : Near (1 : Rat) 1 := by unfold Near; constructor <;> grind
  obtain ⟨s, s1, s2⟩ := one64.add e1 (n1.add en) (by decide +kernel)
  refine ⟨s, s1, ?_⟩
  have := s2.add e3
  rw [show s - (1 + e) + (e - 4 * (a * b)) = s - (1 + 4 * (a * b)) by grind] at this
  exact this.mono k4
theorem size9_le {La Lb a b s : Rat} (a0 : 0 ≤ La) (b0 : 0 ≤ Lb) (na : Near a 90) (nb : Near b 90) (ha : La ≤ a * (1 + 1 / 500000) + 11 / 100000) (hb : Lb ≤ b * (1 + 1 / 500000) + 11 / 100000) (hs : Near (s - (1 + 4 * (a * b))) (1 / 1000000)) :
    La * Lb ≤ 251 / 1000 * s ∧ 1 / 2 ≤ s ∧ s ≤ 1000000 := by
  have e0 : (0 : Rat) ≤ 1 / 500000 := by decide +kernel
  have d0 : (0 : Rat) ≤ 11 / 100000 := by decide +kernel
  have lo : ∀ {t L : Rat}, 0 ≤ L → L ≤ t * (1 + 1 / 500000) + 11 / 100000 → 0 ≤ t + 11 / 100000 := fun {t L} h h' => by
    by_cases g : 0 ≤ t + 11 / 100000
    · exact g
    · have := Rat.mul_le_mul_of_nonneg_right (show t ≤ 0 by grind) e0
      grind
  have ab := Rat.mul_nonneg (lo a0 ha) (lo b0 hb)
  have sm : a + b ≤ 180 := by unfold Near at na nb; grind
  have sd := Rat.mul_le_mul_of_nonneg_right sm d0
  have kd : (180 * (11 / 100000) + 11 / 100000 * (11 / 100000) : Rat) ≤ 2 / 100 := by decide +kernel
  have ab : 0 ≤ a * b + 2 / 100 := by grind
  have nab := na.mul nb
  have kh : (1 / 1000000 : Rat) + 4 * (2 / 100) ≤ 1 / 2 := by decide +kernel
  have kh2 : (1 / 2 : Rat) * 2 = 1 := by decide +kernel
  have kh3 : (1 / 1000000 : Rat) ≤ 1 := by decide +kernel
  refine ⟨?_, by unfold Near at hs; grind, by unfold Near at hs nab; grind⟩
  have h1 := Rat.mul_le_mul_of_nonneg_right ha b0
  have h2 := Rat.mul_le_mul_of_nonneg_left hb (show 0 ≤ a * (1 + 1 / 500000) + 11 / 100000 by grind)
  have e : (a * (1 + 1 / 500000) + 11 / 100000) * (b * (1 + 1 / 500000) + 11 / 100000) = (1 + 1 / 500000) * (1 + 1 / 500000) * (a * b) + (1 + 1 / 500000) * (11 / 100000) * (a + b) + 11 / 100000 * (11 / 100000) := by grind
  rw [e] at h2
  have h3 : (1 + 1 / 500000) * (11 / 100000) * (a + b) ≤ (1 + 1 / 500000) * (11 / 100000) * 180 := Rat.mul_le_mul_of_nonneg_left sm (by decide +kernel)
  have h4 := Rat.mul_le_mul_of_nonneg_right (show (1 + 1 / 500000) * (1 + 1 / 500000) ≤ (4 * (251 / 1000) : Rat) by decide +kernel) ab
  have h5 : (1 + 1 / 500000) * (11 / 100000) * 180 + 11 / 100000 * (11 / 100000) + 251 / 1000 * (1 / 1000000) + 4 * (251 / 1000) * (2 / 100) - (1 + 1 / 500000) * (1 + 1 / 500000) * (2 / 100) ≤ (251 / 1000 : Rat) := by decide +kernel
  have h6 : (251 / 1000 : Rat) * (1 + 4 * (a * b)) ≤ 251 / 1000 * (s + 1 / 1000000) := Rat.mul_le_mul_of_nonneg_left (by unfold Near at hs; grind) (by decide +kernel)
  generalize a * b = T at *
  grind
theorem not_gt {x y : Nat} {a b : Rat} (hx : Val .f64 x a) (hy : Val .f64 y b) (h : a < b) : (forder .f64 x y == some .gt) = false := by
  rw [forder_lt hx hy h]; rfl
theorem long_lt {x y z S : Nat} {a b c E s : Rat} (ha : Val .f32 x a) (hb : Val .f32 y b) (hc : Val .f32 z c) (na : Near a E) (nb : Near b E) (nc : Near c E) (hS : Val .f64 S s) (s1 : 1 / 2 ≤ s) (s2 : s ≤ 1000000) (hE : E ≤ 1 / 2000 * s) :
    (forder .f64 (fcvt .f32 .f64 (long x y z)) (fop .mul .f64 (can .f64 4562254508917369340) S) == some .gt) = false := by
  have s0 := half_pos s1
  have k1 := Rat.mul_le_mul_of_nonneg_left s2 (show (0 : Rat) ≤ 1 / 2000 by decide +kernel)
  have k2 : (1 / 2000 * 1000000 : Rat) ≤ 1000000 := by decide +kernel
  obtain ⟨l, l1, l2, l3⟩ := long_near9 ha hb hc na nb nc (by grind)
  have l1 : Val .f32 (long x y z) l := l1
  obtain ⟨K, K1, K2⟩ := scale_val kMil hS (by constructor <;> decide +kernel) (near_size s1 s2)
  refine not_gt l1.widen K1 ?_
  have k3 := Rat.mul_le_mul_of_nonneg_right (show (99 / 100000 : Rat) ≤ 1152921504606847 / 2 ^ 60 by decide +kernel) s0
  have k4 : (9 / 5 * (1 / 2000) : Rat) = 9 / 10000 := by decide +kernel
  have k5 := Rat.mul_le_mul_of_nonneg_left s1 (show (0 : Rat) ≤ 9 / 100000 by decide +kernel)
  have k6 : (1 / 1000000000000 + 1 / 1000000 : Rat) < 9 / 100000 * (1 / 2) := by decide +kernel
  have k7 : (99 / 100000 : Rat) = 9 / 10000 + 9 / 100000 := by decide +kernel
  have k8 := Rat.mul_le_mul_of_nonneg_left hE (show (0 : Rat) ≤ 9 / 5 by decide +kernel)
  rw [k7] at k3
  have k9 : 9 / 5 * (1 / 2000 * s) = 9 / 10000 * s := by rw [← Rat.mul_assoc, k4]
  unfold Near at K2
  grind
theorem kTwo : Val .f64 (can .f64 4566758108544739836) (1152921504606847 / 2 ^ 59) := Val.of_vof (by decide +kernel)
theorem gap9_lt {x y S : Nat} {a b t s : Rat} (hx : Val .f64 x a) (hy : Val .f64 y b) (h : Near (a - b) t) (hS : Val .f64 S s) (s1 : 1 / 2 ≤ s) (s2 : s ≤ 1000000) (ht : t ≤ 197 / 100000 * s) : (forder .f64 (gap8 x y) (fop .mul .f64 (can .f64 4566758108544739836) S) == some .gt) = false := by
  have s0 := half_pos s1
  have k1 := Rat.mul_le_mul_of_nonneg_left s2 (show (0 : Rat) ≤ 197 / 100000 by decide +kernel)
  have k2 : (197 / 100000 * 1000000 : Rat) ≤ 1048576 := by decide +kernel
  obtain ⟨g, g1, g2⟩ := gap_valL hx hy h (by grind)
  obtain ⟨K, K1, K2⟩ := scale_val kTwo hS (by constructor <;> decide +kernel) (near_size s1 s2)
  refine not_gt g1 K1 ?_
  have k3 := Rat.mul_le_mul_of_nonneg_right (show (199 / 100000 : Rat) ≤ 1152921504606847 / 2 ^ 59 by decide +kernel) s0
  have k5 := Rat.mul_le_mul_of_nonneg_left s1 (show (0 : Rat) ≤ 2 / 100000 by decide +kernel)
  have k6 : (1 / 1000000 + 1 / 1000000 : Rat) < 2 / 100000 * (1 / 2) := by decide +kernel
  have k7 : (199 / 100000 : Rat) = 197 / 100000 + 2 / 100000 := by decide +kernel
  rw [k7] at k3
  unfold Near at K2
  grind
theorem cur_val {a b : Nat} (ha : a < 17) (hb : b < 17) : ∃ c : Rat, Val .f32 (fop .mul .f32 (qw a) (qw b)) c ∧ Val .f32 (fop .mul .f32 (qw b) (qw a)) c ∧ Near c 4 := by
  have pb : (((a : Int) - 8) * ((b : Int) - 8)).natAbs ≤ 64 := by
    rw [Int.natAbs_mul]
    exact Nat.mul_le_mul (show ((a : Int) - 8).natAbs ≤ 8 by omega) (show ((b : Int) - 8).natAbs ≤ 8 by omega)
  have d := ((qw_dy ha).mul (qw_dy hb) (by omega) (by omega)).val
  have e := ((qw_dy hb).mul (qw_dy ha) (by omega) (by rw [Int.mul_comm]; omega)).val
  rw [Int.mul_comm ((b : Int) - 8)] at e
  refine ⟨_, d, e, ?_⟩
  generalize ((a : Int) - 8) * ((b : Int) - 8) = N at *
  have h1 : ((-64 : Int) : Rat) ≤ (N : Rat) := Rat.intCast_le_intCast.2 (by omega)
  have h2 : (N : Rat) ≤ ((64 : Int) : Rat) := Rat.intCast_le_intCast.2 (by omega)
  have u0 : 0 ≤ dyu (2 + 2) := by decide +kernel
  have h3 := Rat.mul_le_mul_of_nonneg_right h1 u0
  have h4 := Rat.mul_le_mul_of_nonneg_right h2 u0
  have e1 : ((-64 : Int) : Rat) * dyu (2 + 2) = -4 := by decide +kernel
  have e2 : ((64 : Int) : Rat) * dyu (2 + 2) = 4 := by decide +kernel
  unfold Near
  grind
theorem eighth : Val .f32 (fop .mul .f32 (can .f32 1073741824) STP) (1 / 8) := by
  have t : Dy 0 (can .f32 1073741824) 2 := Dy.of_val (by decide) (Val.of_vof (by decide +kernel))
  have := (t.mul stp_dy (by decide) (by decide)).val
  have e : (((2 : Int) * 1 : Int) : Rat) * dyu (0 + 4) = 1 / 8 := by decide +kernel
  rw [e] at this
  exact this
theorem q2 {i : Nat} (h : i < 17) : Val .f32 (qw i) (Go.Fw.vl (qw i)) ∧ Near (Go.Fw.vl (qw i)) 2 := q_val (x := fun _ => qw i) (fun _ => ⟨i, h, rfl⟩) 0
theorem stp_above : above STP = true := by decide +kernel
theorem can0_least : least (can .f32 0) = true := by decide +kernel
section
variable {n m a b i j k : Nat} {x y z u v w : Nat → Nat} {ax ay az bx by' bz : Nat → Int}
  (hx : Qh x ax) (hy : Qh y ay) (hz : Qh z az) (hu : Qh u bx) (hv : Qh v by') (hw : Qh w bz) (n2 : 2 ≤ n) (n6 : n ≤ 6) (m2 : 2 ≤ m) (m6 : m ≤ 6) (ha : a < 17) (hb : b < 17) (hi : i < 17) (hj : j < 17) (hk : k < 17)
include hx hy hz hu hv hw n2 n6 m2 m6 ha hb hi hj hk
theorem ok9 : okW n (qw a) x y z = true ∧ okW m (qw b) (adX V7 u) (adX 0 v) (adX 0 w) = true ∧ movOk n (qw a) (fop .mul .f32 (qw i) STP) (fop .mul .f32 (qw j) STP) (fop .mul .f32 (qw k) STP) x y z = true ∧
    movOk n (qw a) (fop .mul .f32 (qw i) (fneg .f32 STP)) (fop .mul .f32 (qw j) (fneg .f32 STP)) (fop .mul .f32 (qw k) (fneg .f32 STP)) x y z = true := by
  have o1 := okW_vs (c := qw a) n2 n6 (fin_qw ha) hx.hz.vs hy.hz.vs hz.hz.vs
  have o2 := okW_vs (c := qw b) m2 m6 (fin_qw hb) hu.far.vs hv.stay.vs hw.stay.vs
  have o3 := okW_vs (c := qw a) n2 n6 (fin_qw ha) (hx.step hi).vs (hy.step hj).vs (hz.step hk).vs
  have o4 := okW_vs (c := qw a) n2 n6 (fin_qw ha) (hx.back hi).vs (hy.back hj).vs (hz.back hk).vs
  refine ⟨o1, o2, ?_, ?_⟩
  · unfold movOk
    have o3 : okW n (qw a) (adX (fop .mul .f32 (qw i) STP) x) (adX (fop .mul .f32 (qw j) STP) y) (adX (fop .mul .f32 (qw k) STP) z) = true := o3
    rw [o1, o3]; rfl
  · unfold movOk
    have o4 : okW n (qw a) (adX (fop .mul .f32 (qw i) (fneg .f32 STP)) x) (adX (fop .mul .f32 (qw j) (fneg .f32 STP)) y) (adX (fop .mul .f32 (qw k) (fneg .f32 STP)) z) = true := o4
    rw [o1, o4]; rfl
theorem law9AB (cl dl : Bool) : g9A n (qw a) x y z cl m (qw b) (adX V7 u) (adX 0 v) (adX 0 w) dl (qw i) (qw j) (qw k) = false ∧ g9B n (qw a) x y z cl m (qw b) (adX V7 u) (adX 0 v) (adX 0 w) dl (qw i) (qw j) (qw k) = false ∧
    fbOk n (qw a) x y z cl m (qw b) (adX V7 u) (adX 0 v) (adX 0 w) dl 2 = true ∧ fbOk m (qw b) (adX V7 u) (adX 0 v) (adX 0 w) dl n (qw a) x y z cl 2 = true ∧
    algC n (qw a) x y z cl m (qw b) (adX V7 u) (adX 0 v) (adX 0 w) dl (qw i) (qw j) (qw k) STP (can .f32 0) 2 = true ∧ lenOk n (qw a) x y z cl = true ∧ lenOk m (qw b) (adX V7 u) (adX 0 v) (adX 0 w) dl = true := by
  obtain ⟨o1, o2, o3, o4⟩ := ok9 hx hy hz hu hv hw n2 n6 m2 m6 ha hb hi hj hk
  obtain ⟨Ex, Ey, Ez, M, La, Lb, fx, fy, fz, gx, gy, gz, vm, vl', la, lb, F, al, l1, l2, nl1, nl2, b1, b2⟩ := forces hx hy hz hu hv hw n2 n6 m2 m6 hi hj hk cl dl
  obtain ⟨c, C1, C2, c4⟩ := cur_val ha hb
  have P0 : 0 ≤ La * Lb := Rat.mul_nonneg F.a0 F.b0
  have P9 : La * Lb ≤ 10000 := by
    have h1 := Rat.mul_le_mul_of_nonneg_right F.a9 F.b0
    have h2 := Rat.mul_le_mul_of_nonneg_left F.b9 (show (0 : Rat) ≤ 91 by decide)
    have h3 : (91 * 91 : Rat) ≤ 10000 := by decide +kernel
    grind
  obtain ⟨s, S1, S2⟩ := sz9_val l1 l2 nl1 nl2
  obtain ⟨ps, s1, s2⟩ := size9_le F.a0 F.b0 nl1 nl2 b1 b2 S2
  generalize hP : La * Lb = P at *
  have s0 := half_pos s1
  have nE := F.e1
  have nF := F.e2
  have nG := F.e3
  have nf1 := F.nf1
  have nf2 := F.nf2
  have nf3 := F.nf3
  have ng1 := F.ng1
  have ng2 := F.ng2
  have ng3 := F.ng3
  have nm := F.nm
  have em := F.em
  rw [hP] at nE nF nG nf1 nf2 nf3 ng1 ng2 ng3 nm em
  have k4 : (1 / 400000 : Rat) ≤ 1 / 280000 := by decide +kernel
  have k2 : (1 / 280000 : Rat) ≤ 1 / 280000 := by decide +kernel
  have ng : ∀ {v E : Rat}, Near (v + E) (1 / 280000 * P) → Near (v - -E) (1 / 280000 * P) := fun {v E} h => by rw [show v - -E = v + E by grind]; exact h
  obtain ⟨d1, D1, E1⟩ := back1 F.f1 F.g1 C1 C2 c4 nf1 ng1 nE P0 P9
  obtain ⟨d2, D2, E2⟩ := back1 F.f2 F.g2 C1 C2 c4 nf2 ng2 nF P0 P9
  obtain ⟨d3, D3, E3⟩ := back1 F.f3 F.g3 C1 C2 c4 nf3 ng3 nG P0 P9
  obtain ⟨_, f1, _⟩ := mulC F.f1 C1 c4 nf1 nE k4 P0 P9
  obtain ⟨_, f2, _⟩ := mulC F.f2 C1 c4 nf2 nF k4 P0 P9
  obtain ⟨_, f3, _⟩ := mulC F.f3 C1 c4 nf3 nG k4 P0 P9
  obtain ⟨_, g1, _⟩ := mulC F.g1 C2 c4 (ng ng1) nE.neg k2 P0 P9
  obtain ⟨_, g2, _⟩ := mulC F.g2 C2 c4 (ng ng2) nF.neg k2 P0 P9
  obtain ⟨_, g3, _⟩ := mulC F.g3 C2 c4 (ng ng3) nG.neg k2 P0 P9
  obtain ⟨e, e1, e2⟩ := loss F.m F.l C1 eighth c4 nm em P0 P9
  obtain ⟨t, t1, t2⟩ := work F.f1 F.f2 F.f3 C1 (q2 hi).1 (q2 hj).1 (q2 hk).1 c4 nf1 nf2 nf3 nE nF nG (q2 hi).2 (q2 hj).2 (q2 hk).2 P0 P9
  have i2 : inI (Int.ofNat 2) 1 8 = true := rfl
  have fb : fbOk n (qw a) x y z cl m (qw b) (adX V7 u) (adX 0 v) (adX 0 w) dl 2 = true := by
    unfold fbOk two3 vfin
    rw [o1, o2, i2, show fin (fwXb n (qw a) x y z cl m (qw b) (adX V7 u) (adX 0 v) (adX 0 w) dl 2) = true from fin_val f1, show fin (fwYb n (qw a) x y z cl m (qw b) (adX V7 u) (adX 0 v) (adX 0 w) dl 2) = true from fin_val f2, show fin (fwZb n (qw a) x y z cl m (qw b) (adX V7 u) (adX 0 v) (adX 0 w) dl 2) = true from fin_val f3]
    rfl
  have fb' : fbOk m (qw b) (adX V7 u) (adX 0 v) (adX 0 w) dl n (qw a) x y z cl 2 = true := by
    unfold fbOk two3 vfin
    rw [o1, o2, i2, show fin (fwXb m (qw b) (adX V7 u) (adX 0 v) (adX 0 w) dl n (qw a) x y z cl 2) = true from fin_val g1, show fin (fwYb m (qw b) (adX V7 u) (adX 0 v) (adX 0 w) dl n (qw a) x y z cl 2) = true from fin_val g2, show fin (fwZb m (qw b) (adX V7 u) (adX 0 v) (adX 0 w) dl n (qw a) x y z cl 2) = true from fin_val g3]
    rfl
  have ag : algC n (qw a) x y z cl m (qw b) (adX V7 u) (adX 0 v) (adX 0 w) dl (qw i) (qw j) (qw k) STP (can .f32 0) 2 = true := by
    unfold algC algA
    rw [o2, o3, o4, stp_above, can0_least, show inI (Int.ofNat 2) (Int.ofNat 1) (Int.ofNat 8) = true from rfl, show fin (algW n (qw a) x y z cl m (qw b) (adX V7 u) (adX 0 v) (adX 0 w) dl (qw i) (qw j) (qw k) STP (can .f32 0) 2) = true from fin_val e1,
      ble_of (show 1 ≤ n by omega), ble_of (show n ≤ 1000 by omega), ble_of (show 1 ≤ m by omega), ble_of (show m ≤ 1000 by omega)]
    rfl
  have lo1 : lenOk n (qw a) x y z cl = true := by unfold lenOk; rw [o1, fin_val l1]; rfl
  have lo2 : lenOk m (qw b) (adX V7 u) (adX 0 v) (adX 0 w) dl = true := by unfold lenOk; rw [o2, fin_val l2]; rfl
  refine ⟨?_, ?_, fb, fb', ag, lo1, lo2⟩
  · have h1 := Rat.mul_le_mul_of_nonneg_left ps (show (0 : Rat) ≤ 1 / 39000 by decide +kernel)
    have h2 := Rat.mul_le_mul_of_nonneg_right (show (1 / 39000 * (251 / 1000) : Rat) ≤ 1 / 4000 by decide +kernel) s0
    have h3 := Rat.mul_le_mul_of_nonneg_left s1 (show (0 : Rat) ≤ 1 / 4000 by decide +kernel)
    have h4 : (1 / 100000000000 : Rat) ≤ 1 / 4000 * (1 / 2) := by decide +kernel
    have h5 : (1 / 4000 + 1 / 4000 : Rat) = 1 / 2000 := by decide +kernel
    exact long_lt D1 D2 D3 E1 E2 E3 S1 s1 s2 (by rw [← h5]; grind)
  · refine gap9_lt (t := 78 / 10000 * P + 1 / 1000000) e1.widen t1.widen ?_ S1 s1 s2 ?_
    · have := (e2.sub t2).add (al.mul c4)
      rw [show e - 8 * M * c - (t - (Ex * vl (qw i) + Ey * vl (qw j) + Ez * vl (qw k)) * c) + (8 * M - (Ex * vl (qw i) + Ey * vl (qw j) + Ez * vl (qw k))) * c = e - t by grind] at this
      have h1 := Rat.mul_le_mul_of_nonneg_right (show (41 / 100000 + 7 / 100000 + 18 / 10000 * 4 : Rat) ≤ 78 / 10000 by decide +kernel) P0
      have h2 : (1 / 10000000000 + 1 / 10000000000 : Rat) ≤ 1 / 1000000 := by decide +kernel
      refine this.mono ?_
      grind
    · have h1 := Rat.mul_le_mul_of_nonneg_left ps (show (0 : Rat) ≤ 78 / 10000 by decide +kernel)
      have h2 := Rat.mul_le_mul_of_nonneg_right (show (78 / 10000 * (251 / 1000) : Rat) ≤ 1965 / 1000000 by decide +kernel) s0
      have h3 := Rat.mul_le_mul_of_nonneg_left s1 (show (0 : Rat) ≤ 5 / 1000000 by decide +kernel)
      have h4 : (1 / 1000000 : Rat) ≤ 5 / 1000000 * (1 / 2) := by decide +kernel
      have h5 : (1965 / 1000000 + 5 / 1000000 : Rat) = 197 / 100000 := by decide +kernel
      rw [← h5]
      grind
end
end Go.Fw.E1

/-
  The law of forces: the field of the far wire, its size.
-/
namespace Go.Fw.E1
open Go.Proofs
theorem nd7 {N : Int} {K : Nat} (h : N.natAbs ≤ K) {M : Rat} (hM : ((K : Int) : Rat) * dyu 7 ≤ M) : Near ((N : Rat) * dyu 7) M := by
  have u0 : 0 ≤ dyu 7 := by decide +kernel
  have h1 := Rat.mul_le_mul_of_nonneg_right (Rat.intCast_le_intCast.2 (show -(K : Int) ≤ N by omega)) u0
  have h2 := Rat.mul_le_mul_of_nonneg_right (Rat.intCast_le_intCast.2 (show N ≤ (K : Int) by omega)) u0
  rw [Rat.intCast_neg] at h1
  unfold Near
  grind
section
variable {a b c x y z : Nat} {A B C X Y Z : Int} {l : Rat} (ha : Dy 7 a A) (hb : Dy 7 b B) (hc : Dy 7 c C) (hx : Dy 7 x X) (hy : Dy 7 y Y) (hz : Dy 7 z Z)
  (a1 : A ≤ -384) (a2 : -1472 ≤ A) (b1 : B.natAbs ≤ 1472) (c1 : C.natAbs ≤ 1472) (x1 : X ≤ -384) (x2 : -1472 ≤ X) (y1 : Y.natAbs ≤ 1472) (z1 : Z.natAbs ≤ 1472)
  (d1 : Near ((X : Rat) * dyu 7 - (A : Rat) * dyu 7) l) (d2 : Near ((Y : Rat) * dyu 7 - (B : Rat) * dyu 7) l) (d3 : Near ((Z : Rat) * dyu 7 - (C : Rat) * dyu 7) l) (l0 : 1 / 1099511627776 ≤ l) (l9 : l ≤ 64)
include ha hb hc hx hy hz b1 c1 y1 z1 a1 a2 x1 x2 d1 d2 d3 l0 l9
theorem seg9 : (∃ v, Val .f32 (sgX a b c x y z) v ∧ Near v (13 / 2 * l)) ∧ (∃ v, Val .f32 (sgY a b c x y z) v ∧ Near v (13 / 2 * l)) ∧ ∃ v, Val .f32 (sgZ a b c x y z) v ∧ Near v (13 / 2 * l) := by
  obtain ⟨q, q1, q2⟩ := q9 ha hb hc hx hy hz a1 a2 b1 c1 x1 x2 y1 z1
  have q1 : Val .f32 (sgQ a b c x y z) q := q1
  have lp : 0 ≤ l := d1.nonneg
  have k11 : ((1472 : Nat) : Int) * dyu 7 ≤ (23 / 2 : Rat) := by decide +kernel
  have nA := nd7 (show A.natAbs ≤ 1472 by omega) k11
  have nB := nd7 b1 k11
  have nC := nd7 c1 k11
  have e2 : dyu (7 + 7) = dyu 7 * dyu 7 := by decide +kernel
  have cr : ∀ {b c y z : Nat} {B C Y Z : Int}, Dy 7 b B → Dy 7 c C → Dy 7 y Y → Dy 7 z Z → B.natAbs ≤ 1472 → C.natAbs ≤ 1472 → Y.natAbs ≤ 1472 → Z.natAbs ≤ 1472 → Near ((Y : Rat) * dyu 7 - (B : Rat) * dyu 7) l → Near ((Z : Rat) * dyu 7 - (C : Rat) * dyu 7) l →
      ∃ v, Val .f32 (fop .sub .f32 (fop .mul .f32 b z) (fop .mul .f32 c y)) v ∧ Near v (23 * l) := fun {b c y z B C Y Z} hb hc hy hz b1 c1 y1 z1 d2 d3 => by
    have p := mul_bd b1 z1
    have r := mul_bd c1 y1
    have v := ((hb.mul hz (by decide) (by omega)).sub (hc.mul hy (by decide) (by omega)) (by omega)).val
    refine ⟨_, v, ?_⟩
    have n2 := (nd7 b1 k11).mul d3
    have n3 := (nd7 c1 k11).mul d2
    have := n2.sub n3
    have e : (B : Rat) * dyu 7 * ((Z : Rat) * dyu 7 - (C : Rat) * dyu 7) - (C : Rat) * dyu 7 * ((Y : Rat) * dyu 7 - (B : Rat) * dyu 7) = ((B * Z - C * Y : Int) : Rat) * dyu (7 + 7) := by
      rw [e2]
      simp only [Rat.intCast_mul, Rat.intCast_sub]
      grind
    rw [e] at this
    exact this.mono (by grind)
  have fin : ∀ {w : Nat} {v : Rat}, Val .f32 w v → Near v (23 * l) → ∃ s, Val .f32 (fop .mul .f32 w (sgQ a b c x y z)) s ∧ Near s (13 / 2 * l) := fun {w v} h n => by
    have h1 : (1 / 1000000000000000000000000000000 : Rat) ≤ 23 * (28 / 100) * (1 / 1099511627776) := by decide +kernel
    have h2 := Rat.mul_le_mul_of_nonneg_left l0 (show (0 : Rat) ≤ 23 * (28 / 100) by decide +kernel)
    have h3 : (23 * (28 / 100) * 64 : Rat) ≤ 1000000000000 := by decide +kernel
    have h4 := Rat.mul_le_mul_of_nonneg_left l9 (show (0 : Rat) ≤ 23 * (28 / 100) by decide +kernel)
    have e : 23 * l * (28 / 100) = 23 * (28 / 100) * l := by grind
    obtain ⟨s, s1, _, s2⟩ := bd_mul h q1 n q2 (by rw [e]; exact Rat.le_trans h1 h2) (by rw [e]; exact Rat.le_trans h4 h3)
    refine ⟨s, s1, s2.mono ?_⟩
    have h5 := Rat.mul_le_mul_of_nonneg_right (show (1001 / 1000 * (23 * (28 / 100)) : Rat) ≤ 13 / 2 by decide +kernel) lp
    rw [e]; grind
  have z0 : Val .f32 (can .f32 0) 0 := Val.of_vof (by decide +kernel)
  have zz : ∃ v, Val .f32 (can .f32 0) v ∧ Near v (13 / 2 * l) := ⟨0, z0, Near.zero (Rat.mul_nonneg (by decide +kernel) lp)⟩
  obtain ⟨_, u1, u2⟩ := cr hb hc hy hz b1 c1 y1 z1 d2 d3
  obtain ⟨_, v1, v2⟩ := cr hc ha hz hx c1 (by omega) z1 (by omega) d3 d1
  obtain ⟨_, w1, w2⟩ := cr ha hb hx hy (by omega) b1 (by omega) y1 d1 d2
  have U := fin u1 u2
  have V := fin v1 v2
  have W := fin w1 w2
  refine ⟨?_, ?_, ?_⟩
  · unfold sgX
    cases sgNo a b c x y z
    · exact U
    · exact zz
  · unfold sgY
    cases sgNo a b c x y z
    · exact V
    · exact zz
  · unfold sgZ
    cases sgNo a b c x y z
    · exact W
    · exact zz
end
noncomputable def lamT (n : Nat) (x y z : Nat → Nat) (k : Nat) : Rat := 2 * lamW n 2 x y z (2 * k)
theorem lamT_sum (n : Nat) (x y z : Nat → Nat) : ∀ k, rsum (lamT n x y z) k = rsum (lamW n 2 x y z) (2 * k)
  | 0 => rfl
  | k + 1 => by
    show rsum (lamT n x y z) k + lamT n x y z k = rsum (lamW n 2 x y z) (2 * k) + lamW n 2 x y z (2 * k) + lamW n 2 x y z (2 * k + 1)
    rw [lamT_sum n x y z k]
    have : lamW n 2 x y z (2 * k + 1) = lamW n 2 x y z (2 * k) := by
      unfold lamW
      rw [show (2 * k + 1) / 2 = 2 * k / 2 by omega]
    rw [this]
    unfold lamT
    grind
theorem way9 {n : Nat} {x y z : Nat → Nat} {hx hy hz : Nat → Int} (h1 : Hz x hx) (h2 : Hz y hy) (h3 : Hz z hz) (k : Nat) : 1 / 1099511627776 ≤ lamT n x y z k ∧ lamT n x y z k ≤ 32 ∧
    Near (((hx (nx n k) - hx k : Int) : Rat) * dyu 6) (lamT n x y z k) ∧ Near (((hy (nx n k) - hy k : Int) : Rat) * dyu 6) (lamT n x y z k) ∧ Near (((hz (nx n k) - hz k : Int) : Rat) * dyu 6) (lamT n x y z k) := by
  obtain ⟨l1, l2, l3⟩ := lam_dy (n := n) h1 h2 h3 (2 * k)
  have e : 2 * k / 2 = k := by omega
  unfold pzA at l1
  simp only [e] at l1
  unfold lamT
  generalize lamW n 2 x y z (2 * k) = l at *
  generalize hx (nx n k) - hx k = p at *
  generalize hy (nx n k) - hy k = q at *
  generalize hz (nx n k) - hz k = r at *
  have e14 : dyu 14 = dyu 7 * dyu 7 := by decide +kernel
  have e6 : dyu 6 = 2 * dyu 7 := by decide +kernel
  have l0 : 0 ≤ l := Rat.le_trans (by decide +kernel) l2
  have ex : ((p * p + q * q + r * r : Int) : Rat) * dyu 14 = (p : Rat) * dyu 7 * ((p : Rat) * dyu 7) + (q : Rat) * dyu 7 * ((q : Rat) * dyu 7) + (r : Rat) * dyu 7 * ((r : Rat) * dyu 7) := by
    simp only [Rat.intCast_mul, Rat.intCast_add]; rw [e14]; grind
  rw [ex] at l1
  have sp := sqn ((p : Rat) * dyu 7)
  have sq := sqn ((q : Rat) * dyu 7)
  have sr := sqn ((r : Rat) * dyu 7)
  have k2 : (16 * 2 : Rat) = 32 := by decide +kernel
  have nn : ∀ {t : Rat}, t * t ≤ l * l → Near (2 * t) (2 * l) := fun {t} h => by
    have h1 := le_of_sq l0 h
    have h2 := le_of_sq (a := -t) l0 (by grind)
    unfold Near; constructor <;> grind
  rw [e6]
  refine ⟨by grind, by grind, ?_, ?_, ?_⟩
  · have := nn (t := (p : Rat) * dyu 7) (by grind)
    rw [show (p : Rat) * (2 * dyu 7) = 2 * ((p : Rat) * dyu 7) by grind]
    exact this
  · have := nn (t := (q : Rat) * dyu 7) (by grind)
    rw [show (q : Rat) * (2 * dyu 7) = 2 * ((q : Rat) * dyu 7) by grind]
    exact this
  · have := nn (t := (r : Rat) * dyu 7) (by grind)
    rw [show (r : Rat) * (2 * dyu 7) = 2 * ((r : Rat) * dyu 7) by grind]
    exact this
theorem r9a {P b : Int} (h : P.natAbs ≤ 256) (h' : b.natAbs ≤ 128) : P - (b + 448) * 2 ≤ -384 ∧ -1472 ≤ P - (b + 448) * 2 := by omega
theorem r9b {Q b : Int} (h : Q.natAbs ≤ 256) (h' : b.natAbs ≤ 128) : (Q - b * 2).natAbs ≤ 1472 := by omega
theorem r9c {P b : Int} (h : P.natAbs ≤ 256) (h' : b.natAbs ≤ 128) : (P - (b + 448) * 2).natAbs < 16777216 := by omega
theorem r9d {P b : Int} (h : P.natAbs ≤ 256) (h' : b.natAbs ≤ 128) : (P - b * 2).natAbs < 16777216 := by omega
section
variable {m b p q r : Nat} {u v w : Nat → Nat} {bx by' bz : Nat → Int} {P Q R : Int}
  (hu : Qh u bx) (hv : Qh v by') (hw : Qh w bz) (m2 : 2 ≤ m) (m6 : m ≤ 6) (hb : b < 17) (hp : Dy 7 p P) (hq : Dy 7 q Q) (hr : Dy 7 r R) (p1 : P.natAbs ≤ 256) (q1 : Q.natAbs ≤ 256) (r1 : R.natAbs ≤ 256)
include hu hv hw m2 m6 hb hp hq hr p1 q1 r1
omit m2 m6 hb in
theorem segs9 (k : Nat) : (∃ t, Val .f32 (segX (sg m (adX V7 u) (adX 0 v) (adX 0 w)) p q r k) t ∧ Near t (13 / 2 * lamT m (adX V7 u) (adX 0 v) (adX 0 w) k)) ∧ (∃ t, Val .f32 (segY (sg m (adX V7 u) (adX 0 v) (adX 0 w)) p q r k) t ∧ Near t (13 / 2 * lamT m (adX V7 u) (adX 0 v) (adX 0 w) k)) ∧
    ∃ t, Val .f32 (segZ (sg m (adX V7 u) (adX 0 v) (adX 0 w)) p q r k) t ∧ Near t (13 / 2 * lamT m (adX V7 u) (adX 0 v) (adX 0 w) k) := by
  obtain ⟨l0, l9, n1, n2, n3⟩ := way9 (n := m) hu.far hv.stay hw.stay k
  have two : ((2 ^ 1 : Nat) : Int) = 2 := rfl
  have ux : ∀ j, Dy 7 (fop .sub .f32 p (adX V7 u j)) (P - (bx j + 448) * 2) := fun j => by
    have h := ((hu.far j).1.up 1 (by decide))
    rw [two] at h
    exact hp.sub h (r9c p1 (hu j).2)
  have uy : ∀ j, Dy 7 (fop .sub .f32 q (adX 0 v j)) (Q - by' j * 2) := fun j => by
    have h := ((hv.stay j).1.up 1 (by decide))
    rw [two] at h
    exact hq.sub h (r9d q1 (hv j).2)
  have uz : ∀ j, Dy 7 (fop .sub .f32 r (adX 0 w j)) (R - bz j * 2) := fun j => by
    have h := ((hw.stay j).1.up 1 (by decide))
    rw [two] at h
    exact hr.sub h (r9d r1 (hw j).2)
  have x1 := (hu k).2
  have x2 := (hu (nx m k)).2
  have y1 := (hv k).2
  have y2 := (hv (nx m k)).2
  have z1 := (hw k).2
  have z2 := (hw (nx m k)).2
  have e6 : dyu 6 = 2 * dyu 7 := by decide +kernel
  have df : ∀ {S G H : Int} {l : Rat}, Near (((H - G : Int) : Rat) * dyu 6) l → Near (((S - H * 2 : Int) : Rat) * dyu 7 - ((S - G * 2 : Int) : Rat) * dyu 7) l := fun {S G H l} h => by
    have e : ((S - H * 2 : Int) : Rat) * dyu 7 - ((S - G * 2 : Int) : Rat) * dyu 7 = -(((H - G : Int) : Rat) * dyu 6) := by
      rw [e6]
      simp only [Rat.intCast_mul, Rat.intCast_sub]
      have : ((2 : Int) : Rat) = 2 := rfl
      grind
    rw [e]; exact h.neg
  have k32 : (32 : Rat) ≤ 64 := by decide
  have n1 : Near (((bx (nx m k) + 448 - (bx k + 448) : Int) : Rat) * dyu 6) (lamT m (adX V7 u) (adX 0 v) (adX 0 w) k) := n1
  have D1 := df (S := P) n1
  have D2 := df (S := Q) n2
  have D3 := df (S := R) n3
  have X1 := ux k
  have Y1 := uy k
  have Z1 := uz k
  have X2 := ux (nx m k)
  have Y2 := uy (nx m k)
  have Z2 := uz (nx m k)
  have i1 := r9a p1 x1
  have i3 := r9b q1 y1
  have i4 := r9b r1 z1
  have i5 := r9a p1 x2
  have i7 := r9b q1 y2
  have i8 := r9b r1 z2
  have T := seg9 X1 Y1 Z1 X2 Y2 Z2 i1.1 i1.2 i3 i4 i5.1 i5.2 i7 i8 D1 D2 D3 l0 (Rat.le_trans l9 k32)
  have ex : segX (sg m (adX V7 u) (adX 0 v) (adX 0 w)) p q r k = sgX (fop .sub .f32 p (adX V7 u k)) (fop .sub .f32 q (adX 0 v k)) (fop .sub .f32 r (adX 0 w k)) (fop .sub .f32 p (adX V7 u (nx m k))) (fop .sub .f32 q (adX 0 v (nx m k))) (fop .sub .f32 r (adX 0 w (nx m k))) := rfl
  have ey : segY (sg m (adX V7 u) (adX 0 v) (adX 0 w)) p q r k = sgY (fop .sub .f32 p (adX V7 u k)) (fop .sub .f32 q (adX 0 v k)) (fop .sub .f32 r (adX 0 w k)) (fop .sub .f32 p (adX V7 u (nx m k))) (fop .sub .f32 q (adX 0 v (nx m k))) (fop .sub .f32 r (adX 0 w (nx m k))) := rfl
  have ez : segZ (sg m (adX V7 u) (adX 0 v) (adX 0 w)) p q r k = sgZ (fop .sub .f32 p (adX V7 u k)) (fop .sub .f32 q (adX 0 v k)) (fop .sub .f32 r (adX 0 w k)) (fop .sub .f32 p (adX V7 u (nx m k))) (fop .sub .f32 q (adX 0 v (nx m k))) (fop .sub .f32 r (adX 0 w (nx m k))) := rfl
  rw [ex, ey, ez]
  exact T
theorem far9 (dl : Bool) : ∃ fx fy fz Lb : Rat, Lb = rsum (lamW m 2 (adX V7 u) (adX 0 v) (adX 0 w)) (2 * cnt m dl) ∧ 1 / 1099511627776 ≤ Lb ∧ Lb ≤ 200 ∧ Near fx (15 * Lb) ∧ Near fy (15 * Lb) ∧ Near fz (15 * Lb) ∧
    Val .f32 (faX (l1N m) (l1F (adX V7 u)) (l1F (adX 0 v)) (l1F (adX 0 w)) (l1B dl) (l1N (qw b)) p q r 0 1) fx ∧ Val .f32 (faY (l1N m) (l1F (adX V7 u)) (l1F (adX 0 v)) (l1F (adX 0 w)) (l1B dl) (l1N (qw b)) p q r 0 1) fy ∧ Val .f32 (faZ (l1N m) (l1F (adX V7 u)) (l1F (adX 0 v)) (l1F (adX 0 w)) (l1B dl) (l1N (qw b)) p q r 0 1) fz := by
  have cm : cnt m dl ≤ 6 := Nat.le_trans (cnt_le m dl) m6
  have c1 : 1 ≤ cnt m dl := by cases dl <;> (show 1 ≤ _; first | exact (show 1 ≤ m - 1 by omega) | exact (show 1 ≤ m by omega))
  have S := fun k => segs9 (m := m) hu hv hw hp hq hr p1 q1 r1 k
  have W := fun k => way9 (n := m) hu.far hv.stay hw.stay k
  have z0 : Val .f32 0 0 := Val.of_vof (by decide +kernel)
  rw [← lamT_sum]
  generalize lamT m (adX V7 u) (adX 0 v) (adX 0 w) = l at *
  have l0 : (0 : Rat) ≤ 1 / 1099511627776 := by decide +kernel
  have lo : 1 / 1099511627776 ≤ rsum l (cnt m dl) := rsum_ge (by omega) l0 fun j _ => (W j).1
  have hi : rsum l (cnt m dl) ≤ 200 := by
    have h1 := rsum_mono (F := l) (n := 6) (fun k _ => Rat.le_trans l0 (W k).1) cm
    have h2 := rsum_le (f := l) (g := fun _ => 32) 6 fun k _ => (W k).2.1
    have h3 : rsum (fun _ => (32 : Rat)) 6 ≤ 200 := by decide +kernel
    exact Rat.le_trans h1 (Rat.le_trans h2 h3)
  generalize hL : rsum l (cnt m dl) = L at *
  have rF : rsum (fun k => 13 / 2 * l k) (cnt m dl) = 13 / 2 * L := by rw [rsum_mul, hL]
  have k1 : (1 / 1000000000000000000000000000000 : Rat) ≤ 13 / 2 * (1 / 1099511627776) := by decide +kernel
  have k2 := Rat.mul_le_mul_of_nonneg_left lo (show (0 : Rat) ≤ 13 / 2 by decide +kernel)
  have k3 := Rat.mul_le_mul_of_nonneg_left hi (show (0 : Rat) ≤ 13 / 2 by decide +kernel)
  have k4 : (13 / 2 * 200 : Rat) ≤ 10000 := by decide +kernel
  have k5 : (10000 : Rat) ≤ 1152921504606846976 := by decide
  have L0 : 0 ≤ L := Rat.le_trans l0 lo
  obtain ⟨qv, qn⟩ := q2 hb
  have one : ∀ {s t : Nat → Nat}, s 0 = 0 → (∀ k, s (k + 1) = fop .add .f32 (s k) (t k)) → (∀ k, ∃ v, Val .f32 (t k) v ∧ Near v (13 / 2 * l k)) → ∃ f, Near f (15 * L) ∧ Val .f32 (fop .add .f32 0 (fop .mul .f32 (s (cnt m dl)) (qw b))) f := fun {s t} e0 es ht => by
    obtain ⟨a, a1, _, a2⟩ := bd_sum (s := s) (t := t) (f := fun k => (ht k).choose) (F := fun k => 13 / 2 * l k) (T := 13 / 2 * L) (n := cnt m dl) (by rw [e0]; exact z0) (fun k _ => es k) (fun k _ => (ht k).choose_spec.1) (fun k _ => (ht k).choose_spec.2) (by rw [rF]; exact Rat.le_refl) cm (by grind) (by grind)
    have h1 := Rat.mul_le_mul_of_nonneg_right (show (13 / 2 : Rat) ≤ 1001 / 1000 * (13 / 2) * 2 by decide +kernel) L0
    have h2 := Rat.mul_le_mul_of_nonneg_right (show (1001 / 1000 * (13 / 2) * 2 : Rat) ≤ 14 by decide +kernel) L0
    have h3 : (14 * 200 : Rat) ≤ 1000000000000 := by decide +kernel
    have h4 := Rat.mul_le_mul_of_nonneg_left hi (show (0 : Rat) ≤ 14 by decide)
    have e : 1001 / 1000 * (13 / 2 * L) * 2 = 1001 / 1000 * (13 / 2) * 2 * L := by grind
    obtain ⟨f, f1, _, f2⟩ := bd_mul a1 qv a2 qn (by rw [e]; grind) (by rw [e]; grind)
    refine ⟨f, f2.mono ?_, val_add0 z0 f1⟩
    rw [e]
    have h5 := Rat.mul_le_mul_of_nonneg_right (show (1001 / 1000 * (1001 / 1000 * (13 / 2) * 2) : Rat) ≤ 15 by decide +kernel) L0
    grind
  obtain ⟨fx, nx', vx⟩ := one (s := fX (sg m (adX V7 u) (adX 0 v) (adX 0 w)) p q r 0) rfl (fun _ => rfl) (fun k => (S k).1)
  obtain ⟨fy, ny, vy⟩ := one (s := fY (sg m (adX V7 u) (adX 0 v) (adX 0 w)) p q r 0) rfl (fun _ => rfl) (fun k => (S k).2.1)
  obtain ⟨fz, nz, vz⟩ := one (s := fZ (sg m (adX V7 u) (adX 0 v) (adX 0 w)) p q r 0) rfl (fun _ => rfl) (fun k => (S k).2.2)
  exact ⟨fx, fy, fz, L, rfl, lo, hi, nx', ny, nz, vx, vy, vz⟩
end
end Go.Fw.E1

/-
  The law of forces: parts of a wire in the field of another, their sum.
-/
namespace Go.Fw.E1
open Go.Proofs
theorem inv1_dy : Dy 0 (inv 1) 1 := Dy.of_val (by decide) (Val.of_vof (by decide +kernel))
theorem mid1_dy : Dy 1 (mid 0 1) 1 := Dy.of_val (by decide) (Val.of_vof (by decide +kernel))
theorem pc1 (g : Nat → Nat → Nat) (k d : Nat) : pc g 1 k d = pcS (g k 0) (g k 1) (g k 2) (g k 3) (g k 4) (g k 5) 1 0 d := by
  unfold pc
  rw [Nat.div_one, Nat.mod_one]
theorem pc_seg (n : Nat) (x y z : Nat → Nat) (k : Nat) : pc (sg 2 (sg2X (sg n x y z k)) (sg2Y (sg n x y z k)) (sg2Z (sg n x y z k))) 1 0 = pc (sg n x y z) 1 k := funext fun d => by
  rw [pc1, pc1]
  rfl
theorem piece1 {n : Nat} {x : Nat → Nat} {h : Nat → Int} (H : Qh x h) (k : Nat) : Dy 6 (fop .mul .f32 (fop .sub .f32 (x (nx n k)) (x k)) (inv 1)) (h (nx n k) - h k) ∧ Dy 7 (fop .add .f32 (x k) (fop .mul .f32 (fop .sub .f32 (x (nx n k)) (x k)) (mid 0 1))) (h k * 2 + (h (nx n k) - h k)) ∧ (h k * 2 + (h (nx n k) - h k)).natAbs ≤ 256 := by
  obtain ⟨a1, a2⟩ := H (nx n k)
  obtain ⟨b1, b2⟩ := H k
  have d := a1.sub b1 (by omega)
  have w := d.mul inv1_dy (by omega) (by rw [Int.mul_one]; omega)
  rw [Int.mul_one] at w
  have m := d.mul mid1_dy (by omega) (by rw [Int.mul_one]; omega)
  rw [Int.mul_one] at m
  have e := b1.up 1 (by omega)
  rw [show ((2 ^ 1 : Nat) : Int) = 2 from rfl] at e
  exact ⟨w, e.add m (by omega), by omega⟩
section
variable {n m a b : Nat} {x y z u v w : Nat → Nat} {ax ay az bx by' bz : Nat → Int}
  (hx : Qh x ax) (hy : Qh y ay) (hz : Qh z az) (hu : Qh u bx) (hv : Qh v by') (hw : Qh w bz) (m2 : 2 ≤ m) (m6 : m ≤ 6) (hb : b < 17)
include hx hy hz hu hv hw m2 m6 hb
theorem on9 (dl : Bool) (k : Nat) : (∃ o, Val .f32 (onX 1 (l1N m) (l1F (adX V7 u)) (l1F (adX 0 v)) (l1F (adX 0 w)) (l1B dl) (l1N (qw b)) (pc (sg n x y z) 1 k)) o ∧ Near o (31 * (rsum (lamW m 2 (adX V7 u) (adX 0 v) (adX 0 w)) (2 * cnt m dl)) * lamT n x y z k)) ∧
    (∃ o, Val .f32 (onY 1 (l1N m) (l1F (adX V7 u)) (l1F (adX 0 v)) (l1F (adX 0 w)) (l1B dl) (l1N (qw b)) (pc (sg n x y z) 1 k)) o ∧ Near o (31 * (rsum (lamW m 2 (adX V7 u) (adX 0 v) (adX 0 w)) (2 * cnt m dl)) * lamT n x y z k)) ∧
    (∃ o, Val .f32 (onZ 1 (l1N m) (l1F (adX V7 u)) (l1F (adX 0 v)) (l1F (adX 0 w)) (l1B dl) (l1N (qw b)) (pc (sg n x y z) 1 k)) o ∧ Near o (31 * (rsum (lamW m 2 (adX V7 u) (adX 0 v) (adX 0 w)) (2 * cnt m dl)) * lamT n x y z k)) ∧
    onOk 1 (l1N m) (l1F (adX V7 u)) (l1F (adX 0 v)) (l1F (adX 0 w)) (l1B dl) (l1N (qw b)) (pc (sg n x y z) 1) k = true ∧ 1 / 1000000000000000000000000000000 ≤ 31 * (rsum (lamW m 2 (adX V7 u) (adX 0 v) (adX 0 w)) (2 * cnt m dl)) * lamT n x y z k ∧ 31 * (rsum (lamW m 2 (adX V7 u) (adX 0 v) (adX 0 w)) (2 * cnt m dl)) * lamT n x y z k ≤ 1000000 ∧ 0 ≤ rsum (lamW m 2 (adX V7 u) (adX 0 v) (adX 0 w)) (2 * cnt m dl) := by
  obtain ⟨wx, mx, bx'⟩ := piece1 (n := n) hx k
  obtain ⟨wy, my, by''⟩ := piece1 (n := n) hy k
  obtain ⟨wz, mz, bz'⟩ := piece1 (n := n) hz k
  obtain ⟨l0, l9, n1, n2, n3⟩ := way9 (n := n) hx.hz hy.hz hz.hz k
  obtain ⟨fx, fy, fz, L, eL, L0, L9, nfx, nfy, nfz, vx, vy, vz⟩ := far9 hu hv hw m2 m6 hb mx my mz bx' by'' bz' dl
  rw [← eL]
  have g0 : Val .f32 (pc (sg n x y z) 1 k 0) (((ax (nx n k) - ax k : Int) : Rat) * dyu 6) := by rw [pc1]; exact wx.val
  have g1 : Val .f32 (pc (sg n x y z) 1 k 1) (((ay (nx n k) - ay k : Int) : Rat) * dyu 6) := by rw [pc1]; exact wy.val
  have g2 : Val .f32 (pc (sg n x y z) 1 k 2) (((az (nx n k) - az k : Int) : Rat) * dyu 6) := by rw [pc1]; exact wz.val
  have e3 : pc (sg n x y z) 1 k 3 = fop .add .f32 (x k) (fop .mul .f32 (fop .sub .f32 (x (nx n k)) (x k)) (mid 0 1)) := pc1 _ _ _
  have e4 : pc (sg n x y z) 1 k 4 = fop .add .f32 (y k) (fop .mul .f32 (fop .sub .f32 (y (nx n k)) (y k)) (mid 0 1)) := pc1 _ _ _
  have e5 : pc (sg n x y z) 1 k 5 = fop .add .f32 (z k) (fop .mul .f32 (fop .sub .f32 (z (nx n k)) (z k)) (mid 0 1)) := pc1 _ _ _
  rw [← e3, ← e4, ← e5] at vx vy vz
  have f3 : fin (pc (sg n x y z) 1 k 3) = true := by rw [e3]; exact fin_val mx.val
  have f4 : fin (pc (sg n x y z) 1 k 4) = true := by rw [e4]; exact fin_val my.val
  have f5 : fin (pc (sg n x y z) 1 k 5) = true := by rw [e5]; exact fin_val mz.val
  have m1 : Nat.ble 1 m = true := ble_of (show 1 ≤ m by omega)
  have m1000 : Nat.ble m 1000 = true := ble_of (show m ≤ 1000 by omega)
  generalize lamT n x y z k = l at *
  have z1 : (0 : Rat) ≤ 1 / 1099511627776 := by decide +kernel
  have l00 : 0 ≤ l := Rat.le_trans z1 l0
  have L00 : 0 ≤ L := Rat.le_trans z1 L0
  have p1 := Rat.mul_le_mul_of_nonneg_right L0 l00
  have p2 := Rat.mul_le_mul_of_nonneg_left l0 z1
  have p3 : (1 / 1000000000000000000000000000000 : Rat) ≤ 1 / 1099511627776 * (1 / 1099511627776) := by decide +kernel
  have q1 := Rat.mul_le_mul_of_nonneg_right L9 l00
  have q2 := Rat.mul_le_mul_of_nonneg_left l9 (show (0 : Rat) ≤ 200 by decide)
  have q3 : (200 * 32 : Rat) * 31 ≤ 1000000 := by decide +kernel
  have q4 : (1000000 : Rat) ≤ 100000000000 := by decide
  have Ll0 : 0 ≤ L * l := Rat.mul_nonneg L00 l00
  have e : l * (15 * L) = 15 * (L * l) := by grind
  have lo : 1 / 1000000000000000000000000000000 ≤ l * (15 * L) := by rw [e]; grind
  have hi : l * (15 * L) ≤ 100000000000 := by rw [e]; grind
  have k31 := Rat.mul_le_mul_of_nonneg_right (show (201 / 100 * 15 : Rat) ≤ 31 by decide +kernel) Ll0
  have fit : ∀ {o : Rat}, Near o (201 / 100 * (l * (15 * L))) → Near o (31 * L * l) := fun {o} h => h.mono (by rw [e]; grind)
  obtain ⟨ox, ox1, ox2⟩ := bd_crs g1 g2 vy vz n2 n3 nfy nfz lo hi
  obtain ⟨oy, oy1, oy2⟩ := bd_crs g2 g0 vz vx n3 n1 nfz nfx lo hi
  obtain ⟨oz, oz1, oz2⟩ := bd_crs g0 g1 vx vy n1 n2 nfx nfy lo hi
  refine ⟨⟨ox, ox1, fit ox2⟩, ⟨oy, oy1, fit oy2⟩, ⟨oz, oz1, fit oz2⟩, ?_, by grind, by grind, L00⟩
  have sw : allUpTo (smallW (l1N m)) 1 = true := allUpTo_iff.2 fun i hi => by
    match i, hi with
    | 0, _ => show (Nat.ble 1 m && Nat.ble m 1000) = true; rw [m1, m1000]; rfl
  unfold onOk faG fOkA vfin
  rw [sw, f3, f4, f5, fin_val vx, fin_val vy, fin_val vz]
  rfl
end
section
variable {n m a b : Nat} {x y z u v w : Nat → Nat} {ax ay az bx by' bz : Nat → Int}
  (hx : Qh x ax) (hy : Qh y ay) (hz : Qh z az) (hu : Qh u bx) (hv : Qh v by') (hw : Qh w bz) (n2 : 2 ≤ n) (n6 : n ≤ 6) (m2 : 2 ≤ m) (m6 : m ≤ 6) (ha : a < 17) (hb : b < 17)
include hx hy hz hu hv hw n2 n6 m2 m6 ha hb
theorem law9C (cl dl : Bool) {i j k : Nat} (hi : i < 17) (hj : j < 17) (hk : k < 17) : g9C n (qw a) x y z cl m (qw b) (adX V7 u) (adX 0 v) (adX 0 w) dl (qw i) (qw j) (qw k) = false ∧
    onC 1 (l1N m) (l1F (adX V7 u)) (l1F (adX 0 v)) (l1F (adX 0 w)) (l1B dl) (l1N (qw b)) n (qw a) x y z cl 1 = true ∧ ptC 1 (l1N m) (l1F (adX V7 u)) (l1F (adX 0 v)) (l1F (adX 0 w)) (l1B dl) (l1N (qw b)) n (qw a) x y z cl = true := by
  have S := fun k => on9 (n := n) hx hy hz hu hv hw m2 m6 hb dl k
  obtain ⟨o1, o2, _, _⟩ := ok9 hx hy hz hu hv hw n2 n6 m2 m6 ha hb hi hj hk
  obtain ⟨la, l1, nl1, b1, a0, a9⟩ := len_dy (n := n) hx.hz hy.hz hz.hz n6 cl
  obtain ⟨lb, l2, nl2, b2, c0, c9'⟩ := len_dy (n := m) hu.far hv.stay hw.stay m6 dl
  obtain ⟨s, S1, S2⟩ := sz9_val l1 l2 nl1 nl2
  obtain ⟨ps, s1, s2⟩ := size9_le a0 c0 nl1 nl2 b1 b2 S2
  have rT := lamT_sum n x y z (cnt n cl)
  have cn : cnt n cl ≤ 6 := Nat.le_trans (cnt_le n cl) n6
  have c1 : 1 ≤ cnt n cl := by cases cl <;> (show 1 ≤ _; first | exact (show 1 ≤ n - 1 by omega) | exact (show 1 ≤ n by omega))
  have z0 : Val .f32 0 0 := Val.of_vof (by decide +kernel)
  obtain ⟨qv, qn⟩ := q2 ha
  generalize hLb : rsum (lamW m 2 (adX V7 u) (adX 0 v) (adX 0 w)) (2 * cnt m dl) = Lb at *
  generalize hLa : rsum (lamW n 2 x y z) (2 * cnt n cl) = La at *
  have rF : rsum (fun k => 31 * Lb * lamT n x y z k) (cnt n cl) = 31 * Lb * La := by rw [rsum_mul, rT]
  have q3 : (1000000 : Rat) ≤ 100000000000 := by decide
  have T1 : 31 * Lb * La ≤ 100000000000 := by
    have h1 := Rat.mul_le_mul_of_nonneg_right c9' a0
    have h2 := Rat.mul_le_mul_of_nonneg_left a9 (show (0 : Rat) ≤ 91 by decide)
    have h3 : (31 * (91 * 91) : Rat) ≤ 100000000000 := by decide +kernel
    grind
  have T0 : 1 / 1000000000000000000000000000000 ≤ 31 * Lb * La := by
    rw [← rF]
    exact rsum_ge (by omega) (by decide +kernel) fun k _ => (S k).2.2.2.2.1
  have one : ∀ {o t : Nat → Nat}, (∀ k, ∃ v, Val .f32 (o k) v ∧ Near v (31 * Lb * lamT n x y z k)) → (∀ k, t k = fop .mul .f32 (fop .add .f32 0 (o k)) (qw a)) →
      (∃ d, Val .f32 (fop .sub .f32 (sumW t (cnt n cl)) (fop .mul .f32 (sumW o (1 * cnt n cl)) (qw a))) d ∧ Near d (1 / 1000 * (La * Lb))) ∧ fin (fop .mul .f32 (sumW o (1 * cnt n cl)) (qw a)) = true ∧ ∀ k, k < cnt n cl → fin (t k) = true := fun {o t} ho ht => by
    obtain ⟨p, q, p1, q1, pq, vt⟩ := sum_prod (s := sumW t) (t := t) (o := o) (p := sumW o) (U := qw a) (f := fun k => (ho k).choose) (F := fun k => 31 * Lb * lamT n x y z k) (c := vl (qw a)) (T := 31 * Lb * La) (n := cnt n cl) z0 z0 (fun _ _ => rfl) (fun _ _ => rfl)
      (fun k _ => (ho k).choose_spec.1) (fun k _ => ht k) qv qn (fun k _ => (ho k).choose_spec.2) (fun k _ => (S k).2.2.2.2.1) (fun k _ => Rat.le_trans (S k).2.2.2.2.2.1 q3) (by rw [rF]; exact Rat.le_refl) cn T1 T0
    rw [Nat.one_mul]
    have P0 : 0 ≤ La * Lb := Rat.mul_nonneg a0 c0
    have k1 : (100 * ur .f32 * 31 : Rat) ≤ 1 / 2000 := by decide +kernel
    have k1 := Rat.mul_le_mul_of_nonneg_right k1 P0
    have pq : Near (p - q) (1 / 2000 * (La * Lb)) := pq.mono (by grind)
    have big : (1 / 2000 * 10000 : Rat) ≤ most := by decide +kernel
    have P9 : La * Lb ≤ 10000 := by
      have h3 : (91 * 91 : Rat) ≤ 10000 := by decide +kernel
      have h1 := Rat.mul_le_mul_of_nonneg_right c9' a0
      have h2 := Rat.mul_le_mul_of_nonneg_left a9 (show (0 : Rat) ≤ 91 by decide)
      grind
    have P9' := Rat.mul_le_mul_of_nonneg_left P9 (show (0 : Rat) ≤ 1 / 2000 by decide +kernel)
    obtain ⟨d, d1, d2⟩ := p1.sub q1 pq (by grind)
    have lo : 1 / 1000000000000000000000000000000 ≤ 31 * (La * Lb) := by rw [show 31 * (La * Lb) = 31 * Lb * La by grind]; exact T0
    have tl := tiny_le lo
    have t0 := tiny_pos .f32
    refine ⟨⟨d, d1, ?_⟩, fin_val q1, fun k hk => ?_⟩
    · have := d2.add pq
      rw [show d - (p - q) + (p - q) = d by grind] at this
      have k2 : (1 / 2000 * ur .f32 + ur .f32 * 31 + 1 / 2000 : Rat) ≤ 1 / 1000 := by decide +kernel
      have k2 := Rat.mul_le_mul_of_nonneg_right k2 P0
      exact this.mono (by grind)
    · obtain ⟨_, h⟩ := vt k hk
      exact fin_val h
  have tX : ∀ k, fpX 1 (l1N m) (l1F (adX V7 u)) (l1F (adX 0 v)) (l1F (adX 0 w)) (l1B dl) (l1N (qw b)) (qw a) (sg n x y z) k = fop .mul .f32 (fop .add .f32 0 (onX 1 (l1N m) (l1F (adX V7 u)) (l1F (adX 0 v)) (l1F (adX 0 w)) (l1B dl) (l1N (qw b)) (pc (sg n x y z) 1 k))) (qw a) := fun k => by
    rw [← pc_seg]; rfl
  have tY : ∀ k, fpY 1 (l1N m) (l1F (adX V7 u)) (l1F (adX 0 v)) (l1F (adX 0 w)) (l1B dl) (l1N (qw b)) (qw a) (sg n x y z) k = fop .mul .f32 (fop .add .f32 0 (onY 1 (l1N m) (l1F (adX V7 u)) (l1F (adX 0 v)) (l1F (adX 0 w)) (l1B dl) (l1N (qw b)) (pc (sg n x y z) 1 k))) (qw a) := fun k => by
    rw [← pc_seg]; rfl
  have tZ : ∀ k, fpZ 1 (l1N m) (l1F (adX V7 u)) (l1F (adX 0 v)) (l1F (adX 0 w)) (l1B dl) (l1N (qw b)) (qw a) (sg n x y z) k = fop .mul .f32 (fop .add .f32 0 (onZ 1 (l1N m) (l1F (adX V7 u)) (l1F (adX 0 v)) (l1F (adX 0 w)) (l1B dl) (l1N (qw b)) (pc (sg n x y z) 1 k))) (qw a) := fun k => by
    rw [← pc_seg]; rfl
  obtain ⟨⟨dx, X1, X2⟩, X3, X4⟩ := one (fun k => (S k).1) tX
  obtain ⟨⟨dy, Y1, Y2⟩, Y3, Y4⟩ := one (fun k => (S k).2.1) tY
  obtain ⟨⟨dz, Z1, Z2⟩, Z3, Z4⟩ := one (fun k => (S k).2.2.1) tZ
  have OK := fun k => (S k).2.2.2.1
  have mb : Nat.ble m 1048576 = true := ble_of (show m ≤ 1048576 by omega)
  have h1 : allUpTo (shortW (l1N m)) 1 = true := allUpTo_iff.2 fun i hi => by
    match i, hi with
    | 0, _ => exact mb
  have h2 : areW 1 (l1N m) (l1F (adX V7 u)) (l1F (adX 0 v)) (l1F (adX 0 w)) (l1N (qw b)) = true := by
    unfold areW
    have : allUpTo (okAt (l1N m) (l1F (adX V7 u)) (l1F (adX 0 v)) (l1F (adX 0 w)) (l1N (qw b))) 1 = true := allUpTo_iff.2 fun i hi => by
      match i, hi with
      | 0, _ => exact o2
    rw [this]; rfl
  refine ⟨?_, ?_, ?_⟩
  · exact long_lt X1 Y1 Z1 X2 Y2 Z2 S1 s1 s2 (by
      have h1 := Rat.mul_le_mul_of_nonneg_left ps (show (0 : Rat) ≤ 1 / 1000 by decide +kernel)
      have h2 := Rat.mul_le_mul_of_nonneg_right (show (1 / 1000 * (251 / 1000) : Rat) ≤ 1 / 2000 by decide +kernel) (half_pos s1)
      grind)
  · have h3 : allUpTo (onOk 1 (l1N m) (l1F (adX V7 u)) (l1F (adX 0 v)) (l1F (adX 0 w)) (l1B dl) (l1N (qw b)) (pc (sg n x y z) 1)) (1 * cnt n cl) = true := allUpTo_iff.2 fun k _ => OK k
    unfold onC onA vfin
    rw [h1, h2, h3, o1, ble_of (show 1 ≤ n by omega), ble_of (show n ≤ 1000 by omega), show fin (onFX 1 (l1N m) (l1F (adX V7 u)) (l1F (adX 0 v)) (l1F (adX 0 w)) (l1B dl) (l1N (qw b)) n (qw a) x y z cl 1) = true from X3, show fin (onFY 1 (l1N m) (l1F (adX V7 u)) (l1F (adX 0 v)) (l1F (adX 0 w)) (l1B dl) (l1N (qw b)) n (qw a) x y z cl 1) = true from Y3, show fin (onFZ 1 (l1N m) (l1F (adX V7 u)) (l1F (adX 0 v)) (l1F (adX 0 w)) (l1B dl) (l1N (qw b)) n (qw a) x y z cl 1) = true from Z3]
    rfl
  · have h3 : allUpTo (fpC 1 (l1N m) (l1F (adX V7 u)) (l1F (adX 0 v)) (l1F (adX 0 w)) (l1B dl) (l1N (qw b)) (qw a) (sg n x y z)) (cnt n cl) = true := allUpTo_iff.2 fun k hk => by
      have vz0 : ∀ {g : Nat → Nat} {e : Nat}, g e = 0 → ∃ q : Rat, Val .f32 (g e) q := fun h => ⟨0, by rw [h]; exact z0⟩
      have vx : Vs (sg2X (sg n x y z k)) := fun i => by
        match i with
        | 0 => exact hx.hz.vs k
        | 1 => exact hx.hz.vs (nx n k)
        | _ + 2 => exact ⟨0, z0⟩
      have vy : Vs (sg2Y (sg n x y z k)) := fun i => by
        match i with
        | 0 => exact hy.hz.vs k
        | 1 => exact hy.hz.vs (nx n k)
        | _ + 2 => exact ⟨0, z0⟩
      have vz : Vs (sg2Z (sg n x y z k)) := fun i => by
        match i with
        | 0 => exact hz.hz.vs k
        | 1 => exact hz.hz.vs (nx n k)
        | _ + 2 => exact ⟨0, z0⟩
      have o3 := okW_vs (n := 2) (c := qw a) (by omega) (by omega) (fin_qw ha) vx vy vz
      have h4 : allUpTo (onOk 1 (l1N m) (l1F (adX V7 u)) (l1F (adX 0 v)) (l1F (adX 0 w)) (l1B dl) (l1N (qw b)) (pc (sg 2 (sg2X (sg n x y z k)) (sg2Y (sg n x y z k)) (sg2Z (sg n x y z k))) 1)) (1 * cnt 2 false) = true := allUpTo_iff.2 fun i hi => by
        match i, hi with
        | 0, _ =>
          have := OK k
          unfold onOk at this ⊢
          rw [pc_seg]
          exact this
      unfold fpC onC onA vfin
      rw [h1, h2, h4, o3, show fin (onFX 1 (l1N m) (l1F (adX V7 u)) (l1F (adX 0 v)) (l1F (adX 0 w)) (l1B dl) (l1N (qw b)) 2 (qw a) (sg2X (sg n x y z k)) (sg2Y (sg n x y z k)) (sg2Z (sg n x y z k)) false 1) = true from X4 k hk, show fin (onFY 1 (l1N m) (l1F (adX V7 u)) (l1F (adX 0 v)) (l1F (adX 0 w)) (l1B dl) (l1N (qw b)) 2 (qw a) (sg2X (sg n x y z k)) (sg2Y (sg n x y z k)) (sg2Z (sg n x y z k)) false 1) = true from Y4 k hk,
        show fin (onFZ 1 (l1N m) (l1F (adX V7 u)) (l1F (adX 0 v)) (l1F (adX 0 w)) (l1B dl) (l1N (qw b)) 2 (qw a) (sg2X (sg n x y z k)) (sg2Y (sg n x y z k)) (sg2Z (sg n x y z k)) false 1) = true from Z4 k hk]
      rfl
    unfold ptC ptA
    rw [h1, h2, h3, o1, ble_of (show 1 ≤ n by omega), ble_of (show n ≤ 1000 by omega)]
    rfl
end
end Go.Fw.E1

/-
  Squares above one another: their pieces, the kernel's own sums.
-/
namespace Go.Fw.E1
open Go.Proofs
def hh (t : Nat) : Nat := [0, 1077936128, 1082130432, 1084227584, 1086324736].getD t 0
def sqx (i : Nat) : Nat := [1065353216, 3212836864, 3212836864, 1065353216].getD i 0
def sqy (i : Nat) : Nat := [1065353216, 1065353216, 3212836864, 3212836864].getD i 0
def sqz (h i : Nat) : Nat := [h, h, h, h].getD i 0
def a8 (k : Nat) : Nat := [1063256064, 1059061760, 1052770304, 1040187392, 3187671040, 3200253952, 3206545408, 3210739712].getD k 0
def b8 (k : Nat) : Nat := [3210739712, 3206545408, 3200253952, 3187671040, 1040187392, 1052770304, 1059061760, 1063256064].getD k 0
def p8 (h j d : Nat) : Nat :=
  match d with
  | 0 => [3196059648, 0, 1048576000, 0].getD (j / 8) 0
  | 1 => [0, 3196059648, 0, 1048576000].getD (j / 8) 0
  | 2 => 0
  | 3 => [a8 (j % 8), 3212836864, b8 (j % 8), 1065353216].getD (j / 8) 0
  | 4 => [1065353216, a8 (j % 8), 3212836864, b8 (j % 8)].getD (j / 8) 0
  | _ => h
def a4 (k : Nat) : Nat := [1061158912, 1048576000, 3196059648, 3208642560].getD k 0
def b4 (k : Nat) : Nat := [3208642560, 3196059648, 1048576000, 1061158912].getD k 0
def p4 (j d : Nat) : Nat :=
  match d with
  | 0 => [3204448256, 0, 1056964608, 0].getD (j / 4) 0
  | 1 => [0, 3204448256, 0, 1056964608].getD (j / 4) 0
  | 2 => 0
  | 3 => [a4 (j % 4), 3212836864, b4 (j % 4), 1065353216].getD (j / 4) 0
  | 4 => [1065353216, a4 (j % 4), 3212836864, b4 (j % 4)].getD (j / 4) 0
  | _ => 0
noncomputable def sqG (t : Nat) : Nat → Nat → Nat := sg 4 (sqX ONE (hh t)) (sqY ONE (hh t)) (sqZ ONE (hh t))
set_option maxRecDepth 100000 in
theorem p8_tab : allUpTo (fun t => allUpTo (fun j => allUpTo (fun d => Nat.beq (pc (sqG t) 8 j d) (p8 (hh t) j d)) 6) 32) 5 = true := by decide +kernel
set_option maxRecDepth 100000 in
theorem p4_tab : allUpTo (fun j => allUpTo (fun d => Nat.beq (pc (sqG 0) 4 j d) (p4 j d)) 6) 16 = true := by decide +kernel
theorem sq_tab : allUpTo (fun t => allUpTo (fun i => Nat.beq (sqX ONE (hh t) i) (sqx i) && (Nat.beq (sqY ONE (hh t) i) (sqy i) && Nat.beq (sqZ ONE (hh t) i) (sqz (hh t) i))) 4) 5 = true := by decide +kernel
noncomputable def v8 (t j d : Nat) : V := vof .f32 (p8 (hh t) j d)
noncomputable def v4 (j d : Nat) : V := vof .f32 (p4 j d)
theorem rep_p8 {t j d : Nat} (ht : t < 5) (hj : j < 32) (hd : d < 6) : Rep .f32 (pc (sqG t) 8 j d) (v8 t j d) := by
  have := allUpTo_iff.1 (allUpTo_iff.1 (allUpTo_iff.1 p8_tab t ht) j hj) d hd
  rw [Nat.eq_of_beq_eq_true this]
  exact rep_of _ _
theorem rep_p4 {j d : Nat} (hj : j < 16) (hd : d < 6) : Rep .f32 (pc (sqG 0) 4 j d) (v4 j d) := by
  have := allUpTo_iff.1 (allUpTo_iff.1 p4_tab j hj) d hd
  rw [Nat.eq_of_beq_eq_true this]
  exact rep_of _ _
noncomputable def SX (i : Nat) : V := vof .f32 (sqx i)
noncomputable def SY (i : Nat) : V := vof .f32 (sqy i)
noncomputable def SZ (t i : Nat) : V := vof .f32 (sqz (hh t) i)
theorem rep_sq {t : Nat} (ht : t < 5) (i : Nat) : Rep .f32 (sqX ONE (hh t) i) (SX i) ∧ Rep .f32 (sqY ONE (hh t) i) (SY i) ∧ Rep .f32 (sqZ ONE (hh t) i) (SZ t i) := by
  by_cases hi : i < 4
  · have := allUpTo_iff.1 (allUpTo_iff.1 sq_tab t ht) i hi
    rw [Bool.and_eq_true, Bool.and_eq_true] at this
    rw [Nat.eq_of_beq_eq_true this.1, Nat.eq_of_beq_eq_true this.2.1, Nat.eq_of_beq_eq_true this.2.2]
    exact ⟨rep_of _ _, rep_of _ _, rep_of _ _⟩
  · obtain ⟨j, rfl⟩ : ∃ j, i = j + 4 := ⟨i - 4, by omega⟩
    exact ⟨rep_of .f32 0, rep_of .f32 0, rep_of .f32 0⟩
noncomputable def vfQ (U V' W : V) (Q : Nat → Nat → V) (j : Nat) : V := vinn (vsub U (Q j 3)) (vsub V' (Q j 4)) (vsub W (Q j 5)) (vsub U (Q j 3)) (vsub V' (Q j 4)) (vsub W (Q j 5))
noncomputable def vfF (A B C U V' W : V) (Q : Nat → Nat → V) (j : Nat) : V := vquo (vneg (vinn A B C (Q j 0) (Q j 1) (Q j 2))) (vmul (vfQ U V' W Q j) (vsqrt (vfQ U V' W Q j)))
noncomputable def vfb (A B C U V' W : V) (Q : Nat → Nat → V) (M : V) (c : Nat) (S : V) (k : Nat) : V := Nat.rec S (fun j acc => vgd (vup (vfQ U V' W Q j)) (vadd acc (vmul (vsub M (Q j c)) (vfF A B C U V' W Q j)))) k
section
variable {a b c u v w s n : Nat} {A B C U V' W S : V} {q : Nat → Nat → Nat} {Q : Nat → Nat → V} (ha : Rep .f32 a A) (hb : Rep .f32 b B) (hc : Rep .f32 c C) (hu : Rep .f32 u U) (hv : Rep .f32 v V') (hw : Rep .f32 w W) (hq : ∀ j d, j < n → d < 6 → Rep .f32 (q j d) (Q j d)) (hs : Rep .f32 s S)
include hu hv hw hq
theorem rep_fbQ {j : Nat} (hj : j < n) : Rep .f32 (fbQ u v w q j) (vfQ U V' W Q j) := by
  have h3 := rep_sub hu (hq j 3 hj (by decide))
  have h4 := rep_sub hv (hq j 4 hj (by decide))
  have h5 := rep_sub hw (hq j 5 hj (by decide))
  exact rep_inn h3 h4 h5 h3 h4 h5
include ha hb hc
theorem rep_fbF {j : Nat} (hj : j < n) : Rep .f32 (fbF a b c u v w q j) (vfF A B C U V' W Q j) :=
  rep_quo (rep_neg (rep_inn ha hb hc (hq j 0 hj (by decide)) (hq j 1 hj (by decide)) (hq j 2 hj (by decide)))) (rep_mul (rep_fbQ hu hv hw hq hj) (rep_vsqrt (rep_fbQ hu hv hw hq hj)))
include hs
theorem rep_fbX : ∀ k, k ≤ n → Rep .f32 (fbX a b c u v w q s k) (vfb A B C U V' W Q U 3 S k)
  | 0, _ => hs
  | k + 1, hk => by
    show Rep .f32 _ (vgd (vup (vfQ U V' W Q k)) (vadd (vfb A B C U V' W Q U 3 S k) (vmul (vsub U (Q k 3)) (vfF A B C U V' W Q k))))
    cases h : vup (vfQ U V' W Q k)
    · trivial
    · rw [fbX_t (rep_up (rep_fbQ hu hv hw hq (show k < n by omega)) h)]
      exact rep_add (rep_fbX k (by omega)) (rep_mul (rep_sub hu (hq k 3 (by omega) (by decide))) (rep_fbF ha hb hc hu hv hw hq (by omega)))
theorem rep_fbY : ∀ k, k ≤ n → Rep .f32 (fbY a b c u v w q s k) (vfb A B C U V' W Q V' 4 S k)
  | 0, _ => hs
  | k + 1, hk => by
    show Rep .f32 _ (vgd (vup (vfQ U V' W Q k)) (vadd (vfb A B C U V' W Q V' 4 S k) (vmul (vsub V' (Q k 4)) (vfF A B C U V' W Q k))))
    cases h : vup (vfQ U V' W Q k)
    · trivial
    · rw [fbY_t (rep_up (rep_fbQ hu hv hw hq (show k < n by omega)) h)]
      exact rep_add (rep_fbY k (by omega)) (rep_mul (rep_sub hv (hq k 4 (by omega) (by decide))) (rep_fbF ha hb hc hu hv hw hq (by omega)))
theorem rep_fbZ : ∀ k, k ≤ n → Rep .f32 (fbZ a b c u v w q s k) (vfb A B C U V' W Q W 5 S k)
  | 0, _ => hs
  | k + 1, hk => by
    show Rep .f32 _ (vgd (vup (vfQ U V' W Q k)) (vadd (vfb A B C U V' W Q W 5 S k) (vmul (vsub W (Q k 5)) (vfF A B C U V' W Q k))))
    cases h : vup (vfQ U V' W Q k)
    · trivial
    · rw [fbZ_t (rep_up (rep_fbQ hu hv hw hq (show k < n by omega)) h)]
      exact rep_add (rep_fbZ k (by omega)) (rep_mul (rep_sub hw (hq k 5 (by omega) (by decide))) (rep_fbF ha hb hc hu hv hw hq (by omega)))
end
noncomputable def vst (t i m c : Nat) (S : V) : V := vfb (v8 0 i 0) (v8 0 i 1) (v8 0 i 2) (v8 0 i 3) (v8 0 i 4) (v8 0 i 5) (v8 t) (v8 0 i m) c S 32
theorem rep_foX {t : Nat} (ht : t < 5) {T : Nat → V} (h0 : T 0 = V.zero) {N : Nat} (hN : N ≤ 32) (h : ∀ i, i < N → vst t i 3 3 (T i) = T (i + 1)) : Rep .f32 (foX (pc (sqG 0) 8) (pc (sqG t) 8) 32 0 N) (T N) := by
  induction N with
  | zero => rw [h0]; exact rep0
  | succ N ih =>
    rw [← h N (by omega)]
    have r := fun d (hd : d < 6) => rep_p8 (t := 0) (by omega) (show N < 32 by omega) hd
    exact rep_fbX (r 0 (by decide)) (r 1 (by decide)) (r 2 (by decide)) (r 3 (by decide)) (r 4 (by decide)) (r 5 (by decide)) (fun j d hj hd => rep_p8 ht hj hd) (ih (by omega) fun i hi => h i (by omega)) 32 (by omega)
theorem rep_foY {t : Nat} (ht : t < 5) {T : Nat → V} (h0 : T 0 = V.zero) {N : Nat} (hN : N ≤ 32) (h : ∀ i, i < N → vst t i 4 4 (T i) = T (i + 1)) : Rep .f32 (foY (pc (sqG 0) 8) (pc (sqG t) 8) 32 0 N) (T N) := by
  induction N with
  | zero => rw [h0]; exact rep0
  | succ N ih =>
    rw [← h N (by omega)]
    have r := fun d (hd : d < 6) => rep_p8 (t := 0) (by omega) (show N < 32 by omega) hd
    exact rep_fbY (r 0 (by decide)) (r 1 (by decide)) (r 2 (by decide)) (r 3 (by decide)) (r 4 (by decide)) (r 5 (by decide)) (fun j d hj hd => rep_p8 ht hj hd) (ih (by omega) fun i hi => h i (by omega)) 32 (by omega)
theorem rep_foZ {t : Nat} (ht : t < 5) {T : Nat → V} (h0 : T 0 = V.zero) {N : Nat} (hN : N ≤ 32) (h : ∀ i, i < N → vst t i 5 5 (T i) = T (i + 1)) : Rep .f32 (foZ (pc (sqG 0) 8) (pc (sqG t) 8) 32 0 N) (T N) := by
  induction N with
  | zero => rw [h0]; exact rep0
  | succ N ih =>
    rw [← h N (by omega)]
    have r := fun d (hd : d < 6) => rep_p8 (t := 0) (by omega) (show N < 32 by omega) hd
    exact rep_fbZ (r 0 (by decide)) (r 1 (by decide)) (r 2 (by decide)) (r 3 (by decide)) (r 4 (by decide)) (r 5 (by decide)) (fun j d hj hd => rep_p8 ht hj hd) (ih (by omega) fun i hi => h i (by omega)) 32 (by omega)
noncomputable def v1 : V := vof .f32 1065353216
noncomputable def v2 : V := vof .f32 1073741824
noncomputable def vaX (t : Nat) (P Q R : V) : V := vadd V.zero (vmul (vsumF (vsegX SX SY (SZ t) 4 P Q R) 4) v1)
noncomputable def vaY (t : Nat) (P Q R : V) : V := vadd V.zero (vmul (vsumF (vsegY SX SY (SZ t) 4 P Q R) 4) v1)
noncomputable def vaZ (t : Nat) (P Q R : V) : V := vadd V.zero (vmul (vsumF (vsegZ SX SY (SZ t) 4 P Q R) 4) v1)
theorem one_w : ONE = 1065353216 := by decide +kernel
theorem two_w : TWO = 1073741824 := by decide +kernel
section
variable {t p q r : Nat} {P Q R : V} (ht : t < 5) (hp : Rep .f32 p P) (hq : Rep .f32 q Q) (hr : Rep .f32 r R)
include ht hp hq hr
theorem rep_aX : Rep .f32 (faX (l1N 4) (l1F (sqX ONE (hh t))) (l1F (sqY ONE (hh t))) (l1F (sqZ ONE (hh t))) (l1B true) (l1N ONE) p q r 0 1) (vaX t P Q R) :=
  rep_add rep0 (rep_mul (rep_fX (fun i => (rep_sq ht i).1) (fun i => (rep_sq ht i).2.1) (fun i => (rep_sq ht i).2.2) hp hq hr 4) (by
    have : Rep .f32 ONE v1 := by rw [one_w]; exact rep_of _ _
    exact this))
theorem rep_aY : Rep .f32 (faY (l1N 4) (l1F (sqX ONE (hh t))) (l1F (sqY ONE (hh t))) (l1F (sqZ ONE (hh t))) (l1B true) (l1N ONE) p q r 0 1) (vaY t P Q R) :=
  rep_add rep0 (rep_mul (rep_fY (fun i => (rep_sq ht i).1) (fun i => (rep_sq ht i).2.1) (fun i => (rep_sq ht i).2.2) hp hq hr 4) (by
    have : Rep .f32 ONE v1 := by rw [one_w]; exact rep_of _ _
    exact this))
theorem rep_aZ : Rep .f32 (faZ (l1N 4) (l1F (sqX ONE (hh t))) (l1F (sqY ONE (hh t))) (l1F (sqZ ONE (hh t))) (l1B true) (l1N ONE) p q r 0 1) (vaZ t P Q R) :=
  rep_add rep0 (rep_mul (rep_fZ (fun i => (rep_sq ht i).1) (fun i => (rep_sq ht i).2.1) (fun i => (rep_sq ht i).2.2) hp hq hr 4) (by
    have : Rep .f32 ONE v1 := by rw [one_w]; exact rep_of _ _
    exact this))
end
noncomputable def vcr (b c y z : V) : V := vsub (vmul b z) (vmul c y)
noncomputable def voX (t : Nat) (G : Nat → V) : V := vcr (G 1) (G 2) (vaY t (G 3) (G 4) (G 5)) (vaZ t (G 3) (G 4) (G 5))
noncomputable def voY (t : Nat) (G : Nat → V) : V := vcr (G 2) (G 0) (vaZ t (G 3) (G 4) (G 5)) (vaX t (G 3) (G 4) (G 5))
noncomputable def voZ (t : Nat) (G : Nat → V) : V := vcr (G 0) (G 1) (vaX t (G 3) (G 4) (G 5)) (vaY t (G 3) (G 4) (G 5))
noncomputable def vtX (t : Nat) (G : Nat → V) : V := vcr (vsub (G 4) V.zero) (vsub (G 5) V.zero) (vmul (voY t G) v2) (vmul (voZ t G) v2)
noncomputable def vtY (t : Nat) (G : Nat → V) : V := vcr (vsub (G 5) V.zero) (vsub (G 3) V.zero) (vmul (voZ t G) v2) (vmul (voX t G) v2)
noncomputable def vtZ (t : Nat) (G : Nat → V) : V := vcr (vsub (G 3) V.zero) (vsub (G 4) V.zero) (vmul (voX t G) v2) (vmul (voY t G) v2)
section
variable {t : Nat} {g : Nat → Nat} {G : Nat → V} (ht : t < 5) (hg : ∀ d, d < 6 → Rep .f32 (g d) (G d))
include ht hg
theorem rep_oX : Rep .f32 (onX 1 (l1N 4) (l1F (sqX ONE (hh t))) (l1F (sqY ONE (hh t))) (l1F (sqZ ONE (hh t))) (l1B true) (l1N ONE) g) (voX t G) :=
  rep_sub (rep_mul (hg 1 (by decide)) (rep_aZ ht (hg 3 (by decide)) (hg 4 (by decide)) (hg 5 (by decide)))) (rep_mul (hg 2 (by decide)) (rep_aY ht (hg 3 (by decide)) (hg 4 (by decide)) (hg 5 (by decide))))
theorem rep_oY : Rep .f32 (onY 1 (l1N 4) (l1F (sqX ONE (hh t))) (l1F (sqY ONE (hh t))) (l1F (sqZ ONE (hh t))) (l1B true) (l1N ONE) g) (voY t G) :=
  rep_sub (rep_mul (hg 2 (by decide)) (rep_aX ht (hg 3 (by decide)) (hg 4 (by decide)) (hg 5 (by decide)))) (rep_mul (hg 0 (by decide)) (rep_aZ ht (hg 3 (by decide)) (hg 4 (by decide)) (hg 5 (by decide))))
theorem rep_oZ : Rep .f32 (onZ 1 (l1N 4) (l1F (sqX ONE (hh t))) (l1F (sqY ONE (hh t))) (l1F (sqZ ONE (hh t))) (l1B true) (l1N ONE) g) (voZ t G) :=
  rep_sub (rep_mul (hg 0 (by decide)) (rep_aY ht (hg 3 (by decide)) (hg 4 (by decide)) (hg 5 (by decide)))) (rep_mul (hg 1 (by decide)) (rep_aX ht (hg 3 (by decide)) (hg 4 (by decide)) (hg 5 (by decide))))
omit ht hg in
theorem rep_two : Rep .f32 TWO v2 := by rw [two_w]; exact rep_of _ _
theorem rep_tX : Rep .f32 (tqX 1 (l1N 4) (l1F (sqX ONE (hh t))) (l1F (sqY ONE (hh t))) (l1F (sqZ ONE (hh t))) (l1B true) (l1N ONE) 0 0 0 TWO g) (vtX t G) :=
  rep_sub (rep_mul (rep_sub (hg 4 (by decide)) rep0) (rep_mul (rep_oZ ht hg) rep_two)) (rep_mul (rep_sub (hg 5 (by decide)) rep0) (rep_mul (rep_oY ht hg) rep_two))
theorem rep_tY : Rep .f32 (tqY 1 (l1N 4) (l1F (sqX ONE (hh t))) (l1F (sqY ONE (hh t))) (l1F (sqZ ONE (hh t))) (l1B true) (l1N ONE) 0 0 0 TWO g) (vtY t G) :=
  rep_sub (rep_mul (rep_sub (hg 5 (by decide)) rep0) (rep_mul (rep_oX ht hg) rep_two)) (rep_mul (rep_sub (hg 3 (by decide)) rep0) (rep_mul (rep_oZ ht hg) rep_two))
theorem rep_tZ : Rep .f32 (tqZ 1 (l1N 4) (l1F (sqX ONE (hh t))) (l1F (sqY ONE (hh t))) (l1F (sqZ ONE (hh t))) (l1B true) (l1N ONE) 0 0 0 TWO g) (vtZ t G) :=
  rep_sub (rep_mul (rep_sub (hg 3 (by decide)) rep0) (rep_mul (rep_oY ht hg) rep_two)) (rep_mul (rep_sub (hg 4 (by decide)) rep0) (rep_mul (rep_oX ht hg) rep_two))
end
theorem rep_sumW {f : Nat → Nat} {F : Nat → V} : ∀ {n : Nat}, (∀ j, j < n → Rep .f32 (f j) (F j)) → Rep .f32 (sumW f n) (vsumF F n)
  | 0, _ => rep0
  | n + 1, h => rep_add (rep_sumW fun j hj => h j (by omega)) (h n (by omega))
end Go.Fw.E1

/-
  Squares above one another: what the law asks of them.
-/
namespace Go.Fw.E1
open Go.Proofs
noncomputable def vON (F : Nat → (Nat → V) → V) (t : Nat) : V := vmul (vsumF (fun j => F t (v8 0 j)) 32) v2
noncomputable def vTQ (F : Nat → (Nat → V) → V) (t : Nat) : V := vsumF (fun j => F t (v4 j)) 16
noncomputable def vFW (f : V) : V := vmul f (vmul v2 v1)
noncomputable def gd3 (a b c : V) : Bool := band (vgood a) (band (vgood b) (vgood c))
noncomputable def gAt (t : Nat) (G : Nat → V) : Bool := band (gd3 (G 3) (G 4) (G 5)) (gd3 (vaX t (G 3) (G 4) (G 5)) (vaY t (G 3) (G 4) (G 5)) (vaZ t (G 3) (G 4) (G 5)))
theorem sqok_tab : allUpTo (fun t => sqOk ONE (hh t) ONE && sqOk ONE (hh t) TWO) 5 = true := by decide +kernel
theorem c05 : Val .f64 (can .f64 4587366580439587226) (3602879701896397 / 2 ^ 56) := Val.of_vof (by decide +kernel)
theorem c001 : Val .f64 (can .f64 4576918229304087675) (5764607523034235 / 2 ^ 59) := Val.of_vof (by decide +kernel)
theorem lt9d {x y : Nat} {a l : Rat} (hx : Val .f32 x a) (hy : Val .f32 y l) (l0 : 0 ≤ l) (l9 : l ≤ 100) (h : a + 1 / 1000000 ≤ 49 / 1000 * l) : (forder .f64 (fcvt .f32 .f64 x) (fop .mul .f64 (can .f64 4587366580439587226) (fcvt .f32 .f64 y)) == some .lt) = true := by
  have n1 : Near (3602879701896397 / 2 ^ 56 : Rat) 1 := by constructor <;> decide +kernel
  have n2 : Near l 100 := by unfold Near; constructor <;> grind
  obtain ⟨K, K1, K2⟩ := c05.mul hy.widen (n1.mul n2) (by decide +kernel)
  have K2 := K2.mono (show (1 * 100 : Rat) * ur .f64 + tiny .f64 ≤ 1 / 10000000 by decide +kernel)
  have k := Rat.mul_le_mul_of_nonneg_right (show (49 / 1000 : Rat) ≤ 3602879701896397 / 2 ^ 56 by decide +kernel) l0
  have k2 : (1 / 10000000 : Rat) < 1 / 1000000 := by decide +kernel
  rw [forder_lt hx.widen K1 (by unfold Near at K2; grind)]
  rfl
theorem lt9q {x : Nat} {a : Rat} (hx : Val .f32 x a) (h : a ≤ 9 / 1000) : (forder .f64 (fcvt .f32 .f64 x) (can .f64 4576918229304087675) == some .lt) = true := by
  have k : (9 / 1000 : Rat) < 5764607523034235 / 2 ^ 59 := by decide +kernel
  rw [forder_lt hx.widen c001 (by grind)]
  rfl
theorem band_t {a b : Bool} (h : band a b = true) : a = true ∧ b = true := by rw [band_eq, Bool.and_eq_true] at h; exact h
theorem gd3_t {a b c : V} (h : gd3 a b c = true) : vgood a = true ∧ vgood b = true ∧ vgood c = true := ⟨(band_t h).1, (band_t (band_t h).2).1, (band_t (band_t h).2).2⟩
theorem vfinR {x y z : Nat} {a b c : V} (hx : Rep .f32 x a) (hy : Rep .f32 y b) (hz : Rep .f32 z c) (h : gd3 a b c = true) : vfin x y z = true := by
  obtain ⟨h1, h2, h3⟩ := gd3_t h
  unfold vfin
  rw [rep_fin hx h1, rep_fin hy h2, rep_fin hz h3]
  rfl
theorem okA {t : Nat} (ht : t < 5) {gg : Nat → Nat → Nat} {G : Nat → V} {j : Nat} (hg : ∀ d, d < 6 → Rep .f32 (gg j d) (G d)) (h : gAt t G = true) : onOk 1 (l1N 4) (l1F (sqX ONE (hh t))) (l1F (sqY ONE (hh t))) (l1F (sqZ ONE (hh t))) (l1B true) (l1N ONE) gg j = true := by
  obtain ⟨h1, h2⟩ := band_t h
  have g3 := hg 3 (by decide)
  have g4 := hg 4 (by decide)
  have g5 := hg 5 (by decide)
  have e1 := vfinR g3 g4 g5 h1
  have e2 := vfinR (rep_aX ht g3 g4 g5) (rep_aY ht g3 g4 g5) (rep_aZ ht g3 g4 g5) h2
  have sw : allUpTo (smallW (l1N 4)) 1 = true := rfl
  unfold onOk faG fOkA
  rw [sw, e1, e2]
  rfl
section
variable {t : Nat} (ht : t < 5) {fx fy fz : V} (rx : Rep .f32 (foX (pc (sqG 0) 8) (pc (sqG t) 8) 32 0 32) fx) (ry : Rep .f32 (foY (pc (sqG 0) 8) (pc (sqG t) 8) 32 0 32) fy) (rz : Rep .f32 (foZ (pc (sqG 0) 8) (pc (sqG t) 8) 32 0 32) fz)
  (g8 : allUpTo (fun j => gAt t (v8 0 j)) 32 = true) (g4 : allUpTo (fun j => gAt t (v4 j)) 16 = true) (gf : gd3 (vFW fx) (vFW fy) (vFW fz) = true) (go : gd3 (vON voX t) (vON voY t) (vON voZ t) = true) (gt : gd3 (vTQ vtX t) (vTQ vtY t) (vTQ vtZ t) = true)
  {qz qd ql qt : Rat} (hz : isV .f32 (vON voZ t) qz = true) (z0 : 0 < qz) (hd : isV .f32 (vlong (vsub (vON voX t) (vFW fx)) (vsub (vON voY t) (vFW fy)) (vsub (vON voZ t) (vFW fz))) qd = true) (hl : isV .f32 (vlong (vON voX t) (vON voY t) (vON voZ t)) ql = true)
  (l0 : 0 ≤ ql) (l9 : ql ≤ 100) (dl : qd + 1 / 1000000 ≤ 49 / 1000 * ql) (hq : isV .f32 (vlong (vTQ vtX t) (vTQ vtY t) (vTQ vtZ t)) qt = true) (q9' : qt ≤ 9 / 1000)
include ht rx ry rz g8 g4 gf go gt hz z0 hd hl l0 l9 dl hq q9'
theorem sqr9 : d9 (hh t) = true ∧ v9 (hh t) = true := by
  have R8 := fun j (hj : j < 32) d (hd : d < 6) => rep_p8 (t := 0) (by decide) hj hd
  have R4 := fun j (hj : j < 16) d (hd : d < 6) => rep_p4 hj hd
  have X : Rep .f32 (onFX 1 (l1N 4) (l1F (sqX ONE (hh t))) (l1F (sqY ONE (hh t))) (l1F (sqZ ONE (hh t))) (l1B true) (l1N ONE) 4 TWO (sqX ONE (hh 0)) (sqY ONE (hh 0)) (sqZ ONE (hh 0)) true 8) (vON voX t) := rep_mul (rep_sumW (n := 32) fun j hj => rep_oX ht (R8 j hj)) rep_two
  have Y : Rep .f32 (onFY 1 (l1N 4) (l1F (sqX ONE (hh t))) (l1F (sqY ONE (hh t))) (l1F (sqZ ONE (hh t))) (l1B true) (l1N ONE) 4 TWO (sqX ONE (hh 0)) (sqY ONE (hh 0)) (sqZ ONE (hh 0)) true 8) (vON voY t) := rep_mul (rep_sumW (n := 32) fun j hj => rep_oY ht (R8 j hj)) rep_two
  have Z : Rep .f32 (onFZ 1 (l1N 4) (l1F (sqX ONE (hh t))) (l1F (sqY ONE (hh t))) (l1F (sqZ ONE (hh t))) (l1B true) (l1N ONE) 4 TWO (sqX ONE (hh 0)) (sqY ONE (hh 0)) (sqZ ONE (hh 0)) true 8) (vON voZ t) := rep_mul (rep_sumW (n := 32) fun j hj => rep_oZ ht (R8 j hj)) rep_two
  have r1 : Rep .f32 ONE v1 := by rw [one_w]; exact rep_of _ _
  have FX : Rep .f32 (fwXb 4 TWO (sqX ONE (hh 0)) (sqY ONE (hh 0)) (sqZ ONE (hh 0)) true 4 ONE (sqX ONE (hh t)) (sqY ONE (hh t)) (sqZ ONE (hh t)) true 8) (vFW fx) := rep_mul rx (rep_mul rep_two r1)
  have FY : Rep .f32 (fwYb 4 TWO (sqX ONE (hh 0)) (sqY ONE (hh 0)) (sqZ ONE (hh 0)) true 4 ONE (sqX ONE (hh t)) (sqY ONE (hh t)) (sqZ ONE (hh t)) true 8) (vFW fy) := rep_mul ry (rep_mul rep_two r1)
  have FZ : Rep .f32 (fwZb 4 TWO (sqX ONE (hh 0)) (sqY ONE (hh 0)) (sqZ ONE (hh 0)) true 4 ONE (sqX ONE (hh t)) (sqY ONE (hh t)) (sqZ ONE (hh t)) true 8) (vFW fz) := rep_mul rz (rep_mul rep_two r1)
  have TX : Rep .f32 (tqF (tqX 1 (l1N 4) (l1F (sqX ONE (hh t))) (l1F (sqY ONE (hh t))) (l1F (sqZ ONE (hh t))) (l1B true) (l1N ONE) 0 0 0 TWO) 4 (sqX ONE (hh 0)) (sqY ONE (hh 0)) (sqZ ONE (hh 0)) true 4) (vTQ vtX t) := rep_sumW (n := 16) fun j hj => rep_tX ht (R4 j hj)
  have TY : Rep .f32 (tqF (tqY 1 (l1N 4) (l1F (sqX ONE (hh t))) (l1F (sqY ONE (hh t))) (l1F (sqZ ONE (hh t))) (l1B true) (l1N ONE) 0 0 0 TWO) 4 (sqX ONE (hh 0)) (sqY ONE (hh 0)) (sqZ ONE (hh 0)) true 4) (vTQ vtY t) := rep_sumW (n := 16) fun j hj => rep_tY ht (R4 j hj)
  have TZ : Rep .f32 (tqF (tqZ 1 (l1N 4) (l1F (sqX ONE (hh t))) (l1F (sqY ONE (hh t))) (l1F (sqZ ONE (hh t))) (l1B true) (l1N ONE) 0 0 0 TWO) 4 (sqX ONE (hh 0)) (sqY ONE (hh 0)) (sqZ ONE (hh 0)) true 4) (vTQ vtZ t) := rep_sumW (n := 16) fun j hj => rep_tZ ht (R4 j hj)
  have so := allUpTo_iff.1 sqok_tab t ht
  rw [Bool.and_eq_true] at so
  have lo := allUpTo_iff.1 sqok_tab 0 (by decide)
  rw [Bool.and_eq_true] at lo
  have okH : okW 4 ONE (sqX ONE (hh t)) (sqY ONE (hh t)) (sqZ ONE (hh t)) = true := by
    have := so.1
    unfold sqOk at this
    rw [Bool.and_eq_true] at this
    exact this.2
  have okL : okW 4 TWO (sqX ONE (hh 0)) (sqY ONE (hh 0)) (sqZ ONE (hh 0)) = true := by
    have := lo.2
    unfold sqOk at this
    rw [Bool.and_eq_true] at this
    exact this.2
  have h1 : allUpTo (shortW (l1N 4)) 1 = true := rfl
  have h2 : areW 1 (l1N 4) (l1F (sqX ONE (hh t))) (l1F (sqY ONE (hh t))) (l1F (sqZ ONE (hh t))) (l1N ONE) = true := by
    unfold areW
    have : allUpTo (okAt (l1N 4) (l1F (sqX ONE (hh t))) (l1F (sqY ONE (hh t))) (l1F (sqZ ONE (hh t))) (l1N ONE)) 1 = true := allUpTo_iff.2 fun i hi => by
      match i, hi with
      | 0, _ => exact okH
    rw [this]; rfl
  have h8 : allUpTo (onOk 1 (l1N 4) (l1F (sqX ONE (hh t))) (l1F (sqY ONE (hh t))) (l1F (sqZ ONE (hh t))) (l1B true) (l1N ONE) (pc (sg 4 (sqX ONE (hh 0)) (sqY ONE (hh 0)) (sqZ ONE (hh 0))) 8)) (8 * cnt 4 true) = true := allUpTo_iff.2 fun j hj => okA ht (R8 j hj) (allUpTo_iff.1 g8 j hj)
  have h4 : allUpTo (onOk 1 (l1N 4) (l1F (sqX ONE (hh t))) (l1F (sqY ONE (hh t))) (l1F (sqZ ONE (hh t))) (l1B true) (l1N ONE) (pc (sg 4 (sqX ONE (hh 0)) (sqY ONE (hh 0)) (sqZ ONE (hh 0))) 4)) (4 * cnt 4 true) = true := allUpTo_iff.2 fun j hj => okA ht (R4 j hj) (allUpTo_iff.1 g4 j hj)
  have f0 : vfin 0 0 0 = true := by decide +kernel
  constructor
  · unfold d9
    rw [can0]
    have c1 : onC 1 (l1N 4) (l1F (sqX ONE (hh t))) (l1F (sqY ONE (hh t))) (l1F (sqZ ONE (hh t))) (l1B true) (l1N ONE) 4 TWO (sqX ONE (hh 0)) (sqY ONE (hh 0)) (sqZ ONE (hh 0)) true 8 = true := by
      unfold onC onA
      rw [h1, h2, h8, okL, vfinR X Y Z go]
      rfl
    have c2 : fbOk 4 TWO (sqX ONE (hh 0)) (sqY ONE (hh 0)) (sqZ ONE (hh 0)) true 4 ONE (sqX ONE (hh t)) (sqY ONE (hh t)) (sqZ ONE (hh t)) true 8 = true := by
      unfold fbOk two3
      rw [okL, okH, vfinR FX FY FZ gf]
      rfl
    have c3 : tqC 1 (l1N 4) (l1F (sqX ONE (hh t))) (l1F (sqY ONE (hh t))) (l1F (sqZ ONE (hh t))) (l1B true) (l1N ONE) 4 TWO (sqX ONE (hh 0)) (sqY ONE (hh 0)) (sqZ ONE (hh 0)) true 0 0 0 4 = true := by
      unfold tqC tqA
      rw [h1, h2, h4, okL, vfinR TX TY TZ gt, f0]
      rfl
    have e0 : hh 0 = 0 := rfl
    rw [e0] at c1 c2 c3
    rw [so.1, c1, c2, c3]
    rfl
  · have z0' : Val .f32 (can .f32 0) 0 := Val.of_vof (by decide +kernel)
    have vz := Val.of_rep Z hz
    have vd := Val.of_rep (rep_long (rep_sub X FX) (rep_sub Y FY) (rep_sub Z FZ)) hd
    have vl' := Val.of_rep (rep_long X Y Z) hl
    have vq := Val.of_rep (rep_long TX TY TZ) hq
    have g1 := forder_gt vz z0' z0
    have g2 := lt9d vd vl' l0 l9 dl
    have g3 := lt9q vq q9'
    have e0 : hh 0 = can .f32 0 := can0.symm
    rw [e0] at g1 g2 g3
    unfold v9
    rw [g1, g2, g3]
    rfl
end
end Go.Fw.E1

/-
  Squares above one another, height 3: the force's partial sums.
-/
namespace Go.Fw.E1
open Go.Proofs
def fX1 (i : Nat) : Nat := [0, 3147704516, 3154854590, 3157324184, 3158165239, 3157324183, 3154854588, 3147704513, 809500672, 3164362900, 3172941016, 3178385940, 3181590647, 3184347108, 3187069571, 3188698469, 3189979256, 3189655346, 3189408844, 3189254494, 3189201928, 3189254494, 3189408844, 3189655346, 3189979256, 3188698469, 3187069570, 3184347107, 3181590646, 3178385939, 3172941015, 3164362898, 831520768].getD i 0
set_option maxRecDepth 100000 in
theorem fX1_tab : allUpTo (fun i => vbeq (vst 1 i 3 3 (vof .f32 (fX1 i))) (vof .f32 (fX1 (i + 1)))) 32 = true := by decide +kernel
theorem rep_fX1 : Rep .f32 (foX (pc (sqG 0) 8) (pc (sqG 1) 8) 32 0 32) (vof .f32 (fX1 32)) := rep_foX (T := fun i => vof .f32 (fX1 i)) (by decide) (by show vof .f32 (fX1 0) = V.zero; kernel_rfl) (by decide) fun i hi => vbeq_eq (allUpTo_iff.1 fX1_tab i hi)
def fY1 (i : Nat) : Nat := [0, 1016879252, 1025457368, 1030902292, 1034106999, 1036863460, 1039585923, 1041214821, 1042495608, 1042171698, 1041925196, 1041770846, 1041718280, 1041770846, 1041925196, 1042171698, 1042495608, 1041214821, 1039585922, 1036863459, 1034106998, 1030902291, 1025457367, 1016879250, 2979004416, 1000220858, 1007370936, 1009840530, 1010681584, 1009840528, 1007370933, 1000220853, 2986344448].getD i 0
set_option maxRecDepth 100000 in
theorem fY1_tab : allUpTo (fun i => vbeq (vst 1 i 4 4 (vof .f32 (fY1 i))) (vof .f32 (fY1 (i + 1)))) 32 = true := by decide +kernel
theorem rep_fY1 : Rep .f32 (foY (pc (sqG 0) 8) (pc (sqG 1) 8) 32 0 32) (vof .f32 (fY1 32)) := rep_foY (T := fun i => vof .f32 (fY1 i)) (by decide) (by show vof .f32 (fY1 0) = V.zero; kernel_rfl) (by decide) fun i hi => vbeq_eq (allUpTo_iff.1 fY1_tab i hi)
def fZ1 (i : Nat) : Nat := [0, 1016850060, 1025597892, 1031322470, 1034489872, 1037419117, 1040234400, 1041601345, 1042878483, 1044155621, 1045522566, 1046953712, 1048418333, 1049229477, 1049945049, 1050628521, 1051267089, 1051905657, 1052589129, 1053304701, 1054037011, 1054769321, 1055484893, 1056168365, 1056806933, 1057205055, 1057546792, 1057904578, 1058270734, 1058636890, 1058994676, 1059336412, 1059655697].getD i 0
set_option maxRecDepth 100000 in
theorem fZ1_tab : allUpTo (fun i => vbeq (vst 1 i 5 5 (vof .f32 (fZ1 i))) (vof .f32 (fZ1 (i + 1)))) 32 = true := by decide +kernel
theorem rep_fZ1 : Rep .f32 (foZ (pc (sqG 0) 8) (pc (sqG 1) 8) 32 0 32) (vof .f32 (fZ1 32)) := rep_foZ (T := fun i => vof .f32 (fZ1 i)) (by decide) (by show vof .f32 (fZ1 0) = V.zero; kernel_rfl) (by decide) fun i hi => vbeq_eq (allUpTo_iff.1 fZ1_tab i hi)
end Go.Fw.E1

/-
  Squares above one another, height 4: the force's partial sums.
-/
namespace Go.Fw.E1
open Go.Proofs
def fX2 (i : Nat) : Nat := [0, 3133918933, 3140609090, 3143684876, 3144725191, 3143684877, 3140609091, 3133918938, 2961178624, 3156860412, 3165389890, 3171043910, 3173970703, 3176897496, 3179540990, 3180967758, 3182359310, 3182150610, 3181994987, 3181898868, 3181866358, 3181898868, 3181994987, 3182150610, 3182359310, 3180967759, 3179540990, 3176897497, 3173970704, 3171043911, 3165389893, 3156860418, 2983723008].getD i 0
set_option maxRecDepth 100000 in
theorem fX2_tab : allUpTo (fun i => vbeq (vst 2 i 3 3 (vof .f32 (fX2 i))) (vof .f32 (fX2 (i + 1)))) 32 = true := by decide +kernel
theorem rep_fX2 : Rep .f32 (foX (pc (sqG 0) 8) (pc (sqG 2) 8) 32 0 32) (vof .f32 (fX2 32)) := rep_foX (T := fun i => vof .f32 (fX2 i)) (by decide) (by show vof .f32 (fX2 0) = V.zero; kernel_rfl) (by decide) fun i hi => vbeq_eq (allUpTo_iff.1 fX2_tab i hi)
def fY2 (i : Nat) : Nat := [0, 1009376763, 1017906241, 1023560261, 1026487054, 1029413847, 1032057341, 1033484110, 1034875662, 1034666962, 1034511339, 1034415220, 1034382710, 1034415220, 1034511339, 1034666962, 1034875662, 1033484111, 1032057342, 1029413849, 1026487056, 1023560263, 1017906245, 1009376770, 836239360, 986435341, 993125468, 996201254, 997241567, 996201252, 993125466, 986435338, 836173824].getD i 0
set_option maxRecDepth 100000 in
theorem fY2_tab : allUpTo (fun i => vbeq (vst 2 i 4 4 (vof .f32 (fY2 i))) (vof .f32 (fY2 (i + 1)))) 32 = true := by decide +kernel
theorem rep_fY2 : Rep .f32 (foY (pc (sqG 0) 8) (pc (sqG 2) 8) 32 0 32) (vof .f32 (fY2 32)) := rep_foY (T := fun i => vof .f32 (fY2 i)) (by decide) (by show vof .f32 (fY2 0) = V.zero; kernel_rfl) (by decide) fun i hi => vbeq_eq (allUpTo_iff.1 fY2_tab i hi)
def fZ2 (i : Nat) : Nat := [0, 1006505668, 1015148459, 1019634824, 1023800011, 1026077522, 1028320706, 1030497217, 1032188620, 1033229239, 1034317493, 1035439085, 1036577842, 1037716599, 1038838190, 1039926443, 1040577228, 1041097538, 1041641666, 1042202461, 1042771839, 1043341217, 1043902012, 1044446139, 1044966449, 1045486758, 1046030885, 1046591680, 1047161058, 1047730436, 1048291231, 1048705679, 1048965835].getD i 0
set_option maxRecDepth 100000 in
theorem fZ2_tab : allUpTo (fun i => vbeq (vst 2 i 5 5 (vof .f32 (fZ2 i))) (vof .f32 (fZ2 (i + 1)))) 32 = true := by decide +kernel
theorem rep_fZ2 : Rep .f32 (foZ (pc (sqG 0) 8) (pc (sqG 2) 8) 32 0 32) (vof .f32 (fZ2 32)) := rep_foZ (T := fun i => vof .f32 (fZ2 i)) (by decide) (by show vof .f32 (fZ2 0) = V.zero; kernel_rfl) (by decide) fun i hi => vbeq_eq (allUpTo_iff.1 fZ2_tab i hi)
end Go.Fw.E1

/-
  Squares above one another, height 5: the force's partial sums.
-/
namespace Go.Fw.E1
open Go.Proofs
def fX3 (i : Nat) : Nat := [0, 3122475787, 3129506329, 3131829189, 3132611476, 3131829189, 3129506330, 3122475788, 2936012800, 3150376104, 3158882088, 3164051584, 3167429839, 3170808094, 3172529926, 3174188860, 3175818450, 3175657476, 3175538942, 3175466352, 3175441906, 3175466352, 3175538942, 3175657476, 3175818450, 3174188860, 3172529926, 3170808094, 3167429839, 3164051584, 3158882088, 3150376104, 2936012800].getD i 0
set_option maxRecDepth 100000 in
theorem fX3_tab : allUpTo (fun i => vbeq (vst 3 i 3 3 (vof .f32 (fX3 i))) (vof .f32 (fX3 (i + 1)))) 32 = true := by decide +kernel
theorem rep_fX3 : Rep .f32 (foX (pc (sqG 0) 8) (pc (sqG 3) 8) 32 0 32) (vof .f32 (fX3 32)) := rep_foX (T := fun i => vof .f32 (fX3 i)) (by decide) (by show vof .f32 (fX3 0) = V.zero; kernel_rfl) (by decide) fun i hi => vbeq_eq (allUpTo_iff.1 fX3_tab i hi)
def fY3 (i : Nat) : Nat := [0, 1002892456, 1011398440, 1016567936, 1019946191, 1023324446, 1025046278, 1026705212, 1028334802, 1028173828, 1028055294, 1027982704, 1027958258, 1027982704, 1028055294, 1028173828, 1028334802, 1026705212, 1025046278, 1023324446, 1019946191, 1016567936, 1011398440, 1002892456, 788529152, 974992137, 982022680, 984345539, 985127826, 984345539, 982022679, 974992131, 2947022848].getD i 0
set_option maxRecDepth 100000 in
theorem fY3_tab : allUpTo (fun i => vbeq (vst 3 i 4 4 (vof .f32 (fY3 i))) (vof .f32 (fY3 (i + 1)))) 32 = true := by decide +kernel
theorem rep_fY3 : Rep .f32 (foY (pc (sqG 0) 8) (pc (sqG 3) 8) 32 0 32) (vof .f32 (fY3 32)) := rep_foY (T := fun i => vof .f32 (fY3 i)) (by decide) (by show vof .f32 (fY3 0) = V.zero; kernel_rfl) (by decide) fun i hi => vbeq_eq (allUpTo_iff.1 fY3_tab i hi)
def fZ3 (i : Nat) : Nat := [0, 997073601, 1005709667, 1010282062, 1014436418, 1016806172, 1018861548, 1020874220, 1022825030, 1024093006, 1025099343, 1026127032, 1027165623, 1028204214, 1029231904, 1030238244, 1031213647, 1031993917, 1032497085, 1033010928, 1033530222, 1034049518, 1034563362, 1035066530, 1035554231, 1036041932, 1036545100, 1037058944, 1037578239, 1038097534, 1038611378, 1039114546, 1039602247].getD i 0
set_option maxRecDepth 100000 in
theorem fZ3_tab : allUpTo (fun i => vbeq (vst 3 i 5 5 (vof .f32 (fZ3 i))) (vof .f32 (fZ3 (i + 1)))) 32 = true := by decide +kernel
theorem rep_fZ3 : Rep .f32 (foZ (pc (sqG 0) 8) (pc (sqG 3) 8) 32 0 32) (vof .f32 (fZ3 32)) := rep_foZ (T := fun i => vof .f32 (fZ3 i)) (by decide) (by show vof .f32 (fZ3 0) = V.zero; kernel_rfl) (by decide) fun i hi => vbeq_eq (allUpTo_iff.1 fZ3_tab i hi)
end Go.Fw.E1

/-
  Squares above one another, height 6: the force's partial sums.
-/
namespace Go.Fw.E1
open Go.Proofs
def fX4 (i : Nat) : Nat := [0, 3112897452, 3119553936, 3122085270, 3122766129, 3122085270, 3119553937, 3112897451, 788529152, 3145274177, 3153771458, 3158116094, 3162306793, 3164501353, 3166587383, 3168654975, 3170695398, 3170553012, 3170449002, 3170385652, 3170364375, 3170385652, 3170449002, 3170553009, 3170695391, 3168654968, 3166587376, 3164501346, 3162306779, 3158116080, 3153771429, 3145274118, 846233600].getD i 0
set_option maxRecDepth 100000 in
theorem fX4_tab : allUpTo (fun i => vbeq (vst 4 i 3 3 (vof .f32 (fX4 i))) (vof .f32 (fX4 (i + 1)))) 32 = true := by decide +kernel
theorem rep_fX4 : Rep .f32 (foX (pc (sqG 0) 8) (pc (sqG 4) 8) 32 0 32) (vof .f32 (fX4 32)) := rep_foX (T := fun i => vof .f32 (fX4 i)) (by decide) (by show vof .f32 (fX4 0) = V.zero; kernel_rfl) (by decide) fun i hi => vbeq_eq (allUpTo_iff.1 fX4_tab i hi)
def fY4 (i : Nat) : Nat := [0, 997790529, 1006287810, 1010632446, 1014823145, 1017017705, 1019103735, 1021171327, 1023211750, 1023069368, 1022965361, 1022902011, 1022880734, 1022902011, 1022965361, 1023069369, 1023211753, 1021171330, 1019103738, 1017017708, 1014823151, 1010632452, 1006287821, 997790550, 832503808, 965413969, 972070452, 974601702, 975282562, 974601702, 972070450, 965413963, 832290816].getD i 0
set_option maxRecDepth 100000 in
theorem fY4_tab : allUpTo (fun i => vbeq (vst 4 i 4 4 (vof .f32 (fY4 i))) (vof .f32 (fY4 (i + 1)))) 32 = true := by decide +kernel
theorem rep_fY4 : Rep .f32 (foY (pc (sqG 0) 8) (pc (sqG 4) 8) 32 0 32) (vof .f32 (fY4 32)) := rep_foY (T := fun i => vof .f32 (fY4 i)) (by decide) (by show vof .f32 (fY4 0) = V.zero; kernel_rfl) (by decide) fun i hi => vbeq_eq (allUpTo_iff.1 fY4_tab i hi)
def fZ4 (i : Nat) : Nat := [0, 989370732, 997947386, 1002327260, 1006591324, 1008744171, 1010859873, 1012943413, 1014979937, 1016019015, 1017060784, 1018118634, 1019184652, 1020250670, 1021308520, 1022350291, 1023368557, 1023898497, 1024419382, 1024948309, 1025481318, 1026014327, 1026543253, 1027064139, 1027573272, 1028082405, 1028603291, 1029132217, 1029665227, 1030198237, 1030727164, 1031248051, 1031757184].getD i 0
set_option maxRecDepth 100000 in
theorem fZ4_tab : allUpTo (fun i => vbeq (vst 4 i 5 5 (vof .f32 (fZ4 i))) (vof .f32 (fZ4 (i + 1)))) 32 = true := by decide +kernel
theorem rep_fZ4 : Rep .f32 (foZ (pc (sqG 0) 8) (pc (sqG 4) 8) 32 0 32) (vof .f32 (fZ4 32)) := rep_foZ (T := fun i => vof .f32 (fZ4 i)) (by decide) (by show vof .f32 (fZ4 0) = V.zero; kernel_rfl) (by decide) fun i hi => vbeq_eq (allUpTo_iff.1 fZ4_tab i hi)
end Go.Fw.E1

/-
  Squares above one another: all heights.
-/
namespace Go.Fw.E1
open Go.Proofs
set_option maxRecDepth 100000 in
theorem sqr9_1 : d9 (hh 1) = true ∧ v9 (hh 1) = true := by
  refine sqr9 (t := 1) (by decide) rep_fX1 rep_fY1 rep_fZ1 (by decide +kernel) (by decide +kernel) (by decide +kernel) (by decide +kernel) (by decide +kernel) (qz := (11070603 / 8388608)) (qd := (4547 / 4194304)) (ql := (11070603 / 8388608)) (qt := (15588203 / 281474976710656)) (by decide +kernel) (by decide +kernel) (by decide +kernel) (by decide +kernel) (by decide +kernel) (by decide +kernel) (by decide +kernel) (by decide +kernel) (by decide +kernel)
set_option maxRecDepth 100000 in
theorem sqr9_2 : d9 (hh 2) = true ∧ v9 (hh 2) = true := by
  refine sqr9 (t := 2) (by decide) rep_fX2 rep_fY2 rep_fZ2 (by decide +kernel) (by decide +kernel) (by decide +kernel) (by decide +kernel) (by decide +kernel) (qz := (8773475 / 16777216)) (qd := (621 / 2097152)) (ql := (8773475 / 16777216)) (qt := (1 / 134217728)) (by decide +kernel) (by decide +kernel) (by decide +kernel) (by decide +kernel) (by decide +kernel) (by decide +kernel) (by decide +kernel) (by decide +kernel) (by decide +kernel)
set_option maxRecDepth 100000 in
theorem sqr9_3 : d9 (hh 3) = true ∧ v9 (hh 3) = true := by
  refine sqr9 (t := 3) (by decide) rep_fX3 rep_fY3 rep_fZ3 (by decide +kernel) (by decide +kernel) (by decide +kernel) (by decide +kernel) (by decide +kernel) (qz := (16185509 / 67108864)) (qd := (3281 / 33554432)) (ql := (16185509 / 67108864)) (qt := (11863283 / 2251799813685248)) (by decide +kernel) (by decide +kernel) (by decide +kernel) (by decide +kernel) (by decide +kernel) (by decide +kernel) (by decide +kernel) (by decide +kernel) (by decide +kernel)
set_option maxRecDepth 100000 in
theorem sqr9_4 : d9 (hh 4) = true ∧ v9 (hh 4) = true := by
  refine sqr9 (t := 4) (by decide) rep_fX4 rep_fY4 rep_fZ4 (by decide +kernel) (by decide +kernel) (by decide +kernel) (by decide +kernel) (by decide +kernel) (qz := (8365263 / 67108864)) (qd := (10424323 / 274877906944)) (ql := (8365263 / 67108864)) (qt := (0 / 1)) (by decide +kernel) (by decide +kernel) (by decide +kernel) (by decide +kernel) (by decide +kernel) (by decide +kernel) (by decide +kernel) (by decide +kernel) (by decide +kernel)
theorem h9_hh : allUpTo (fun v => Nat.beq (h9 (Int.ofNat v)) (hh (v + 1))) 4 = true := by decide +kernel
theorem square9 {v : Nat} (hv : v < 4) : d9 (h9 (Int.ofNat v)) = true ∧ v9 (h9 (Int.ofNat v)) = true := by
  rw [Nat.eq_of_beq_eq_true (allUpTo_iff.1 h9_hh v hv)]
  match v, hv with
  | 0, _ => exact sqr9_1
  | 1, _ => exact sqr9_2
  | 2, _ => exact sqr9_3
  | 3, _ => exact sqr9_4
end Go.Fw.E1

/-
  Wires of quarters: turned ones are finite, and as long, nearly.
-/
namespace Go.Fw.E1
open Go.Proofs
section
variable {t : Nat} {C S : Rat} (hc : Val .f32 (cT t) C) (hs : Val .f32 (sT t) S) (hC : Near (C * C + S * S - 1) (2 * ur .f32))
include hc hs hC
end
end Go.Fw.E1

/-
  Wires of quarters: turned ones are as long, nearly.
-/
namespace Go.Fw.E1
open Go.Proofs
section
variable {t n : Nat} {x y z : Nat → Nat} {C S : Rat} (hc : Val .f32 (cT t) C) (hs : Val .f32 (sT t) S) (hC : Near (C * C + S * S - 1) (2 * ur .f32)) (hx : Qs x) (hy : Qs y) (hz : Qs z) (h0 : 2 ≤ n) (h6 : n ≤ 6)
include hc hs hC hx hy hz h0 h6
end
end Go.Fw.E1

/-
  The law of wires.
-/
namespace Go.Fw.E1
open Go.Proofs
section
variable {n c p q r t : Nat} {x y z : Nat → Nat} {C S : Rat}
  (hc : Val .f32 (cT t) C) (hs : Val .f32 (sT t) S) (hC : Near (C * C + S * S - 1) (2 * ur .f32)) (ht : fin t = true)
  (hx : Qs x) (hy : Qs y) (hz : Qs z) (h0 : 2 ≤ n) (h6 : n ≤ 6) (hi : c < 17) (hp : p < 17) (hq : q < 17) (hr : r < 17)
include hx hy hz h0 h6 hp hq hr
include hc hs hC ht hi
end
theorem wp_qs {b : Nat → Nat} (hb : ∀ i, b i < 256) (la : Nat) : Qs (wpx la b) ∧ Qs (wpy la b) ∧ Qs (wpz la b) :=
  ⟨fun k => wq_ex hb la _ _, fun k => wq_ex hb la _ _, fun k => wq_ex hb la _ _⟩
end Go.Fw.E1

/-
  The law of forces.
-/
namespace Go.Fw.E1
open Go.Proofs
section
variable {n m a b i j k : Nat} {x y z u v w : Nat → Nat} (hx : Qs x) (hy : Qs y) (hz : Qs z) (hu : Qs u) (hv : Qs v) (hw : Qs w) (n2 : 2 ≤ n) (n6 : n ≤ 6) (m2 : 2 ≤ m) (m6 : m ≤ 6) (ha : a < 17) (hb : b < 17) (hi : i < 17) (hj : j < 17) (hk : k < 17)
include hx hy hz hu hv hw n2 n6 m2 m6 ha hb hi hj hk
theorem core9 (cl dl rest : Bool) : c9 n (qw a) x y z cl m (qw b) (adX V7 u) (adX 0 v) (adX 0 w) dl (qw i) (qw j) (qw k) rest = rest ∧ movOk m (qw b) V7 0 0 u v w = true := by
  obtain ⟨ax, qx⟩ := qs_qh hx
  obtain ⟨ay, qy⟩ := qs_qh hy
  obtain ⟨az, qz⟩ := qs_qh hz
  obtain ⟨bx, qu⟩ := qs_qh hu
  obtain ⟨by', qv⟩ := qs_qh hv
  obtain ⟨bz, qw'⟩ := qs_qh hw
  obtain ⟨A, B, f1, f2, ag, l1, l2⟩ := law9AB qx qy qz qu qv qw' n2 n6 m2 m6 ha hb hi hj hk cl dl
  obtain ⟨C, o1, p1⟩ := law9C qx qy qz qu qv qw' n2 n6 m2 m6 ha hb cl dl hi hj hk
  obtain ⟨_, o2, _, _⟩ := ok9 qx qy qz qu qv qw' n2 n6 m2 m6 ha hb hi hj hk
  have nb : Nat.ble n 1048576 = true := ble_of (show n ≤ 1048576 by omega)
  have mb : Nat.ble m 1048576 = true := ble_of (show m ≤ 1048576 by omega)
  have cn := cnt_le n cl
  have cb : (cnt n cl).ble 1000 = true := ble_of (show cnt n cl ≤ 1000 by omega)
  constructor
  · unfold c9 psC8
    rw [nb, mb, f1, f2, ag, o1, p1, l1, l2, A, B, C, cb]
    cases rest <;> rfl
  · unfold movOk
    rw [ok_own hu hv hw m2 m6 (fin_qw hb), o2]
    rfl
end
theorem low9 : sqOk ONE (can .f32 0) TWO = true := by
  have lo := allUpTo_iff.1 sqok_tab 0 (by decide)
  rw [Bool.and_eq_true] at lo
  rw [can0]
  exact lo.2
theorem law9 {la lc : Nat} {b c : Nat → Nat} (hb : ∀ i, b i < 256) (hc : ∀ i, c i < 256) : PureCall Try.prog 9 [.ro 1 la (.gen fun i => .int .u8 (Int.ofNat (b i))), .ro 1 lc (.gen fun i => .int .u8 (Int.ofNat (c i)))] (.bool true) := by
  by_cases h : la ≤ 48 ∧ lc ≤ 48
  · obtain ⟨t, ht, E1⟩ := r8a_ex (la := lc) hc 6 (n := 4) (by omega)
    have E1 : r8a lc c 6 4 = Int.ofNat t := E1
    obtain ⟨i0, I0, A0⟩ := r8c_ex (la := lc) hc 3 (k := 0) (by omega)
    obtain ⟨i1, I1, A1⟩ := r8c_ex (la := lc) hc 3 (k := 1) (by omega)
    obtain ⟨i2, I2, A2⟩ := r8c_ex (la := lc) hc 3 (k := 2) (by omega)
    obtain ⟨i, I, CU⟩ := wq_ex hb la (Int.ofNat 0 + Int.ofNat 1) (sd1 la b)
    have CU : wcu la b = qw i := CU
    obtain ⟨j, J, CV⟩ := wq_ex hc lc (Int.ofNat 0 + Int.ofNat 1) (sd1 lc c)
    have CV : wcu lc c = qw j := CV
    obtain ⟨n, n0, n6, _, N⟩ := wn_ex (la := la) (b := b) fun i _ => hb i
    obtain ⟨m, m0, m6, _, M⟩ := wn_ex (la := lc) (b := c) fun i _ => hc i
    obtain ⟨X, Y, Z⟩ := wp_qs hb la
    obtain ⟨U, V, W⟩ := wp_qs hc lc
    have K := walk9 la lc b c
    obtain ⟨D1, D2⟩ := square9 ht
    have ub : allUpTo (isU8 fun i => A.int .u8 (Int.ofNat (b i))) la = true := u8_all (la := la) hb
    have uc : allUpTo (isU8 fun i => A.int .u8 (Int.ofNat (c i))) lc = true := u8_all (la := lc) hc
    have T := fun rest => core9 X Y Z U V W n0 n6 m0 m6 I J I0 I1 I2 (wcl la b) (wcl lc c) rest
    rw [E1, A0, A1, A2, CU, CV, N, M, (T true).2, (T _).1, D1, D2] at K
    refine autoW_ok cfgU7_ok Try.func9 (by kernel_rfl) lp9u_ok K ?_
    rw [ub, uc, low9, decide_eq_false (show ¬ Int.ofNat la > 48 by simp; omega), decide_eq_false (show ¬ Int.ofNat lc > 48 by simp; omega)]
    rfl
  · refine autoW_ok cfgU7_ok Try.func9 (by kernel_rfl) lp9u_ok (long9 la lc b c) ?_
    by_cases h1 : la ≤ 48
    · rw [decide_eq_false (show ¬ Int.ofNat la > 48 by simp; omega), decide_eq_true (show Int.ofNat lc > 48 by simp; omega)]; rfl
    · rw [decide_eq_true (show Int.ofNat la > 48 by simp; omega)]; rfl
end Go.Fw.E1
