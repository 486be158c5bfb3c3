/-
  Wires gone back: their points kept.
-/
import Derived.Test.YtlehhjphmenfbaaLpB
import Derived.Test.YtlehhjphmenfbaaLpA
import Derived.Test.YtlehhjphmenfbaaFwC
import Derived.Test.YtlehhjphmenfbaaFwD

namespace Go.Fw.E1
open Go.Proofs
theorem auto87i (x y z : Nat) : autoLp cfg35 (fun _ => none) Try.f87 [.agg [.flt .f32 x, .flt .f32 y, .flt .f32 z]] =
    some (true, A.agg [A.flt FloatKind.f32 x, A.flt FloatKind.f32 y, A.flt FloatKind.f32 z]) := by kernel_rfl
noncomputable def s87i : List A → Option (Bool × A)
  | [.agg [.flt .f32 x, .flt .f32 y, .flt .f32 z]] => some (true, .agg [.flt .f32 x, .flt .f32 y, .flt .f32 z])
  | _ => none
theorem s87i_at : EnvAt Try.prog 87 s87i := of_auto cfg35_ok (lp_none _) Try.func87 (by kernel_rfl) (by kernel_rfl) fun ds cc rr h hc => by
  unfold s87i at h
  split at h
  · rename_i x y z
    simp only [Option.some.injEq, Prod.mk.injEq] at h
    obtain ⟨rfl, rfl⟩ := h
    refine auto_fit (auto87i x y z) ?_ ?_
    · rfl
    · rfl
  · cases h

noncomputable def envB1 : List (Nat × (List A → Option (Bool × A))) := (87, s87i) :: env35
theorem envB1_ok : EnvOK Try.prog (look envB1) := env_cons s87i_at env35_ok
noncomputable def cfgB1 : Cfg := mkCfg (nilTab tab) fts75 xts (look envB1)
theorem cfgB1_ok : CfgOK Try.prog cfgB1 := cfgN_ok' tab_eq fts75_ok xts_ok envB1_ok mixed
noncomputable def I95i (n cur : Nat) (x y z : Nat → Nat) (cl : Bool) (k : Nat) : List A := [.fn 87 [], .ro 3 n (.vecs .f32 x y z), .int .i64 (Int.ofNat n), .int .i64 (Int.ofNat k), .ptr 176 0, .ptr 16 0, .bool false]
noncomputable def J95i (n cur : Nat) (x y z : Nat → Nat) (cl : Bool) (k : Nat) : List O := [.var [.sl 272 k, .bool cl, .flt .f32 cur], .row 30 3 k (.vecs .f32 x y z), .var [.nils, .bool false, .flt .f32 0]]
theorem round95i (n cur : Nat) (x y z : Nat → Nat) (cl : Bool) (k : Nat) (L : XK → List A → List (Option O) → Prop) :
    ((exec cfgB1 (fun _ => true) (fun _ => none) 0 1000 (loopOf Try.f85 0) (litSt Try.f85.ntmps 288 [1, 19, 20, 21, 6, 4, 5] [176, 272, 16] (I95i n cur x y z cl k) (J95i n cur x y z cl k))).rt [1, 19, 20, 21, 6, 4, 5] [176, 272, 16]).Ok L =
    bif decide (Int.ofNat k < Int.ofNat n) then 
       bif decide (Int.ofNat k < Int.ofNat n) then 
         bif decide (k + 1 ≤ 1073741824) then 
           L (XK.normal) ([A.fn 87 [], A.ro 3 n (Row.vecs FloatKind.f32 x y z), A.int IntKind.i64 (Int.ofNat n), A.int IntKind.i64 (IntKind.i64.wrap (Int.ofNat k + Int.ofNat 1)), A.ptr 176 0, A.ptr 16 0, A.bool false]) ([some (O.var [A.sl 272 (k + 1), A.bool cl, A.flt FloatKind.f32 cur]),   some     (O.row 30 3 (k + 1)       (Row.vecs FloatKind.f32         (fun j =>           (match decide (j < k) with | true => x j | false => ([[x k, y k, z k]].getD (j - k) []).getD 0 0))         (fun j =>           (match decide (j < k) with | true => y j | false => ([[x k, y k, z k]].getD (j - k) []).getD 1 0))         fun j =>         (match decide (j < k) with | true => z j | false => ([[x k, y k, z k]].getD (j - k) []).getD 2 0))),   some (O.var [A.nils, A.bool false, A.flt FloatKind.f32 0])]) 
         else 
           False 
       else 
         False 
     else 
       L (XK.exit 0) ([A.fn 87 [], A.ro 3 n (Row.vecs FloatKind.f32 x y z), A.int IntKind.i64 (Int.ofNat n), A.int IntKind.i64 (Int.ofNat k), A.ptr 176 0, A.ptr 16 0, A.bool false]) ([some (O.var [A.sl 272 k, A.bool cl, A.flt FloatKind.f32 cur]), some (O.row 30 3 k (Row.vecs FloatKind.f32 x y z)), some (O.var [A.nils, A.bool false, A.flt FloatKind.f32 0])]) := by kernel_rfl
noncomputable def F95i : List A → List (Option O) → Option R3
  | [.fn 87 [], .ro 3 n (.vecs .f32 x y z), .int .i64 l, .int .i64 0, .ptr 176 0, .ptr 16 0, .bool false], [some (.var [.sl 272 0, .bool cl, .flt .f32 cur]), some (.row 30 3 0 g), some (.var [.nils, .bool false, .flt .f32 0])] => some (.ite (decide (l = Int.ofNat n) && Nat.ble n 1000) (.leaf .normal (I95i n cur x y z cl (n)) (J95i n cur x y z cl (n))) .fail)
  | _, _ => none
theorem loop95i : CodeOK Try.prog (fun _ σ => sumAt Try.f85.ntmps 288 [1, 19, 20, 21, 6, 4, 5] [176, 272, 16] F95i σ) (.block 0 (.loop (loopOf Try.f85 0))) := by
  refine block_ok (own := fun _ => true) (lp := (fun _ => none)) (un := 0) (fuel := 1000) cfgB1_ok (lp_none _) fun az os R hF hok => ?_
  unfold F95i at hF
  split at hF
  · rename_i n x y z l cl cur g
    injection hF with hF
    subst hF
    have hg := hok.guard
    have hg' := hg
    simp only [Bool.and_eq_true, Nat.ble_eq, Nat.beq_eq, decide_eq_true_eq] at hg'
    obtain ⟨rfl, hn⟩ := hg'
    refine for_fact (ids := [176, 272, 16]) (fun _ => true) (n) (I95i n cur x y z cl) (J95i n cur x y z cl) _ (.ret) (I95i n cur x y z cl) (I95i n cur x y z cl) (I95i n cur x y z cl (n)) (J95i n cur x y z cl (n)) rfl (by unfold J95i; exact ⟨rfl, ⟨30, _, rfl, .inr rfl, fun p hp => absurd hp (by omega)⟩, rfl, trivial⟩) (fun _ => rfl) (fun _ => rfl) (fun _ => ALe.self _) (fun _ => rfl) (ALe.self _) (OSims.self _) rfl (fun h => by cases h) (fun k hk L h1 h2 h3 => ?_) fun L hL => ?_
    · rw [round95i]

      by_cases hkm : k < n
      · refine condT (lt_dec hkm) ?_
        rw [wrap_succ (by omega)]
        refine condT (lt_dec hkm) ?_
        refine condT (decide_eq_true (by omega)) ?_
        exact h1 hkm rfl _ ⟨rfl, ⟨30, _, rfl, .inr rfl, fun p hp => vec_at (app3 (u := x) rfl hp) (app3 (u := y) rfl hp) (app3 (u := z) rfl hp)⟩, rfl, trivial⟩
      · refine condE (ge_dec (by omega)) ?_
        obtain rfl : k = n := by omega
        exact h3 rfl
    · exact ⟨fun _ => hL.1 hg, fun N _ h => by cases h⟩
  · cases hF

noncomputable def N95i : St → T := nilW 176 0 30 3 (sumAt Try.f85.ntmps 288 [1, 19, 20, 21, 6, 4, 5] [176, 272, 16] F95i)
theorem loopN95i : CodeOK Try.prog (fun _ σ => N95i σ) (.block 0 (.loop (loopOf Try.f85 0))) := nilW_ok loop95i
noncomputable def lp95iT : List (Nat × (St → T)) := [(0, N95i)]
theorem lp95iT_ok : LpOK Try.prog (look lp95iT) (bodyOf Try.f85) := lp_loops (by kernel_rfl) (by kernel_rfl) fun p hp => by
  simp only [lp95iT, List.mem_cons, List.not_mem_nil, or_false] at hp
  rcases hp with rfl
  · exact loopN95i
theorem auto95iT (n cur : Nat) (x y z : Nat → Nat) (cl : Bool) : autoS cfgB1 (look lp95iT) false Try.f85 [.agg [.ro 3 n (.vecs .f32 x y z), .bool cl, .flt .f32 cur], .fn 87 []] =
    some (n.ble 4611686018427387000 && (!!okW n cur x y z && (decide (Int.ofNat n = Int.ofNat n) && n.ble 1000 && (n.ble 4611686018427387000 && (!!okW n cur x y z && true)))), A.tup [A.agg [A.ro 3 n (Row.vecs FloatKind.f32 x y z), A.bool cl, A.flt FloatKind.f32 cur], A.bool true]) := by kernel_rfl
noncomputable def s95iT : List A → Option (Bool × A)
  | [.agg [.ro 3 n (.vecs .f32 x y z), .bool cl, .flt .f32 cur], .fn 87 []] => some (okW n cur x y z, .tup [.agg [.ro 3 n (.vecs .f32 x y z), .bool cl, .flt .f32 cur], .bool true])
  | _ => none
theorem s95iT_at : EnvAt Try.prog 85 s95iT := of_autoS cfgB1_ok lp95iT_ok Try.func85 (by kernel_rfl) (by kernel_rfl) fun ds cc rr h hc => by
  unfold s95iT at h
  split at h
  · rename_i n x y z cl cur
    simp only [Option.some.injEq, Prod.mk.injEq] at h
    obtain ⟨rfl, rfl⟩ := h
    refine auto_fit (auto95iT n cur x y z cl) ?_ ?_
    · rfl
    · have h5 := okW_n hc
      rw [hc, ble_of (show n ≤ 4611686018427387000 by omega), ble_of (show n ≤ 1000 by omega), decide_eq_true rfl]; rfl
  · cases h

noncomputable def envB2 : List (Nat × (List A → Option (Bool × A))) := (85, s95iT) :: envB1
theorem envB2_ok : EnvOK Try.prog (look envB2) := env_cons s95iT_at envB1_ok
noncomputable def cfgB2 : Cfg := mkCfg (nilTab tab) fts75 xts (look envB2)
theorem cfgB2_ok : CfgOK Try.prog cfgB2 := cfgN_ok' tab_eq fts75_ok xts_ok envB2_ok mixed
end Go.Fw.E1

/-
  Wires gone back: points turned round.
-/
namespace Go.Fw.E1
open Go.Proofs
noncomputable def ftsR : List (Nat × Func) := [(88, Try.f88), (75, Try.f75)]
theorem ftsR_ok (f : Nat) (fn : Func) (h : (f, fn) ∈ ftsR) : Try.prog.funcs[f]? = some fn ∧ (fn.name == "runtime.NumGoroutine") = false := by
  simp only [ftsR, List.mem_cons, Prod.mk.injEq, List.not_mem_nil, or_false] at h
  rcases h with ⟨rfl, rfl⟩ | ⟨rfl, rfl⟩
  · exact ⟨Try.func88, by kernel_rfl⟩
  · exact ⟨Try.func75, by kernel_rfl⟩
noncomputable def cfgRS : Cfg := mkCfgX (nilTab tab) ftsR xts (look envB2) [(88, fun σ => .loop .skip σ fun _ _ => .fail)]
end Go.Fw.E1

/-
  Points turned round in place: the loop of slices.Reverse.
-/
namespace Go.Fw.E1
open Go.Proofs
def IR (m i : Nat) (j : Int) : List A := [.sl 64 m, .int .i64 (Int.ofNat i), .int .i64 j]
def setAt (i : Nat) (v : Nat) (x : Nat → Nat) (p : Nat) : Nat := match decide (p = i) with | true => v | false => x p
def inRow (m : Nat) (j : Int) : Bool := decide (0 ≤ j) && decide (j < Int.ofNat m)
theorem roundR64 (m i e lo nx : Nat) (j : Int) (x y z : Nat → Nat) (M : List (Nat × O)) (L : XK → List A → List (Nat × O) → Prop) :
    ((exec cfg0 (fun _ => true) (fun _ => none) 0 1000 (loopOf Try.f88 0) (stM Try.f88.ntmps lo nx [0, 2, 3] (IR m i j) 64 (.row e 3 m (.vecs .f32 x y z)) M)).rm [0, 2, 3]).Ok L =
    (bif decide (Int.ofNat i < j) then
      bif (inRow m (Int.ofNat i) && (inRow m (Int.ofNat i) && (inRow m j && true))) then
        bif inRow m j then
          L .normal [.sl 64 m, .int .i64 (IntKind.i64.wrap (Int.ofNat i + Int.ofNat 1)), .int .i64 (IntKind.i64.wrap (j - Int.ofNat 1))]
            ((64, .row e 3 m (.vecs .f32 (setAt j.toNat (x i) (setAt i (x j.toNat) x)) (setAt j.toNat (y i) (setAt i (y j.toNat) y)) (setAt j.toNat (z i) (setAt i (z j.toNat) z)))) ::
             (64, .row e 3 m (.vecs .f32 (setAt i (x j.toNat) x) (setAt i (y j.toNat) y) (setAt i (z j.toNat) z))) :: (64, .row e 3 m (.vecs .f32 x y z)) :: M)
        else False
      else False
    else L (.exit 0) [.sl 64 m, .int .i64 (Int.ofNat i), .int .i64 j] ((64, .row e 3 m (.vecs .f32 x y z)) :: M)) := by kernel_rfl
/-- A row of m turned round from both ends up to place k. -/
def revTo (m k : Nat) (x : Nat → Nat) (p : Nat) : Nat := match decide (p < k) || decide (m - 1 - k < p) with | true => x (m - 1 - p) | false => x p
noncomputable def JR (e m : Nat) (x y z : Nat → Nat) (k : Nat) : O := .row e 3 m (.vecs .f32 (revTo m k x) (revTo m k y) (revTo m k z))
theorem revTo_step {m k : Nat} (hk : k < m / 2) (x : Nat → Nat) (p : Nat) (hp : p < m) :
    setAt (m - 1 - k) (revTo m k x k) (setAt k (revTo m k x (m - 1 - k)) (revTo m k x)) p = revTo m (k + 1) x p := by
  unfold setAt revTo
  by_cases h1 : p = m - 1 - k
  · subst h1
    have a1 : decide (m - 1 - (k + 1) < m - 1 - k) = true := by simp; omega
    have a2 : decide (k < k) = false := by simp
    have a3 : decide (m - 1 - k < k) = false := by simp; omega
    simp only [a1, a2, a3, decide_true, Bool.or_true, Bool.or_false, Bool.or_self]
    congr 1; omega
  · by_cases h2 : p = k
    · subst h2
      have a1 : decide (p < p + 1) = true := by simp
      have a2 : decide (m - 1 - p < p) = false := by simp; omega
      have a3 : decide (m - 1 - p < m - 1 - p) = false := by simp
      have a4 : decide (p = m - 1 - p) = false := by simp; omega
      simp only [a1, a2, a3, a4, decide_true, Bool.true_or, Bool.or_self]
    · have a1 : (p < k) = (p < k + 1) := by simp; omega
      have a2 : (m - 1 - k < p) = (m - 1 - (k + 1) < p) := by simp; omega
      simp only [h1, h2, decide_false, a1, a2]
noncomputable def FR64 : List A → O → Option (Bool × List A × O)
  | [.sl j m, .int .i64 (.ofNat 0), .int .i64 jz], .row e 3 m2 (.vecs .f32 x y z) => some (Nat.beq j 64 && Nat.beq m2 m && Nat.ble m 1048577 && Nat.ble 1 m && decide (jz = Int.ofNat (m - 1)), IR m (m / 2) (Int.ofNat (m - 1 - m / 2)), .row e 3 m (.vecs .f32 (fun p => x (m - 1 - p)) (fun p => y (m - 1 - p)) (fun p => z (m - 1 - p))))
  | _, _ => none
theorem revTo_zero {m : Nat} (x : Nat → Nat) (p : Nat) (hp : p < m) : x p = revTo m 0 x p := by
  unfold revTo
  have a1 : decide (p < 0) = false := by simp
  have a2 : decide (m - 1 - 0 < p) = false := by simp; omega
  simp only [a1, a2, Bool.or_self]
theorem revTo_end {m : Nat} (x : Nat → Nat) (p : Nat) (hp : p < m) : revTo m (m / 2) x p = x (m - 1 - p) := by
  unfold revTo
  by_cases h : p < m / 2 ∨ m - 1 - m / 2 < p
  · have a : (decide (p < m / 2) || decide (m - 1 - m / 2 < p)) = true := by simpa using h
    simp only [a]
  · have a : (decide (p < m / 2) || decide (m - 1 - m / 2 < p)) = false := by simp; omega
    simp only [a]
    congr 1; omega
theorem inRow_nat {m i : Nat} (h : i < m) : inRow m (Int.ofNat i) = true := by
  unfold inRow
  simp; omega
theorem loopR64 : CodeOK Try.prog (fun _ σ => sumM Try.f88.ntmps [0, 2, 3] 64 FR64 σ) (.block 0 (.loop (loopOf Try.f88 0))) :=
  sumM_ok (own := fun _ => true) (lp := fun _ => none) (un := 0) (fuel := 1000) cfg0_ok (lp_none _) (by
  intro az o az' o' hF
  unfold FR64 at hF
  split at hF
  · rename_i j m jz e m2 x y z
    simp only [Option.some.injEq, Prod.mk.injEq, Bool.and_eq_true, Nat.beq_eq, Nat.ble_eq, decide_eq_true_eq] at hF
    obtain ⟨⟨⟨⟨⟨hj, hm2⟩, hm⟩, hm1⟩, hjz⟩, rfl, rfl⟩ := hF
    subst hj hm2 hjz
    refine ⟨fun k => IR m2 k (Int.ofNat (m2 - 1 - k)), JR e m2 x y z, m2 / 2, rfl, ⟨e, _, rfl, .inr rfl, fun p hp => vec_at (revTo_zero x p hp) (revTo_zero y p hp) (revTo_zero z p hp)⟩, fun _ => rfl, rfl, ALe.self _,
      ⟨e, _, rfl, .inr rfl, fun p hp => vec_at (revTo_end x p hp) (revTo_end y p hp) (revTo_end z p hp)⟩, fun k hk lo nx M => ?_⟩
    unfold JR
    rw [roundR64]
    by_cases hkm : k < m2 / 2
    · refine condT (lt_dec (by omega)) (condT (by rw [inRow_nat (by omega), inRow_nat (by omega)]; rfl) (condT (inRow_nat (by omega)) ⟨hkm, ?_, fun j' hj' => ?_, ?_⟩))
      · rw [wrap_succ (by omega), wrap_pred' (by omega) (by omega)]
        rw [show m2 - 1 - k - 1 = m2 - 1 - (k + 1) by omega]; rfl
      · rw [look_cons_other _ _ hj', look_cons_other _ _ hj', look_cons_other _ _ hj']
      · rw [look_cons_same]
        exact ⟨e, _, rfl, .inr rfl, fun p hp => vec_at (revTo_step hkm x p hp) (revTo_step hkm y p hp) (revTo_step hkm z p hp)⟩
    · obtain rfl : k = m2 / 2 := by omega
      refine condE (ge_dec (by omega)) ⟨rfl, rfl, rfl, fun j' hj' => ?_, ?_⟩
      · rw [look_cons_other _ _ hj']
      · rw [look_cons_same]
        exact ⟨e, _, rfl, .inr rfl, fun _ _ => rfl⟩
  · cases hF)
end Go.Fw.E1

/-
  Wires gone back: slices.Reverse walked in place.
-/
namespace Go.Fw.E1
open Go.Proofs
noncomputable def lpR : List (Nat × (St → T)) := [(0, sumM Try.f88.ntmps [0, 2, 3] 64 FR64)]
theorem lpR_ok : LpOK Try.prog (look lpR) (bodyOf Try.f88) := lp_loops (by kernel_rfl) (by kernel_rfl) fun p hp => by
  rw [List.mem_singleton.1 hp]
  exact loopR64
noncomputable def revS (σ : St) : T := match σ.get 0 with
  | .emp => exec cfg0 (fun _ => true) (fun _ => none) 1 1000 (bodyOf Try.f88) σ
  | _ => exec cfg0 (fun _ => true) (look lpR) 0 1000 (bodyOf Try.f88) σ
theorem revS_ok : CodeOK Try.prog (fun _ σ => revS σ) (bodyOf Try.f88) := by
  intro σ L hok
  replace hok : (revS σ).Ok Try.prog L := hok
  unfold revS at hok
  split at hok
  · exact codeOK_exec cfg0_ok (lp_none _) σ L hok
  · exact codeOK_exec cfg0_ok lpR_ok σ L hok
noncomputable def fxR : List (Nat × (St → T)) := [(88, revS)]
theorem fxR_ok (g : Nat) (s : St → T) (fn : Func) (body : Code) (h1 : (g, s) ∈ fxR) (h2 : (g, fn) ∈ ftsR) (h3 : fn.body = some body) : CodeOK Try.prog (fun _ σ => s σ) body := by
  simp only [fxR, List.mem_singleton, Prod.mk.injEq] at h1
  obtain ⟨rfl, rfl⟩ := h1
  simp only [ftsR, List.mem_cons, Prod.mk.injEq, List.not_mem_nil, or_false] at h2
  rcases h2 with ⟨_, rfl⟩ | ⟨h2, _⟩
  · have e : bodyOf Try.f88 = body := by unfold bodyOf; rw [h3]
    rw [← e]
    exact revS_ok
  · omega
noncomputable def cfgR : Cfg := mkCfgX (nilTab tab) ftsR xts (look envB2) fxR
theorem cfgR_ok : CfgOK Try.prog cfgR :=
  ⟨fun t ti h => nilTab_ok (fun t ti hm => tabOf_ok tab_eq t ti hm) t ti (look_mem h), fun f fn h => ftsR_ok f fn (look_mem h), fun f e h => let ⟨fn, k⟩ := xts_ok f e (look_mem h); ⟨fn, k.at_, k.name, k.body, k.next, k.run⟩, envB2_ok,
    fun g s fn body hs hf hb => fxR_ok g s fn body (look_mem hs) (look_mem hf) hb, mixed⟩
end Go.Fw.E1

/-
  Wires gone back: BackWire.
-/
namespace Go.Fw.E1
open Go.Proofs
theorem auto34T (n cur : Nat) (x y z : Nat → Nat) (cl : Bool) : autoS cfgR (fun _ => none) false Try.f34 [.agg [.ro 3 n (.vecs .f32 x y z), .bool cl, .flt .f32 cur]] =
    some (okW n cur x y z && (n.beq n && n.ble 1048577 && Nat.ble 1 n && decide (IntKind.i64.wrap (Int.ofNat n - 1) = Int.ofNat (n - 1)) && true), A.tup [A.agg [A.ro 3 n (Row.vecs FloatKind.f32 (fun p => x (n - 1 - p)) (fun p => y (n - 1 - p)) fun p => z (n - 1 - p)), A.bool cl, A.flt FloatKind.f32 cur], A.bool true]) := by kernel_rfl
/-- A row of n turned round. -/
def revR (n : Nat) (x : Nat → Nat) (p : Nat) : Nat := x (n - 1 - p)
noncomputable def s34T : List A → Option (Bool × A)
  | [.agg [.ro 3 n (.vecs .f32 x y z), .bool cl, .flt .f32 cur]] => some (okW n cur x y z, .tup [.agg [.ro 3 n (.vecs .f32 (revR n x) (revR n y) (revR n z)), .bool cl, .flt .f32 cur], .bool true])
  | _ => none
theorem s34T_at : EnvAt Try.prog 34 s34T := of_autoS cfgR_ok (lp_none _) Try.func34 (by kernel_rfl) (by kernel_rfl) fun ds cc rr h hc => by
  unfold s34T at h
  split at h
  · rename_i n x y z cl cur
    simp only [Option.some.injEq, Prod.mk.injEq] at h
    obtain ⟨rfl, rfl⟩ := h
    refine auto_fit (auto34T n cur x y z cl) ?_ ?_
    · rfl
    · have h5 := okW_n hc
      have e : IntKind.i64.wrap (Int.ofNat n - 1) = Int.ofNat (n - 1) := wrap_pred' (by omega) (by omega)
      rw [hc, Nat.beq_refl, ble_of (show n ≤ 1048577 by omega), ble_of (show 1 ≤ n by omega), decide_eq_true e]; rfl
  · cases h
end Go.Fw.E1

/-
  The gap of two numbers.
-/
namespace Go.Fw.E1
open Go.Proofs
theorem autoGap (a b : Nat) : autoLp cfg0 (fun _ => none) Try.f23 [.flt .f64 a, .flt .f64 b] =
    some (true, A.flt FloatKind.f64 (fmax FloatKind.f64 (fop BinOp.sub FloatKind.f64 a b) (fop BinOp.sub FloatKind.f64 b a))) := by kernel_rfl
noncomputable def gap8 (a b : Nat) : Nat := fmax .f64 (fop .sub .f64 a b) (fop .sub .f64 b a)
noncomputable def sGap : List A → Option (Bool × A)
  | [.flt .f64 a, .flt .f64 b] => some (true, .flt .f64 (gap8 a b))
  | _ => none
theorem sGap_at : EnvAt Try.prog 23 sGap := of_auto cfg0_ok (lp_none _) Try.func23 (by kernel_rfl) (by kernel_rfl) fun ds cc rr h hc => by
  unfold sGap at h
  split at h
  · rename_i a b
    simp only [Option.some.injEq, Prod.mk.injEq] at h
    obtain ⟨rfl, rfl⟩ := h
    refine auto_fit (autoGap a b) ?_ ?_
    · rfl
    · rfl
  · cases h
end Go.Fw.E1

/-
  Bytes that come in.
-/
namespace Go.Fw.E1
open Go.Proofs
open Go.RowKit (Below)
theorem own : ownKnob Try.prog.godebug = none := by kernel_rfl
theorem laidOut : laidOutB Try.prog = true := by kernel_rfl
section
variable {H : Type} {enc : TypeId × Value → H} {w : World} {spare : Nat → Bool} {held : Bool}
set_option maxRecDepth 100000 in
theorem in_bytesA {r : Reach} {base : Nat} {v : Value} {x : DataW H × List MemPlace} (hv : Value.okWide Try.prog w r base 22 v) (h : ∃ fuel, DataW.trod enc Try.prog w 0 spare held fuel 22 v.cells.toList = some x) :
    ∃ (n : Nat) (b : Nat → Nat), (∀ i, b i < 256) ∧ RelD w (fun b => b < w.heap.size) v (.ro 1 n (.gen fun i => .int .u8 (Int.ofNat (b i)))) := by
  obtain ⟨fuel, h⟩ := h
  obtain ⟨a, l, c, rfl⟩ := Go.WideShapes.okWide_slice Try.underlying22 hv
  obtain ⟨u, n, b, e, hb, hr⟩ := in_bytes Try.underlying22 Try.underlying5 (by kernel_rfl) h
  have e' : [Value.slice a l c] = [u] := e
  simp only [List.cons.injEq, and_true] at e'
  subst e'
  exact ⟨n, b, hb, hr⟩
end
end Go.Fw.E1

/-
  What all laws of wires use: bytes' choices, places, gaps.
-/
namespace Go.Fw.E1
open Go.Proofs
/-- The bytes of a row. -/
def byt (g : Nat → A) (i : Nat) : Nat := match g i with | .int .u8 n => n.toNat | _ => 0
def isU8 (g : Nat → A) (i : Nat) : Bool := match g i with | .int .u8 n => decide (0 ≤ n) && decide (n < 256) | _ => false
theorem isU8_eq {g : Nat → A} {i : Nat} (h : isU8 g i = true) : g i = .int .u8 (Int.ofNat (byt g i)) ∧ byt g i < 256 := by
  unfold isU8 at h
  unfold byt
  split at h
  · rename_i n hn
    simp only [Bool.and_eq_true, decide_eq_true_eq] at h
    rw [hn]
    show A.int .u8 n = .int .u8 (Int.ofNat n.toNat) ∧ n.toNat < 256
    rw [show Int.ofNat n.toNat = n from Int.toNat_of_nonneg h.1]
    exact ⟨rfl, by omega⟩
  · cases h
theorem pure_bytes {f la : Nat} {g : Nat → A} {rest : List A} {r : A} (hg : allUpTo (isU8 g) la = true) (h : PureCall Try.prog f (.ro 1 la (.gen fun i => .int .u8 (Int.ofNat (byt g i))) :: rest) r) : PureCall Try.prog f (.ro 1 la (.gen g) :: rest) r := fun w vs T hT hs hr =>
  h w vs T hT hs fun i hi => match i, hi with
    | 0, _ => (hr 0 (Nat.succ_pos _)).row_congr fun i hi => (isU8_eq (allUpTo_iff.1 hg i hi)).1
    | i + 1, hi => hr (i + 1) hi
noncomputable def r8d (k : Nat) : Nat := match k with | 0 => can .f32 1065353216 | 1 => can .f32 1056964608 | _ => can .f32 3196059648
/-- A byte as a number in quarters. -/
noncomputable def r8q (v : Nat) : Nat := fop .quo .f32 (fofInt .f32 (IntKind.i64.wrap ((IntKind.i64.wrap (Int.ofNat v)).tmod 17 - 8))) (can .f32 1082130432)
/-- A vector's number that a byte chooses. -/
noncomputable def r8c (la : Nat) (b : Nat → Nat) (p k : Nat) : Nat := bif decide (p + k < la) then r8q (b (p + k)) else r8d k
theorem r8c_in {la : Nat} {b : Nat → Nat} {p k : Nat} (h : p + k < la) : r8c la b p k = r8q (b (p + k)) := by unfold r8c; rw [decide_eq_true h]; rfl
theorem r8c_out {la : Nat} {b : Nat → Nat} {p k : Nat} (h : ¬ p + k < la) : r8c la b p k = r8d k := by unfold r8c; rw [decide_eq_false h]; rfl
noncomputable def s25 : List A → Option (Bool × A)
  | [.ro 1 la (.gen g), .int .i64 (Int.ofNat p)] => match p with
    | 0 => some (allUpTo (isU8 g) la, .agg [.flt .f32 (r8c la (byt g) 0 0), .flt .f32 (r8c la (byt g) 0 1), .flt .f32 (r8c la (byt g) 0 2)])
    | 3 => some (allUpTo (isU8 g) la, .agg [.flt .f32 (r8c la (byt g) 3 0), .flt .f32 (r8c la (byt g) 3 1), .flt .f32 (r8c la (byt g) 3 2)])
    | _ => none
  | _ => none
theorem walk25_0_0 (la : Nat) (b : Nat → Nat) : autoW cfgA2 (fun _ => true) 5 (fun _ => none) [true, false, true, false, true, false, false] Try.f25 [.ro 1 la (.gen fun i => .int .u8 (Int.ofNat (b i))), .int .i64 0] = some (!decide (Int.ofNat 0 < Int.ofNat la) && (!decide (Int.ofNat 1 < Int.ofNat la) && (!decide (Int.ofNat 2 < Int.ofNat la) && (true))), .agg [.flt .f32 (r8d 0), .flt .f32 (r8d 1), .flt .f32 (r8d 2)]) := by kernel_rfl
theorem walk25_0_1 (la : Nat) (b : Nat → Nat) : autoW cfgA2 (fun _ => true) 5 (fun _ => none) [true, true, true, false, true, false, false] Try.f25 [.ro 1 la (.gen fun i => .int .u8 (Int.ofNat (b i))), .int .i64 0] = some (decide (Int.ofNat 0 < Int.ofNat la) && (decide (Int.ofNat 0 < Int.ofNat la) && (!decide (Int.ofNat 1 < Int.ofNat la) && (!decide (Int.ofNat 2 < Int.ofNat la) && (true)))), .agg [.flt .f32 (r8q (b 0)), .flt .f32 (r8d 1), .flt .f32 (r8d 2)]) := by kernel_rfl
theorem walk25_0_2 (la : Nat) (b : Nat → Nat) : autoW cfgA2 (fun _ => true) 5 (fun _ => none) [true, true, true, true, true, false, false] Try.f25 [.ro 1 la (.gen fun i => .int .u8 (Int.ofNat (b i))), .int .i64 0] = some (decide (Int.ofNat 0 < Int.ofNat la) && (decide (Int.ofNat 0 < Int.ofNat la) && (decide (Int.ofNat 1 < Int.ofNat la) && (decide (Int.ofNat 1 < Int.ofNat la) && (!decide (Int.ofNat 2 < Int.ofNat la) && (true))))), .agg [.flt .f32 (r8q (b 0)), .flt .f32 (r8q (b 1)), .flt .f32 (r8d 2)]) := by kernel_rfl
theorem walk25_0_3 (la : Nat) (b : Nat → Nat) : autoW cfgA2 (fun _ => true) 5 (fun _ => none) [true, true, true, true, true, true, false] Try.f25 [.ro 1 la (.gen fun i => .int .u8 (Int.ofNat (b i))), .int .i64 0] = some (decide (Int.ofNat 0 < Int.ofNat la) && (decide (Int.ofNat 0 < Int.ofNat la) && (decide (Int.ofNat 1 < Int.ofNat la) && (decide (Int.ofNat 1 < Int.ofNat la) && (decide (Int.ofNat 2 < Int.ofNat la) && (decide (Int.ofNat 2 < Int.ofNat la) && (true)))))), .agg [.flt .f32 (r8q (b 0)), .flt .f32 (r8q (b 1)), .flt .f32 (r8q (b 2))]) := by kernel_rfl
theorem walk25_3_0 (la : Nat) (b : Nat → Nat) : autoW cfgA2 (fun _ => true) 5 (fun _ => none) [true, false, true, false, true, false, false] Try.f25 [.ro 1 la (.gen fun i => .int .u8 (Int.ofNat (b i))), .int .i64 3] = some (!decide (Int.ofNat 3 < Int.ofNat la) && (!decide (Int.ofNat 4 < Int.ofNat la) && (!decide (Int.ofNat 5 < Int.ofNat la) && (true))), .agg [.flt .f32 (r8d 0), .flt .f32 (r8d 1), .flt .f32 (r8d 2)]) := by kernel_rfl
theorem walk25_3_1 (la : Nat) (b : Nat → Nat) : autoW cfgA2 (fun _ => true) 5 (fun _ => none) [true, true, true, false, true, false, false] Try.f25 [.ro 1 la (.gen fun i => .int .u8 (Int.ofNat (b i))), .int .i64 3] = some (decide (Int.ofNat 3 < Int.ofNat la) && (decide (Int.ofNat 3 < Int.ofNat la) && (!decide (Int.ofNat 4 < Int.ofNat la) && (!decide (Int.ofNat 5 < Int.ofNat la) && (true)))), .agg [.flt .f32 (r8q (b 3)), .flt .f32 (r8d 1), .flt .f32 (r8d 2)]) := by kernel_rfl
theorem walk25_3_2 (la : Nat) (b : Nat → Nat) : autoW cfgA2 (fun _ => true) 5 (fun _ => none) [true, true, true, true, true, false, false] Try.f25 [.ro 1 la (.gen fun i => .int .u8 (Int.ofNat (b i))), .int .i64 3] = some (decide (Int.ofNat 3 < Int.ofNat la) && (decide (Int.ofNat 3 < Int.ofNat la) && (decide (Int.ofNat 4 < Int.ofNat la) && (decide (Int.ofNat 4 < Int.ofNat la) && (!decide (Int.ofNat 5 < Int.ofNat la) && (true))))), .agg [.flt .f32 (r8q (b 3)), .flt .f32 (r8q (b 4)), .flt .f32 (r8d 2)]) := by kernel_rfl
theorem walk25_3_3 (la : Nat) (b : Nat → Nat) : autoW cfgA2 (fun _ => true) 5 (fun _ => none) [true, true, true, true, true, true, false] Try.f25 [.ro 1 la (.gen fun i => .int .u8 (Int.ofNat (b i))), .int .i64 3] = some (decide (Int.ofNat 3 < Int.ofNat la) && (decide (Int.ofNat 3 < Int.ofNat la) && (decide (Int.ofNat 4 < Int.ofNat la) && (decide (Int.ofNat 4 < Int.ofNat la) && (decide (Int.ofNat 5 < Int.ofNat la) && (decide (Int.ofNat 5 < Int.ofNat la) && (true)))))), .agg [.flt .f32 (r8q (b 3)), .flt .f32 (r8q (b 4)), .flt .f32 (r8q (b 5))]) := by kernel_rfl
theorem s25_at : EnvAt Try.prog 25 s25 := by
  refine ⟨⟨Try.f25, Try.func25, by kernel_rfl, by kernel_rfl⟩, fun ds cc rr h hc => ?_⟩
  unfold s25 at h
  split at h
  · rename_i la g p
    split at h
    · simp only [Option.some.injEq, Prod.mk.injEq] at h
      obtain ⟨rfl, rfl⟩ := h
      refine pure_bytes hc ?_
      by_cases h0 : 0 < la
      rotate_left
      · rw [r8c_out (p := 0) (k := 0) (by omega), r8c_out (p := 0) (k := 1) (by omega), r8c_out (p := 0) (k := 2) (by omega)]
        exact autoW_ok cfgA2_ok Try.func25 (by kernel_rfl) (lp_none _) (walk25_0_0 la (byt g)) (by rw [decide_eq_false (show ¬ Int.ofNat 0 < Int.ofNat la by simp; omega), decide_eq_false (show ¬ Int.ofNat 1 < Int.ofNat la by simp; omega), decide_eq_false (show ¬ Int.ofNat 2 < Int.ofNat la by simp; omega)]; rfl)
      by_cases h1 : 1 < la
      rotate_left
      · rw [r8c_in (p := 0) (k := 0) (by omega), r8c_out (p := 0) (k := 1) (by omega), r8c_out (p := 0) (k := 2) (by omega)]
        exact autoW_ok cfgA2_ok Try.func25 (by kernel_rfl) (lp_none _) (walk25_0_1 la (byt g)) (by rw [decide_eq_true (show Int.ofNat 0 < Int.ofNat la by simp; omega), decide_eq_false (show ¬ Int.ofNat 1 < Int.ofNat la by simp; omega), decide_eq_false (show ¬ Int.ofNat 2 < Int.ofNat la by simp; omega)]; rfl)
      by_cases h2 : 2 < la
      rotate_left
      · rw [r8c_in (p := 0) (k := 0) (by omega), r8c_in (p := 0) (k := 1) (by omega), r8c_out (p := 0) (k := 2) (by omega)]
        exact autoW_ok cfgA2_ok Try.func25 (by kernel_rfl) (lp_none _) (walk25_0_2 la (byt g)) (by rw [decide_eq_true (show Int.ofNat 0 < Int.ofNat la by simp; omega), decide_eq_true (show Int.ofNat 1 < Int.ofNat la by simp; omega), decide_eq_false (show ¬ Int.ofNat 2 < Int.ofNat la by simp; omega)]; rfl)
      rw [r8c_in (p := 0) (k := 0) (by omega), r8c_in (p := 0) (k := 1) (by omega), r8c_in (p := 0) (k := 2) (by omega)]
      exact autoW_ok cfgA2_ok Try.func25 (by kernel_rfl) (lp_none _) (walk25_0_3 la (byt g)) (by rw [decide_eq_true (show Int.ofNat 0 < Int.ofNat la by simp; omega), decide_eq_true (show Int.ofNat 1 < Int.ofNat la by simp; omega), decide_eq_true (show Int.ofNat 2 < Int.ofNat la by simp; omega)]; rfl)
    · simp only [Option.some.injEq, Prod.mk.injEq] at h
      obtain ⟨rfl, rfl⟩ := h
      refine pure_bytes hc ?_
      by_cases h0 : 3 < la
      rotate_left
      · rw [r8c_out (p := 3) (k := 0) (by omega), r8c_out (p := 3) (k := 1) (by omega), r8c_out (p := 3) (k := 2) (by omega)]
        exact autoW_ok cfgA2_ok Try.func25 (by kernel_rfl) (lp_none _) (walk25_3_0 la (byt g)) (by rw [decide_eq_false (show ¬ Int.ofNat 3 < Int.ofNat la by simp; omega), decide_eq_false (show ¬ Int.ofNat 4 < Int.ofNat la by simp; omega), decide_eq_false (show ¬ Int.ofNat 5 < Int.ofNat la by simp; omega)]; rfl)
      by_cases h1 : 4 < la
      rotate_left
      · rw [r8c_in (p := 3) (k := 0) (by omega), r8c_out (p := 3) (k := 1) (by omega), r8c_out (p := 3) (k := 2) (by omega)]
        exact autoW_ok cfgA2_ok Try.func25 (by kernel_rfl) (lp_none _) (walk25_3_1 la (byt g)) (by rw [decide_eq_true (show Int.ofNat 3 < Int.ofNat la by simp; omega), decide_eq_false (show ¬ Int.ofNat 4 < Int.ofNat la by simp; omega), decide_eq_false (show ¬ Int.ofNat 5 < Int.ofNat la by simp; omega)]; rfl)
      by_cases h2 : 5 < la
      rotate_left
      · rw [r8c_in (p := 3) (k := 0) (by omega), r8c_in (p := 3) (k := 1) (by omega), r8c_out (p := 3) (k := 2) (by omega)]
        exact autoW_ok cfgA2_ok Try.func25 (by kernel_rfl) (lp_none _) (walk25_3_2 la (byt g)) (by rw [decide_eq_true (show Int.ofNat 3 < Int.ofNat la by simp; omega), decide_eq_true (show Int.ofNat 4 < Int.ofNat la by simp; omega), decide_eq_false (show ¬ Int.ofNat 5 < Int.ofNat la by simp; omega)]; rfl)
      rw [r8c_in (p := 3) (k := 0) (by omega), r8c_in (p := 3) (k := 1) (by omega), r8c_in (p := 3) (k := 2) (by omega)]
      exact autoW_ok cfgA2_ok Try.func25 (by kernel_rfl) (lp_none _) (walk25_3_3 la (byt g)) (by rw [decide_eq_true (show Int.ofNat 3 < Int.ofNat la by simp; omega), decide_eq_true (show Int.ofNat 4 < Int.ofNat la by simp; omega), decide_eq_true (show Int.ofNat 5 < Int.ofNat la by simp; omega)]; rfl)
    · cases h
  · cases h

/-- What a byte chooses below n. -/
noncomputable def r8a (la : Nat) (b : Nat → Nat) (k n : Int) : Int := bif decide (k ≥ Int.ofNat la) then 0 else (IntKind.i64.wrap (Int.ofNat (b k.toNat))).tmod n
noncomputable def s13 : List A → Option (Bool × A)
  | [.ro 1 la (.gen g), .int .i64 k, .int .i64 n] => some (allUpTo (isU8 g) la && decide (0 ≤ k) && decide (1 < n), .int .i64 (r8a la (byt g) k n))
  | _ => none
theorem walk13_0 (la : Nat) (b : Nat → Nat) (k n : Int) : autoW cfgA2 (fun _ => true) 5 (fun _ => none) [true] Try.f13 [.ro 1 la (.gen fun i => .int .u8 (Int.ofNat (b i))), .int .i64 k, .int .i64 n] = some ((bif decide (n ≤ 1) then true else decide (k ≥ Int.ofNat la)) && true, .int .i64 0) := by kernel_rfl
theorem walk13_1 (la : Nat) (b : Nat → Nat) (k n : Int) : autoW cfgA2 (fun _ => true) 5 (fun _ => none) [false] Try.f13 [.ro 1 la (.gen fun i => .int .u8 (Int.ofNat (b i))), .int .i64 k, .int .i64 n] = some (!(bif decide (n ≤ 1) then true else decide (k ≥ Int.ofNat la)) && (decide (0 ≤ k) && decide (k < Int.ofNat la) && (!decide (n = 0) && true)), .int .i64 ((IntKind.i64.wrap (Int.ofNat (b k.toNat))).tmod n)) := by kernel_rfl
theorem s13_at : EnvAt Try.prog 13 s13 := by
  refine ⟨⟨Try.f13, Try.func13, by kernel_rfl, by kernel_rfl⟩, fun ds cc rr h hc => ?_⟩
  unfold s13 at h
  split at h
  · rename_i la g k n
    simp only [Option.some.injEq, Prod.mk.injEq] at h
    obtain ⟨rfl, rfl⟩ := h
    simp only [Bool.and_eq_true, decide_eq_true_eq] at hc
    refine pure_bytes hc.1.1 ?_
    unfold r8a
    by_cases hk : k ≥ Int.ofNat la
    · rw [decide_eq_true hk]
      exact autoW_ok cfgA2_ok Try.func13 (by kernel_rfl) (lp_none _) (walk13_0 la (byt g) k n) (by rw [decide_eq_true hk, decide_eq_false (show ¬ n ≤ 1 by omega)]; rfl)
    · rw [decide_eq_false hk]
      exact autoW_ok cfgA2_ok Try.func13 (by kernel_rfl) (lp_none _) (walk13_1 la (byt g) k n) (by
        rw [decide_eq_false hk, decide_eq_false (show ¬ n ≤ 1 by omega), decide_eq_true hc.1.2, decide_eq_true (show k < Int.ofNat la by omega), decide_eq_false (show ¬ n = 0 by omega)]; rfl)
  · cases h
/-! ### Functions that answer: fields, squares, places apart -/
noncomputable def s15T : List A → Option (Bool × A)
  | [.ro 3 m (.wires n x y z cl cur), .agg [.flt .f32 p, .flt .f32 q, .flt .f32 r]] => some (Nat.ble m 1048576 && allUpTo (shortW n) m && flOk m n x y z cl cur p q r, .tup [.agg [.flt .f32 (faX n x y z cl cur p q r 0 m), .flt .f32 (faY n x y z cl cur p q r 0 m), .flt .f32 (faZ n x y z cl cur p q r 0 m)], .bool true])
  | _ => none
theorem s15T_at : EnvAt Try.prog 15 s15T := by
  refine ⟨s54_at.1, fun ds cc r h hc => ?_⟩
  unfold s15T at h
  split at h
  · rename_i m n x y z cl cur p q r
    simp only [Option.some.injEq, Prod.mk.injEq] at h
    obtain ⟨rfl, rfl⟩ := h
    rw [Bool.and_eq_true] at hc
    have := s54_at.2 [.ro 3 m (.wires n x y z cl cur), .agg [.flt .f32 p, .flt .f32 q, .flt .f32 r]] _ _ rfl hc.1
    rw [hc.2] at this
    exact this
  · cases h
noncomputable def s21T : List A → Option (Bool × A)
  | [.agg [.ro 3 n (.vecs .f32 x y z), .bool cl, .flt .f32 cur], .agg [.flt .f32 p, .flt .f32 q, .flt .f32 r]] => some (Nat.ble n 1073741824 && fOk n cur x y z cl p q r, .tup [.agg [.flt .f32 (fwX n x y z cl cur p q r), .flt .f32 (fwY n x y z cl cur p q r), .flt .f32 (fwZ n x y z cl cur p q r)], .bool true])
  | _ => none
theorem s21T_at : EnvAt Try.prog 21 s21T := by
  refine ⟨s45_at.1, fun ds cc r h hc => ?_⟩
  unfold s21T at h
  split at h
  · rename_i n x y z cl cur p q r
    simp only [Option.some.injEq, Prod.mk.injEq] at h
    obtain ⟨rfl, rfl⟩ := h
    rw [Bool.and_eq_true] at hc
    have := s45_at.2 [.agg [.ro 3 n (.vecs .f32 x y z), .bool cl, .flt .f32 cur], .agg [.flt .f32 p, .flt .f32 q, .flt .f32 r]] _ _ rfl hc.1
    rw [hc.2] at this
    exact this
  · cases h
/-- A square's points. -/
noncomputable def sqX (s h i : Nat) : Nat := ([[s, s, h], [fneg .f32 s, s, h], [fneg .f32 s, fneg .f32 s, h], [s, fneg .f32 s, h]].getD i []).getD 0 0
noncomputable def sqY (s h i : Nat) : Nat := ([[s, s, h], [fneg .f32 s, s, h], [fneg .f32 s, fneg .f32 s, h], [s, fneg .f32 s, h]].getD i []).getD 1 0
noncomputable def sqZ (s h i : Nat) : Nat := ([[s, s, h], [fneg .f32 s, s, h], [fneg .f32 s, fneg .f32 s, h], [s, fneg .f32 s, h]].getD i []).getD 2 0
noncomputable def sqOk (s h c : Nat) : Bool := above s && fin h && okW 4 c (sqX s h) (sqY s h) (sqZ s h)
theorem walk29 (s h c : Nat) : autoW cfgGI (fun _ => true) 0 (fun _ => none) [false, false] Try.f29 [.flt .f32 s, .flt .f32 h, .flt .f32 c] = some ((!bif !above s then true else !fin h) && ((!!okW 4 c (sqX s h) (sqY s h) (sqZ s h)) && true), .tup [.agg [.ro 3 4 (.vecs .f32 (sqX s h) (sqY s h) (sqZ s h)), .bool true, .flt .f32 c], .bool true]) := by kernel_rfl
noncomputable def s29T : List A → Option (Bool × A)
  | [.flt .f32 s, .flt .f32 h, .flt .f32 c] => some (sqOk s h c, .tup [.agg [.ro 3 4 (.vecs .f32 (sqX s h) (sqY s h) (sqZ s h)), .bool true, .flt .f32 c], .bool true])
  | _ => none
theorem s29T_at : EnvAt Try.prog 29 s29T := by
  refine ⟨⟨Try.f29, Try.func29, by kernel_rfl, by kernel_rfl⟩, fun ds cc rr h hc => ?_⟩
  unfold s29T at h
  split at h
  · rename_i s h' c
    simp only [Option.some.injEq, Prod.mk.injEq] at h
    obtain ⟨rfl, rfl⟩ := h
    unfold sqOk at hc
    simp only [Bool.and_eq_true] at hc
    exact autoW_ok cfgGI_ok Try.func29 (by kernel_rfl) (lp_none _) (walk29 s h' c) (by rw [hc.1.1, hc.1.2, hc.2]; rfl)
  · cases h
/-- Along a path. -/
noncomputable def arGo (m : Nat) (n : Nat → Nat) (x y z : Nat → Nat → Nat) (cl : Nat → Bool) (cur : Nat → Nat) (n2 : Nat) (x2 y2 z2 : Nat → Nat) (cl2 : Bool) (cur2 pp : Nat) : Bool := arOk m n x y z cur n2 cur2 x2 y2 z2 (Int.ofNat pp) && fin (arR m n x y z cl cur (sg n2 x2 y2 z2) pp (can .f32 0) (cnt n2 cl2))
noncomputable def arV (m : Nat) (n : Nat → Nat) (x y z : Nat → Nat → Nat) (cl : Nat → Bool) (cur : Nat → Nat) (n2 : Nat) (x2 y2 z2 : Nat → Nat) (cl2 : Bool) (pp : Nat) : Nat := arR m n x y z cl cur (sg n2 x2 y2 z2) pp (can .f32 0) (cnt n2 cl2)
noncomputable def s32T : List A → Option (Bool × A)
  | [.ro 3 m (.wires n x y z cl cur), .agg [.ro 3 n2 (.vecs .f32 x2 y2 z2), .bool cl2, .flt .f32 cur2], .int .i64 (Int.ofNat pp)] => some (Nat.ble m 1048576 && allUpTo (shortW n) m && Nat.ble n2 1048576 && arGo m n x y z cl cur n2 x2 y2 z2 cl2 cur2 pp, .tup [.flt .f32 (arV m n x y z cl cur n2 x2 y2 z2 cl2 pp), .bool true])
  | _ => none
theorem s32T_at : EnvAt Try.prog 32 s32T := by
  refine ⟨s60a_at.1, fun ds cc r h hc => ?_⟩
  unfold s32T at h
  split at h
  · rename_i m n x y z cl cur n2 x2 y2 z2 cl2 cur2 pp
    simp only [Option.some.injEq, Prod.mk.injEq] at h
    obtain ⟨rfl, rfl⟩ := h
    rw [Bool.and_eq_true] at hc
    have := s60a_at.2 [.ro 3 m (.wires n x y z cl cur), .agg [.ro 3 n2 (.vecs .f32 x2 y2 z2), .bool cl2, .flt .f32 cur2], .int .i64 (Int.ofNat pp)] _ _ rfl hc.1
    have h2 : (arOk m n x y z cur n2 cur2 x2 y2 z2 (Int.ofNat pp) && fin (arR m n x y z cl cur (sg n2 x2 y2 z2) pp (can .f32 0) (cnt n2 cl2))) = true := hc.2
    rw [h2] at this
    exact this
  · cases h
noncomputable def envD0 : List (Nat × (List A → Option (Bool × A))) := (28, auto cfgA1 Try.f28) :: (23, sGap) :: (29, s29T) :: (21, s21T) :: (15, s15T) :: (25, s25) :: (13, s13) :: (11, auto cfgA1 Try.f11) :: (33, s122T) :: (34, s34T) :: (36, s37T) :: (32, s32T) :: (27, s26T) :: (12, s12) :: envA1
theorem envD0_ok : EnvOK Try.prog (look envD0) := env_cons (auto_at cfgA1_ok Try.func28 (by kernel_rfl) (by kernel_rfl)) (env_cons sGap_at (env_cons s29T_at (env_cons s21T_at (env_cons s15T_at (env_cons s25_at (env_cons s13_at (env_cons (auto_at cfgA1_ok Try.func11 (by kernel_rfl) (by kernel_rfl)) (env_cons s122T_at (env_cons s34T_at (env_cons s37T_at (env_cons s32T_at (env_cons s26T_at (env_cons s12_at envA1_ok)))))))))))))
noncomputable def cfgD0 : Cfg := mkCfg tab [] xts (look envD0)
theorem cfgD0_ok : CfgOK Try.prog cfgD0 := cfg_ok tab_eq (no_fts _) xts_ok envD0_ok mixed
noncomputable def cfgD0i : Cfg := mkCfg (nilTab tab) ftsI xts (look envD0)
theorem cfgD0i_ok : CfgOK Try.prog cfgD0i := cfgN_ok' tab_eq ftsI_ok xts_ok envD0_ok mixed
end Go.Fw.E1

/-
  Moments in fields: contracts.
-/
namespace Go.Fw.E1
open Go.Proofs
noncomputable def s91T : List A → Option (Bool × A)
  | [.agg [.flt .f32 a, .flt .f32 b, .flt .f32 c], .ro 3 m (.wires n x y z cl cur), .agg [.flt .f32 p, .flt .f32 q, .flt .f32 r]] => some (vfin a b c && (Nat.ble m 1048576 && allUpTo (shortW n) m && flOk m n x y z cl cur p q r), .tup [.agg [.flt .f32 (faX n x y z cl cur p q r 0 m), .flt .f32 (faY n x y z cl cur p q r 0 m), .flt .f32 (faZ n x y z cl cur p q r 0 m)], .bool true])
  | _ => none
theorem walk91 (a b c m : Nat) (n : Nat → Nat) (x y z : Nat → Nat → Nat) (cl : Nat → Bool) (cur : Nat → Nat) (p q r : Nat) : autoW cfgD0 (fun _ => true) 0 (fun _ => none) [false] Try.f91 [.agg [.flt .f32 a, .flt .f32 b, .flt .f32 c], .ro 3 m (.wires n x y z cl cur), .agg [.flt .f32 p, .flt .f32 q, .flt .f32 r]] = some (!!vfin a b c && (Nat.ble m 1048576 && allUpTo (shortW n) m && flOk m n x y z cl cur p q r && true), .tup [.agg [.flt .f32 (faX n x y z cl cur p q r 0 m), .flt .f32 (faY n x y z cl cur p q r 0 m), .flt .f32 (faZ n x y z cl cur p q r 0 m)], .bool true]) := by kernel_rfl
theorem s91T_at : EnvAt Try.prog 91 s91T := by
  refine ⟨⟨Try.f91, Try.func91, by kernel_rfl, by kernel_rfl⟩, fun ds cc rr h hc => ?_⟩
  unfold s91T at h
  split at h
  · rename_i a b c m n x y z cl cur p q r
    simp only [Option.some.injEq, Prod.mk.injEq] at h
    obtain ⟨rfl, rfl⟩ := h
    rw [Bool.and_eq_true] at hc
    exact autoW_ok cfgD0_ok Try.func91 (by kernel_rfl) (lp_none _) (walk91 a b c m n x y z cl cur p q r) (by rw [hc.1, hc.2]; rfl)
  · cases h
/-- The cross product's numbers. -/
noncomputable def crX (_a b c _x y z : Nat) : Nat := fop .sub .f32 (fop .mul .f32 b z) (fop .mul .f32 c y)
noncomputable def crY (a _b c x _y z : Nat) : Nat := fop .sub .f32 (fop .mul .f32 c x) (fop .mul .f32 a z)
noncomputable def crZ (a b _c x y _z : Nat) : Nat := fop .sub .f32 (fop .mul .f32 a y) (fop .mul .f32 b x)
noncomputable def s92T : List A → Option (Bool × A)
  | [.agg [.flt .f32 a, .flt .f32 b, .flt .f32 c], .agg [.flt .f32 x, .flt .f32 y, .flt .f32 z]] => some (true, .agg [.flt .f32 (crX a b c x y z), .flt .f32 (crY a b c x y z), .flt .f32 (crZ a b c x y z)])
  | _ => none
theorem s92T_at : EnvAt Try.prog 92 s92T := by
  refine ⟨s147_at.1, fun ds cc r h hc => ?_⟩
  unfold s92T at h
  split at h
  · rename_i a b c x y z
    simp only [Option.some.injEq, Prod.mk.injEq] at h
    obtain ⟨rfl, rfl⟩ := h
    exact s147_at.2 [.agg [.flt .f32 a, .flt .f32 b, .flt .f32 c], .agg [.flt .f32 x, .flt .f32 y, .flt .f32 z]] _ _ rfl rfl
  · cases h
noncomputable def s76T : List A → Option (Bool × A)
  | [.agg [.flt .f32 a, .flt .f32 b, .flt .f32 c]] => some (vfin a b c, .tup [.agg [.flt .f32 a, .flt .f32 b, .flt .f32 c], .bool true])
  | _ => none
theorem s76T_at : EnvAt Try.prog 76 s76T := by
  refine ⟨s101_at.1, fun ds cc r h hc => ?_⟩
  unfold s76T at h
  split at h
  · rename_i a b c
    simp only [Option.some.injEq, Prod.mk.injEq] at h
    obtain ⟨rfl, rfl⟩ := h
    have := s101_at.2 [.agg [.flt .f32 a, .flt .f32 b, .flt .f32 c]] _ _ rfl rfl
    rw [hc] at this
    exact this
  · cases h
noncomputable def s78T : List A → Option (Bool × A)
  | [.flt .f32 a] => some (fin a, .tup [.flt .f32 a, .bool true])
  | _ => none
theorem s78T_at : EnvAt Try.prog 78 s78T := by
  refine ⟨s92_at.1, fun ds cc r h hc => ?_⟩
  unfold s78T at h
  split at h
  · rename_i a
    simp only [Option.some.injEq, Prod.mk.injEq] at h
    obtain ⟨rfl, rfl⟩ := h
    have := s92_at.2 [.flt .f32 a] _ _ rfl rfl
    rw [hc] at this
    exact this
  · cases h
noncomputable def envD1 : List (Nat × (List A → Option (Bool × A))) := (92, s92T) :: (76, s76T) :: (78, s78T) :: (91, s91T) :: (93, auto cfgD0 Try.f93) :: envD0
theorem envD1_ok : EnvOK Try.prog (look envD1) := env_cons s92T_at (env_cons s76T_at (env_cons s78T_at (env_cons s91T_at (env_cons (auto_at cfgD0_ok Try.func93 (by kernel_rfl) (by kernel_rfl)) envD0_ok))))
noncomputable def cfgD1 : Cfg := mkCfg tab [] xts (look envD1)
theorem cfgD1_ok : CfgOK Try.prog cfgD1 := cfg_ok tab_eq (no_fts _) xts_ok envD1_ok mixed
/-- May a field be asked for a moment? -/
noncomputable def fG (a b c m : Nat) (n : Nat → Nat) (x y z : Nat → Nat → Nat) (cl : Nat → Bool) (cur : Nat → Nat) (p q r : Nat) : Bool := vfin a b c && (Nat.ble m 1048576 && allUpTo (shortW n) m && flOk m n x y z cl cur p q r)
/-- The moment along the field. -/
noncomputable def mfI (a b c m : Nat) (n : Nat → Nat) (x y z : Nat → Nat → Nat) (cl : Nat → Bool) (cur : Nat → Nat) (p q r : Nat) : Nat := inn a b c (faX n x y z cl cur p q r 0 m) (faY n x y z cl cur p q r 0 m) (faZ n x y z cl cur p q r 0 m)
theorem walk39 (a b c m : Nat) (n : Nat → Nat) (x y z : Nat → Nat → Nat) (cl : Nat → Bool) (cur : Nat → Nat) (p q r : Nat) : autoW cfgD1 (fun _ => true) 0 (fun _ => none) [false] Try.f39 [.agg [.flt .f32 a, .flt .f32 b, .flt .f32 c], .ro 3 m (.wires n x y z cl cur), .agg [.flt .f32 p, .flt .f32 q, .flt .f32 r]] = some ((fG a b c m n x y z cl cur p q r) && (vfin (crX a b c (faX n x y z cl cur p q r 0 m) (faY n x y z cl cur p q r 0 m) (faZ n x y z cl cur p q r 0 m)) (crY a b c (faX n x y z cl cur p q r 0 m) (faY n x y z cl cur p q r 0 m) (faZ n x y z cl cur p q r 0 m)) (crZ a b c (faX n x y z cl cur p q r 0 m) (faY n x y z cl cur p q r 0 m) (faZ n x y z cl cur p q r 0 m)) && true) , .tup [.agg [.flt .f32 (crX a b c (faX n x y z cl cur p q r 0 m) (faY n x y z cl cur p q r 0 m) (faZ n x y z cl cur p q r 0 m)), .flt .f32 (crY a b c (faX n x y z cl cur p q r 0 m) (faY n x y z cl cur p q r 0 m) (faZ n x y z cl cur p q r 0 m)), .flt .f32 (crZ a b c (faX n x y z cl cur p q r 0 m) (faY n x y z cl cur p q r 0 m) (faZ n x y z cl cur p q r 0 m))], .bool true]) := by kernel_rfl
noncomputable def s39T : List A → Option (Bool × A)
  | [.agg [.flt .f32 a, .flt .f32 b, .flt .f32 c], .ro 3 m (.wires n x y z cl cur), .agg [.flt .f32 p, .flt .f32 q, .flt .f32 r]] => some ((fG a b c m n x y z cl cur p q r) && vfin (crX a b c (faX n x y z cl cur p q r 0 m) (faY n x y z cl cur p q r 0 m) (faZ n x y z cl cur p q r 0 m)) (crY a b c (faX n x y z cl cur p q r 0 m) (faY n x y z cl cur p q r 0 m) (faZ n x y z cl cur p q r 0 m)) (crZ a b c (faX n x y z cl cur p q r 0 m) (faY n x y z cl cur p q r 0 m) (faZ n x y z cl cur p q r 0 m)), .tup [.agg [.flt .f32 (crX a b c (faX n x y z cl cur p q r 0 m) (faY n x y z cl cur p q r 0 m) (faZ n x y z cl cur p q r 0 m)), .flt .f32 (crY a b c (faX n x y z cl cur p q r 0 m) (faY n x y z cl cur p q r 0 m) (faZ n x y z cl cur p q r 0 m)), .flt .f32 (crZ a b c (faX n x y z cl cur p q r 0 m) (faY n x y z cl cur p q r 0 m) (faZ n x y z cl cur p q r 0 m))], .bool true])
  | _ => none
theorem s39T_at : EnvAt Try.prog 39 s39T := by
  refine ⟨⟨Try.f39, Try.func39, by kernel_rfl, by kernel_rfl⟩, fun ds cc rr h hc => ?_⟩
  unfold s39T at h
  split at h
  · rename_i a b c m n x y z cl cur p q r
    simp only [Option.some.injEq, Prod.mk.injEq] at h
    obtain ⟨rfl, rfl⟩ := h
    exact autoW_ok cfgD1_ok Try.func39 (by kernel_rfl) (lp_none _) (walk39 a b c m n x y z cl cur p q r) (by
      rw [Bool.and_eq_true] at hc; rw [hc.1, hc.2]; rfl)
  · cases h
theorem walk40 (a b c m : Nat) (n : Nat → Nat) (x y z : Nat → Nat → Nat) (cl : Nat → Bool) (cur : Nat → Nat) (p q r : Nat) : autoW cfgD1 (fun _ => true) 0 (fun _ => none) [false] Try.f40 [.agg [.flt .f32 a, .flt .f32 b, .flt .f32 c], .ro 3 m (.wires n x y z cl cur), .agg [.flt .f32 p, .flt .f32 q, .flt .f32 r]] = some ((fG a b c m n x y z cl cur p q r) && (fin (fneg .f32 (mfI a b c m n x y z cl cur p q r)) && true) , .tup [.flt .f32 (fneg .f32 (mfI a b c m n x y z cl cur p q r)), .bool true]) := by kernel_rfl
noncomputable def s40T : List A → Option (Bool × A)
  | [.agg [.flt .f32 a, .flt .f32 b, .flt .f32 c], .ro 3 m (.wires n x y z cl cur), .agg [.flt .f32 p, .flt .f32 q, .flt .f32 r]] => some ((fG a b c m n x y z cl cur p q r) && fin (fneg .f32 (mfI a b c m n x y z cl cur p q r)), .tup [.flt .f32 (fneg .f32 (mfI a b c m n x y z cl cur p q r)), .bool true])
  | _ => none
theorem s40T_at : EnvAt Try.prog 40 s40T := by
  refine ⟨⟨Try.f40, Try.func40, by kernel_rfl, by kernel_rfl⟩, fun ds cc rr h hc => ?_⟩
  unfold s40T at h
  split at h
  · rename_i a b c m n x y z cl cur p q r
    simp only [Option.some.injEq, Prod.mk.injEq] at h
    obtain ⟨rfl, rfl⟩ := h
    exact autoW_ok cfgD1_ok Try.func40 (by kernel_rfl) (lp_none _) (walk40 a b c m n x y z cl cur p q r) (by
      rw [Bool.and_eq_true] at hc; rw [hc.1, hc.2]; rfl)
  · cases h
/-- How the energy changes over a step. -/
noncomputable def mfD (a b c m : Nat) (n : Nat → Nat) (x y z : Nat → Nat → Nat) (cl : Nat → Bool) (cur : Nat → Nat) (p q r u v w s : Nat) : Nat := fop .quo .f32 (fop .sub .f32 (mfI a b c m n x y z cl cur p q r) (mfI a b c m n x y z cl cur u v w)) (fop .mul .f32 (can .f32 1073741824) s)
theorem walk41 (a b c m : Nat) (n : Nat → Nat) (x y z : Nat → Nat → Nat) (cl : Nat → Bool) (cur : Nat → Nat) (p q r s : Nat) : autoW cfgD1 (fun _ => true) 5 (fun _ => none) [false, false, true, false, true, false, false] Try.f41 [.agg [.flt .f32 a, .flt .f32 b, .flt .f32 c], .ro 3 m (.wires n x y z cl cur), .agg [.flt .f32 p, .flt .f32 q, .flt .f32 r], .flt .f32 s] = some ((!bif !above s then true else !vfin p q r) && (((fG a b c m n x y z cl cur (fop .add .f32 p s) (fop .add .f32 q 0) (fop .add .f32 r 0)) && true) && (((fG a b c m n x y z cl cur (fop .sub .f32 p s) (fop .sub .f32 q 0) (fop .sub .f32 r 0)) && true) && (((fG a b c m n x y z cl cur (fop .add .f32 p 0) (fop .add .f32 q s) (fop .add .f32 r 0)) && true) && (((fG a b c m n x y z cl cur (fop .sub .f32 p 0) (fop .sub .f32 q s) (fop .sub .f32 r 0)) && true) && (((fG a b c m n x y z cl cur (fop .add .f32 p 0) (fop .add .f32 q 0) (fop .add .f32 r s)) && true) && (((fG a b c m n x y z cl cur (fop .sub .f32 p 0) (fop .sub .f32 q 0) (fop .sub .f32 r s)) && true) && ((vfin (mfD a b c m n x y z cl cur (fop .add .f32 p s) (fop .add .f32 q 0) (fop .add .f32 r 0) (fop .sub .f32 p s) (fop .sub .f32 q 0) (fop .sub .f32 r 0) s) (mfD a b c m n x y z cl cur (fop .add .f32 p 0) (fop .add .f32 q s) (fop .add .f32 r 0) (fop .sub .f32 p 0) (fop .sub .f32 q s) (fop .sub .f32 r 0) s) (mfD a b c m n x y z cl cur (fop .add .f32 p 0) (fop .add .f32 q 0) (fop .add .f32 r s) (fop .sub .f32 p 0) (fop .sub .f32 q 0) (fop .sub .f32 r s) s) && true) && true))))))), .tup [.agg [.flt .f32 (mfD a b c m n x y z cl cur (fop .add .f32 p s) (fop .add .f32 q 0) (fop .add .f32 r 0) (fop .sub .f32 p s) (fop .sub .f32 q 0) (fop .sub .f32 r 0) s), .flt .f32 (mfD a b c m n x y z cl cur (fop .add .f32 p 0) (fop .add .f32 q s) (fop .add .f32 r 0) (fop .sub .f32 p 0) (fop .sub .f32 q s) (fop .sub .f32 r 0) s), .flt .f32 (mfD a b c m n x y z cl cur (fop .add .f32 p 0) (fop .add .f32 q 0) (fop .add .f32 r s) (fop .sub .f32 p 0) (fop .sub .f32 q 0) (fop .sub .f32 r s) s)], .bool true]) := by kernel_rfl
noncomputable def mfOk (a b c m : Nat) (n : Nat → Nat) (x y z : Nat → Nat → Nat) (cl : Nat → Bool) (cur : Nat → Nat) (p q r s : Nat) : Bool := above s && vfin p q r && ((fG a b c m n x y z cl cur (fop .add .f32 p s) (fop .add .f32 q 0) (fop .add .f32 r 0)) && (fG a b c m n x y z cl cur (fop .sub .f32 p s) (fop .sub .f32 q 0) (fop .sub .f32 r 0)) && (fG a b c m n x y z cl cur (fop .add .f32 p 0) (fop .add .f32 q s) (fop .add .f32 r 0)) && (fG a b c m n x y z cl cur (fop .sub .f32 p 0) (fop .sub .f32 q s) (fop .sub .f32 r 0)) && (fG a b c m n x y z cl cur (fop .add .f32 p 0) (fop .add .f32 q 0) (fop .add .f32 r s)) && (fG a b c m n x y z cl cur (fop .sub .f32 p 0) (fop .sub .f32 q 0) (fop .sub .f32 r s))) && vfin (mfD a b c m n x y z cl cur (fop .add .f32 p s) (fop .add .f32 q 0) (fop .add .f32 r 0) (fop .sub .f32 p s) (fop .sub .f32 q 0) (fop .sub .f32 r 0) s) (mfD a b c m n x y z cl cur (fop .add .f32 p 0) (fop .add .f32 q s) (fop .add .f32 r 0) (fop .sub .f32 p 0) (fop .sub .f32 q s) (fop .sub .f32 r 0) s) (mfD a b c m n x y z cl cur (fop .add .f32 p 0) (fop .add .f32 q 0) (fop .add .f32 r s) (fop .sub .f32 p 0) (fop .sub .f32 q 0) (fop .sub .f32 r s) s)
noncomputable def s41T : List A → Option (Bool × A)
  | [.agg [.flt .f32 a, .flt .f32 b, .flt .f32 c], .ro 3 m (.wires n x y z cl cur), .agg [.flt .f32 p, .flt .f32 q, .flt .f32 r], .flt .f32 s] => some (mfOk a b c m n x y z cl cur p q r s, .tup [.agg [.flt .f32 (mfD a b c m n x y z cl cur (fop .add .f32 p s) (fop .add .f32 q 0) (fop .add .f32 r 0) (fop .sub .f32 p s) (fop .sub .f32 q 0) (fop .sub .f32 r 0) s), .flt .f32 (mfD a b c m n x y z cl cur (fop .add .f32 p 0) (fop .add .f32 q s) (fop .add .f32 r 0) (fop .sub .f32 p 0) (fop .sub .f32 q s) (fop .sub .f32 r 0) s), .flt .f32 (mfD a b c m n x y z cl cur (fop .add .f32 p 0) (fop .add .f32 q 0) (fop .add .f32 r s) (fop .sub .f32 p 0) (fop .sub .f32 q 0) (fop .sub .f32 r s) s)], .bool true])
  | _ => none
theorem s41T_at : EnvAt Try.prog 41 s41T := by
  refine ⟨⟨Try.f41, Try.func41, by kernel_rfl, by kernel_rfl⟩, fun ds cc rr h hc => ?_⟩
  unfold s41T at h
  split at h
  · rename_i a b c m n x y z cl cur p q r s
    simp only [Option.some.injEq, Prod.mk.injEq] at h
    obtain ⟨rfl, rfl⟩ := h
    exact autoW_ok cfgD1_ok Try.func41 (by kernel_rfl) (lp_none _) (walk41 a b c m n x y z cl cur p q r s) (by
      unfold mfOk at hc
      simp only [Bool.and_eq_true] at hc
      obtain ⟨⟨⟨h1, h2⟩, ⟨⟨⟨⟨h3, h4⟩, h5⟩, h6⟩, h7⟩, h8⟩, h9⟩ := hc
      rw [h1, h2, h3, h4, h5, h6, h7, h8, h9]; rfl)
  · cases h
noncomputable def mmE (p q r e : Nat) : Nat := fop .mul .f32 e (fop .quo .f32 (can .f32 1065353216) (root32 (inn p q r p q r)))
noncomputable def mmX (a b c p q r : Nat) : Nat := inn a b c (mmE p q r p) (mmE p q r q) (mmE p q r r)
noncomputable def mmF (p q r : Nat) : Nat := fop .quo .f32 (can .f32 1077936128) (fop .mul .f32 (inn p q r p q r) (inn p q r p q r))
noncomputable def mmC (b a e x y z f : Nat) : Nat := fop .mul .f32 (fop .add .f32 (fop .add .f32 (fop .add .f32 (fop .mul .f32 b x) (fop .mul .f32 a y)) (fop .mul .f32 e z)) (fop .mul .f32 e (fneg .f32 (fop .mul .f32 (fop .mul .f32 (can .f32 1084227584) x) y)))) f
theorem walk43 (a b c x y z p q r : Nat) : autoW cfgD1 (fun _ => true) 0 (fun _ => none) [false] Try.f43 [.agg [.flt .f32 a, .flt .f32 b, .flt .f32 c], .agg [.flt .f32 x, .flt .f32 y, .flt .f32 z], .agg [.flt .f32 p, .flt .f32 q, .flt .f32 r]] = some ((!bif bif !vfin a b c then true else !vfin x y z then true else !vfin p q r) && (vfin (mmC x a (mmE p q r p) (mmX a b c p q r) (mmX x y z p q r) (inn a b c x y z) (mmF p q r)) (mmC y b (mmE p q r q) (mmX a b c p q r) (mmX x y z p q r) (inn a b c x y z) (mmF p q r)) (mmC z c (mmE p q r r) (mmX a b c p q r) (mmX x y z p q r) (inn a b c x y z) (mmF p q r)) && true), .tup [.agg [.flt .f32 (mmC x a (mmE p q r p) (mmX a b c p q r) (mmX x y z p q r) (inn a b c x y z) (mmF p q r)), .flt .f32 (mmC y b (mmE p q r q) (mmX a b c p q r) (mmX x y z p q r) (inn a b c x y z) (mmF p q r)), .flt .f32 (mmC z c (mmE p q r r) (mmX a b c p q r) (mmX x y z p q r) (inn a b c x y z) (mmF p q r))], .bool true]) := by kernel_rfl
noncomputable def mmOk (a b c x y z p q r : Nat) : Bool := vfin a b c && vfin x y z && vfin p q r && vfin (mmC x a (mmE p q r p) (mmX a b c p q r) (mmX x y z p q r) (inn a b c x y z) (mmF p q r)) (mmC y b (mmE p q r q) (mmX a b c p q r) (mmX x y z p q r) (inn a b c x y z) (mmF p q r)) (mmC z c (mmE p q r r) (mmX a b c p q r) (mmX x y z p q r) (inn a b c x y z) (mmF p q r))
noncomputable def s43T : List A → Option (Bool × A)
  | [.agg [.flt .f32 a, .flt .f32 b, .flt .f32 c], .agg [.flt .f32 x, .flt .f32 y, .flt .f32 z], .agg [.flt .f32 p, .flt .f32 q, .flt .f32 r]] => some (mmOk a b c x y z p q r, .tup [.agg [.flt .f32 (mmC x a (mmE p q r p) (mmX a b c p q r) (mmX x y z p q r) (inn a b c x y z) (mmF p q r)), .flt .f32 (mmC y b (mmE p q r q) (mmX a b c p q r) (mmX x y z p q r) (inn a b c x y z) (mmF p q r)), .flt .f32 (mmC z c (mmE p q r r) (mmX a b c p q r) (mmX x y z p q r) (inn a b c x y z) (mmF p q r))], .bool true])
  | _ => none
theorem s43T_at : EnvAt Try.prog 43 s43T := by
  refine ⟨⟨Try.f43, Try.func43, by kernel_rfl, by kernel_rfl⟩, fun ds cc rr h hc => ?_⟩
  unfold s43T at h
  split at h
  · rename_i a b c x y z p q r
    simp only [Option.some.injEq, Prod.mk.injEq] at h
    obtain ⟨rfl, rfl⟩ := h
    exact autoW_ok cfgD1_ok Try.func43 (by kernel_rfl) (lp_none _) (walk43 a b c x y z p q r) (by
      unfold mmOk at hc
      simp only [Bool.and_eq_true] at hc
      obtain ⟨⟨⟨h1, h2⟩, h3⟩, h4⟩ := hc
      rw [h1, h2, h3, h4]; rfl)
  · cases h
noncomputable def envD2 : List (Nat × (List A → Option (Bool × A))) := (39, s39T) :: (40, s40T) :: (41, s41T) :: (43, s43T) :: envD1
theorem envD2_ok : EnvOK Try.prog (look envD2) := env_cons s39T_at (env_cons s40T_at (env_cons s41T_at (env_cons s43T_at envD1_ok)))
noncomputable def cfgD2 : Cfg := mkCfg tab [] xts (look envD2)
theorem cfgD2_ok : CfgOK Try.prog cfgD2 := cfg_ok tab_eq (no_fts _) xts_ok envD2_ok mixed
end Go.Fw.E1

/-
  Sources and whirls of fields: contracts.
-/
namespace Go.Fw.E1
open Go.Proofs
/-- May a field be asked for at a place? -/
noncomputable def faG (m : Nat) (n : Nat → Nat) (x y z : Nat → Nat → Nat) (cl : Nat → Bool) (cur : Nat → Nat) (p q r : Nat) : Bool := Nat.ble m 1048576 && allUpTo (smallW n) m && (vfin p q r && fOkA m n x y z cl cur p q r)
noncomputable def s67T : List A → Option (Bool × A)
  | [.ro 3 m (.wires n x y z cl cur), .agg [.flt .f32 p, .flt .f32 q, .flt .f32 r]] => some (faG m n x y z cl cur p q r, .tup [.agg [.flt .f32 (faX n x y z cl cur p q r 0 m), .flt .f32 (faY n x y z cl cur p q r 0 m), .flt .f32 (faZ n x y z cl cur p q r 0 m)], .bool true])
  | _ => none
theorem s67T_at : EnvAt Try.prog 67 s67T := by
  refine ⟨s118_at.1, fun ds cc r h hc => ?_⟩
  unfold s67T at h
  split at h
  · rename_i m n x y z cl cur p q r
    simp only [Option.some.injEq, Prod.mk.injEq] at h
    obtain ⟨rfl, rfl⟩ := h
    unfold faG at hc
    rw [Bool.and_eq_true, Bool.and_eq_true (vfin p q r)] at hc
    have := s118_at.2 [.ro 3 m (.wires n x y z cl cur), .agg [.flt .f32 p, .flt .f32 q, .flt .f32 r]] _ _ rfl hc.1
    rw [hc.2.1, hc.2.2] at this
    exact this
  · cases h
noncomputable def envD3 : List (Nat × (List A → Option (Bool × A))) := (67, s67T) :: envD1
theorem envD3_ok : EnvOK Try.prog (look envD3) := env_cons s67T_at envD1_ok
noncomputable def cfgD3 : Cfg := mkCfg tab [] xts (look envD3)
theorem cfgD3_ok : CfgOK Try.prog cfgD3 := cfg_ok tab_eq (no_fts _) xts_ok envD3_ok mixed
noncomputable def dfX0 (m : Nat) (n : Nat → Nat) (x y z : Nat → Nat → Nat) (cl : Nat → Bool) (cur : Nat → Nat) (p q r s : Nat) : Nat := fop .sub .f32 (faX n x y z cl cur (fop .add .f32 p s) (fop .add .f32 q 0) (fop .add .f32 r 0) 0 m) (faX n x y z cl cur (fop .sub .f32 p s) (fop .sub .f32 q 0) (fop .sub .f32 r 0) 0 m)
noncomputable def dfY0 (m : Nat) (n : Nat → Nat) (x y z : Nat → Nat → Nat) (cl : Nat → Bool) (cur : Nat → Nat) (p q r s : Nat) : Nat := fop .sub .f32 (faY n x y z cl cur (fop .add .f32 p s) (fop .add .f32 q 0) (fop .add .f32 r 0) 0 m) (faY n x y z cl cur (fop .sub .f32 p s) (fop .sub .f32 q 0) (fop .sub .f32 r 0) 0 m)
noncomputable def dfZ0 (m : Nat) (n : Nat → Nat) (x y z : Nat → Nat → Nat) (cl : Nat → Bool) (cur : Nat → Nat) (p q r s : Nat) : Nat := fop .sub .f32 (faZ n x y z cl cur (fop .add .f32 p s) (fop .add .f32 q 0) (fop .add .f32 r 0) 0 m) (faZ n x y z cl cur (fop .sub .f32 p s) (fop .sub .f32 q 0) (fop .sub .f32 r 0) 0 m)
noncomputable def dfX1 (m : Nat) (n : Nat → Nat) (x y z : Nat → Nat → Nat) (cl : Nat → Bool) (cur : Nat → Nat) (p q r s : Nat) : Nat := fop .sub .f32 (faX n x y z cl cur (fop .add .f32 p 0) (fop .add .f32 q s) (fop .add .f32 r 0) 0 m) (faX n x y z cl cur (fop .sub .f32 p 0) (fop .sub .f32 q s) (fop .sub .f32 r 0) 0 m)
noncomputable def dfY1 (m : Nat) (n : Nat → Nat) (x y z : Nat → Nat → Nat) (cl : Nat → Bool) (cur : Nat → Nat) (p q r s : Nat) : Nat := fop .sub .f32 (faY n x y z cl cur (fop .add .f32 p 0) (fop .add .f32 q s) (fop .add .f32 r 0) 0 m) (faY n x y z cl cur (fop .sub .f32 p 0) (fop .sub .f32 q s) (fop .sub .f32 r 0) 0 m)
noncomputable def dfZ1 (m : Nat) (n : Nat → Nat) (x y z : Nat → Nat → Nat) (cl : Nat → Bool) (cur : Nat → Nat) (p q r s : Nat) : Nat := fop .sub .f32 (faZ n x y z cl cur (fop .add .f32 p 0) (fop .add .f32 q s) (fop .add .f32 r 0) 0 m) (faZ n x y z cl cur (fop .sub .f32 p 0) (fop .sub .f32 q s) (fop .sub .f32 r 0) 0 m)
noncomputable def dfX2 (m : Nat) (n : Nat → Nat) (x y z : Nat → Nat → Nat) (cl : Nat → Bool) (cur : Nat → Nat) (p q r s : Nat) : Nat := fop .sub .f32 (faX n x y z cl cur (fop .add .f32 p 0) (fop .add .f32 q 0) (fop .add .f32 r s) 0 m) (faX n x y z cl cur (fop .sub .f32 p 0) (fop .sub .f32 q 0) (fop .sub .f32 r s) 0 m)
noncomputable def dfY2 (m : Nat) (n : Nat → Nat) (x y z : Nat → Nat → Nat) (cl : Nat → Bool) (cur : Nat → Nat) (p q r s : Nat) : Nat := fop .sub .f32 (faY n x y z cl cur (fop .add .f32 p 0) (fop .add .f32 q 0) (fop .add .f32 r s) 0 m) (faY n x y z cl cur (fop .sub .f32 p 0) (fop .sub .f32 q 0) (fop .sub .f32 r s) 0 m)
noncomputable def dfZ2 (m : Nat) (n : Nat → Nat) (x y z : Nat → Nat → Nat) (cl : Nat → Bool) (cur : Nat → Nat) (p q r s : Nat) : Nat := fop .sub .f32 (faZ n x y z cl cur (fop .add .f32 p 0) (fop .add .f32 q 0) (fop .add .f32 r s) 0 m) (faZ n x y z cl cur (fop .sub .f32 p 0) (fop .sub .f32 q 0) (fop .sub .f32 r s) 0 m)
/-- Three triples' number k. -/
noncomputable def row3 (a b c d e f g h i k j : Nat) : Nat := match decide (j < 0 + 1 + 1) with
  | true => (match decide (j < 0 + 1) with | true => ([[a, b, c]].getD j []).getD k 0 | false => ([[d, e, f]].getD (j - 1) []).getD k 0)
  | false => ([[g, h, i]].getD (j - 2) []).getD k 0
noncomputable def dfR (m : Nat) (n : Nat → Nat) (x y z : Nat → Nat → Nat) (cl : Nat → Bool) (cur : Nat → Nat) (p q r s k j : Nat) : Nat := row3 (dfX0 m n x y z cl cur p q r s) (dfY0 m n x y z cl cur p q r s) (dfZ0 m n x y z cl cur p q r s) (dfX1 m n x y z cl cur p q r s) (dfY1 m n x y z cl cur p q r s) (dfZ1 m n x y z cl cur p q r s) (dfX2 m n x y z cl cur p q r s) (dfY2 m n x y z cl cur p q r s) (dfZ2 m n x y z cl cur p q r s) k j
theorem walk81 (m : Nat) (n : Nat → Nat) (x y z : Nat → Nat → Nat) (cl : Nat → Bool) (cur : Nat → Nat) (p q r s : Nat) : autoW cfgD3 (fun _ => true) 5 (fun _ => none) [false, true, false, true, false, true, false, false] Try.f81 [.ro 3 m (.wires n x y z cl cur), .agg [.flt .f32 p, .flt .f32 q, .flt .f32 r], .flt .f32 s] = some ((Nat.ble m 1048576 && allUpTo (shortW n) m) && ((!bif bif !areW m n x y z cur then true else !vfin p q r then true else !above s) && (faG m n x y z cl cur (fop .add .f32 p s) (fop .add .f32 q 0) (fop .add .f32 r 0) && (faG m n x y z cl cur (fop .sub .f32 p s) (fop .sub .f32 q 0) (fop .sub .f32 r 0) && (faG m n x y z cl cur (fop .add .f32 p 0) (fop .add .f32 q s) (fop .add .f32 r 0) && (faG m n x y z cl cur (fop .sub .f32 p 0) (fop .sub .f32 q s) (fop .sub .f32 r 0) && (faG m n x y z cl cur (fop .add .f32 p 0) (fop .add .f32 q 0) (fop .add .f32 r s) && (faG m n x y z cl cur (fop .sub .f32 p 0) (fop .sub .f32 q 0) (fop .sub .f32 r s) && (true)))))))), .tup [.ro 3 3 (.vecs .f32 (dfR m n x y z cl cur p q r s 0) (dfR m n x y z cl cur p q r s 1) (dfR m n x y z cl cur p q r s 2)), .bool true]) := by kernel_rfl
noncomputable def dfOk (m : Nat) (n : Nat → Nat) (x y z : Nat → Nat → Nat) (cl : Nat → Bool) (cur : Nat → Nat) (p q r s : Nat) : Bool := (Nat.ble m 1048576 && allUpTo (shortW n) m) && (areW m n x y z cur && vfin p q r && above s) && (faG m n x y z cl cur (fop .add .f32 p s) (fop .add .f32 q 0) (fop .add .f32 r 0) && faG m n x y z cl cur (fop .sub .f32 p s) (fop .sub .f32 q 0) (fop .sub .f32 r 0) && faG m n x y z cl cur (fop .add .f32 p 0) (fop .add .f32 q s) (fop .add .f32 r 0) && faG m n x y z cl cur (fop .sub .f32 p 0) (fop .sub .f32 q s) (fop .sub .f32 r 0) && faG m n x y z cl cur (fop .add .f32 p 0) (fop .add .f32 q 0) (fop .add .f32 r s) && faG m n x y z cl cur (fop .sub .f32 p 0) (fop .sub .f32 q 0) (fop .sub .f32 r s))
noncomputable def s81T : List A → Option (Bool × A)
  | [.ro 3 m (.wires n x y z cl cur), .agg [.flt .f32 p, .flt .f32 q, .flt .f32 r], .flt .f32 s] => some (dfOk m n x y z cl cur p q r s, .tup [.ro 3 3 (.vecs .f32 (dfR m n x y z cl cur p q r s 0) (dfR m n x y z cl cur p q r s 1) (dfR m n x y z cl cur p q r s 2)), .bool true])
  | _ => none
theorem s81T_at : EnvAt Try.prog 81 s81T := by
  refine ⟨⟨Try.f81, Try.func81, by kernel_rfl, by kernel_rfl⟩, fun ds cc rr h hc => ?_⟩
  unfold s81T at h
  split at h
  · rename_i m n x y z cl cur p q r s
    simp only [Option.some.injEq, Prod.mk.injEq] at h
    obtain ⟨rfl, rfl⟩ := h
    refine autoW_ok cfgD3_ok Try.func81 (by kernel_rfl) (lp_none _) (walk81 m n x y z cl cur p q r s) ?_
    unfold dfOk at hc
    rw [Bool.and_eq_true, Bool.and_eq_true (Nat.ble m 1048576 && allUpTo (shortW n) m)] at hc
    obtain ⟨⟨h1, h2⟩, h3⟩ := hc
    simp only [Bool.and_eq_true] at h2 h3
    obtain ⟨⟨h4, h5⟩, h6⟩ := h2
    obtain ⟨⟨⟨⟨⟨g1, g2⟩, g3⟩, g4⟩, g5⟩, g6⟩ := h3
    rw [h1, h4, h5, h6, g1, g2, g3, g4, g5, g6]; rfl
  · cases h
noncomputable def envD4 : List (Nat × (List A → Option (Bool × A))) := (81, s81T) :: envD3
theorem envD4_ok : EnvOK Try.prog (look envD4) := env_cons s81T_at envD3_ok
noncomputable def cfgD4 : Cfg := mkCfg tab [] xts (look envD4)
theorem cfgD4_ok : CfgOK Try.prog cfgD4 := cfg_ok tab_eq (no_fts _) xts_ok envD4_ok mixed
noncomputable def srV (m : Nat) (n : Nat → Nat) (x y z : Nat → Nat → Nat) (cl : Nat → Bool) (cur : Nat → Nat) (p q r s : Nat) : Nat := fop .mul .f32 (can .f32 1056964608) (fop .add .f32 (fop .add .f32 (fop .quo .f32 (dfX0 m n x y z cl cur p q r s) s) (fop .quo .f32 (dfY1 m n x y z cl cur p q r s) s)) (fop .quo .f32 (dfZ2 m n x y z cl cur p q r s) s))
noncomputable def whX (m : Nat) (n : Nat → Nat) (x y z : Nat → Nat → Nat) (cl : Nat → Bool) (cur : Nat → Nat) (p q r s : Nat) : Nat := fop .sub .f32 (fop .quo .f32 (dfZ1 m n x y z cl cur p q r s) (fop .mul .f32 (can .f32 1073741824) s)) (fop .quo .f32 (dfY2 m n x y z cl cur p q r s) (fop .mul .f32 (can .f32 1073741824) s))
noncomputable def whY (m : Nat) (n : Nat → Nat) (x y z : Nat → Nat → Nat) (cl : Nat → Bool) (cur : Nat → Nat) (p q r s : Nat) : Nat := fop .sub .f32 (fop .quo .f32 (dfX2 m n x y z cl cur p q r s) (fop .mul .f32 (can .f32 1073741824) s)) (fop .quo .f32 (dfZ0 m n x y z cl cur p q r s) (fop .mul .f32 (can .f32 1073741824) s))
noncomputable def whZ (m : Nat) (n : Nat → Nat) (x y z : Nat → Nat → Nat) (cl : Nat → Bool) (cur : Nat → Nat) (p q r s : Nat) : Nat := fop .sub .f32 (fop .quo .f32 (dfY0 m n x y z cl cur p q r s) (fop .mul .f32 (can .f32 1073741824) s)) (fop .quo .f32 (dfX1 m n x y z cl cur p q r s) (fop .mul .f32 (can .f32 1073741824) s))
theorem walk30 (m : Nat) (n : Nat → Nat) (x y z : Nat → Nat → Nat) (cl : Nat → Bool) (cur : Nat → Nat) (p q r s : Nat) : autoW cfgD4 (fun _ => false) 5 (fun _ => none) [false] Try.f30 [.ro 3 m (.wires n x y z cl cur), .agg [.flt .f32 p, .flt .f32 q, .flt .f32 r], .flt .f32 s] = some (dfOk m n x y z cl cur p q r s && ((fin (srV m n x y z cl cur p q r s) && true) && true), .tup [.flt .f32 (srV m n x y z cl cur p q r s), .bool true]) := by kernel_rfl
noncomputable def sSrc : List A → Option (Bool × A)
  | [.ro 3 m (.wires n x y z cl cur), .agg [.flt .f32 p, .flt .f32 q, .flt .f32 r], .flt .f32 s] => some (dfOk m n x y z cl cur p q r s && fin (srV m n x y z cl cur p q r s), .tup [.flt .f32 (srV m n x y z cl cur p q r s), .bool true])
  | _ => none
theorem sSrc_at : EnvAt Try.prog 30 sSrc := by
  refine ⟨⟨Try.f30, Try.func30, by kernel_rfl, by kernel_rfl⟩, fun ds cc rr h hc => ?_⟩
  unfold sSrc at h
  split at h
  · rename_i m n x y z cl cur p q r s
    simp only [Option.some.injEq, Prod.mk.injEq] at h
    obtain ⟨rfl, rfl⟩ := h
    rw [Bool.and_eq_true] at hc
    exact autoW_ok cfgD4_ok Try.func30 (by kernel_rfl) (lp_none _) (walk30 m n x y z cl cur p q r s) (by rw [hc.1, hc.2]; rfl)
  · cases h
theorem walk31 (m : Nat) (n : Nat → Nat) (x y z : Nat → Nat → Nat) (cl : Nat → Bool) (cur : Nat → Nat) (p q r s : Nat) : autoW cfgD4 (fun _ => false) 5 (fun _ => none) [false] Try.f31 [.ro 3 m (.wires n x y z cl cur), .agg [.flt .f32 p, .flt .f32 q, .flt .f32 r], .flt .f32 s] = some (dfOk m n x y z cl cur p q r s && ((vfin (whX m n x y z cl cur p q r s) (whY m n x y z cl cur p q r s) (whZ m n x y z cl cur p q r s) && true) && true), .tup [.agg [.flt .f32 (whX m n x y z cl cur p q r s), .flt .f32 (whY m n x y z cl cur p q r s), .flt .f32 (whZ m n x y z cl cur p q r s)], .bool true]) := by kernel_rfl
noncomputable def sWhl : List A → Option (Bool × A)
  | [.ro 3 m (.wires n x y z cl cur), .agg [.flt .f32 p, .flt .f32 q, .flt .f32 r], .flt .f32 s] => some (dfOk m n x y z cl cur p q r s && vfin (whX m n x y z cl cur p q r s) (whY m n x y z cl cur p q r s) (whZ m n x y z cl cur p q r s), .tup [.agg [.flt .f32 (whX m n x y z cl cur p q r s), .flt .f32 (whY m n x y z cl cur p q r s), .flt .f32 (whZ m n x y z cl cur p q r s)], .bool true])
  | _ => none
theorem sWhl_at : EnvAt Try.prog 31 sWhl := by
  refine ⟨⟨Try.f31, Try.func31, by kernel_rfl, by kernel_rfl⟩, fun ds cc rr h hc => ?_⟩
  unfold sWhl at h
  split at h
  · rename_i m n x y z cl cur p q r s
    simp only [Option.some.injEq, Prod.mk.injEq] at h
    obtain ⟨rfl, rfl⟩ := h
    rw [Bool.and_eq_true] at hc
    exact autoW_ok cfgD4_ok Try.func31 (by kernel_rfl) (lp_none _) (walk31 m n x y z cl cur p q r s) (by rw [hc.1, hc.2]; rfl)
  · cases h
noncomputable def envD5 : List (Nat × (List A → Option (Bool × A))) := (30, sSrc) :: (31, sWhl) :: envD1
theorem envD5_ok : EnvOK Try.prog (look envD5) := env_cons sSrc_at (env_cons sWhl_at envD1_ok)
noncomputable def cfgD5 : Cfg := mkCfg tab [] xts (look envD5)
theorem cfgD5_ok : CfgOK Try.prog cfgD5 := cfg_ok tab_eq (no_fts _) xts_ok envD5_ok mixed
end Go.Fw.E1

/-
  The law of fields' sources and whirls: its walk.
-/
namespace Go.Fw.E1
open Go.Proofs
noncomputable def lwN (i : Nat) : Nat := [4].getD i 0
noncomputable def lwX (i : Nat) : Nat → Nat := [sqX (can .f32 1073741824) (can .f32 0)].getD i fun _ => 0
noncomputable def lwY (i : Nat) : Nat → Nat := [sqY (can .f32 1073741824) (can .f32 0)].getD i fun _ => 0
noncomputable def lwZ (i : Nat) : Nat → Nat := [sqZ (can .f32 1073741824) (can .f32 0)].getD i fun _ => 0
noncomputable def lwB (i : Nat) : Bool := [true].getD i false
noncomputable def lwI (cu i : Nat) : Nat := [cu].getD i 0
noncomputable def lpX (i : Nat) : Nat := ([[can .f32 1077936128, 0, can .f32 1065353216], [can .f32 1065353216, 0, can .f32 1065353216], [can .f32 1065353216, 0, can .f32 3212836864], [can .f32 1077936128, 0, can .f32 3212836864]].getD i []).getD 0 0
noncomputable def lpY (i : Nat) : Nat := ([[can .f32 1077936128, 0, can .f32 1065353216], [can .f32 1065353216, 0, can .f32 1065353216], [can .f32 1065353216, 0, can .f32 3212836864], [can .f32 1077936128, 0, can .f32 3212836864]].getD i []).getD 1 0
noncomputable def lpZ (i : Nat) : Nat := ([[can .f32 1077936128, 0, can .f32 1065353216], [can .f32 1065353216, 0, can .f32 1065353216], [can .f32 1065353216, 0, can .f32 3212836864], [can .f32 1077936128, 0, can .f32 3212836864]].getD i []).getD 2 0
/-- The current. -/
noncomputable def lCu (v : Int) : Nat := fop .quo .f32 (fofInt .f32 (IntKind.i64.wrap (Int.ofNat 1 + v))) (can .f32 1082130432)
noncomputable def lS (cu p q r : Nat) : Nat := srV 1 lwN lwX lwY lwZ lwB (lwI cu) p q r (can .f32 1040187392)
noncomputable def lWX (cu p q r : Nat) : Nat := whX 1 lwN lwX lwY lwZ lwB (lwI cu) p q r (can .f32 1040187392)
noncomputable def lWY (cu p q r : Nat) : Nat := whY 1 lwN lwX lwY lwZ lwB (lwI cu) p q r (can .f32 1040187392)
noncomputable def lWZ (cu p q r : Nat) : Nat := whZ 1 lwN lwX lwY lwZ lwB (lwI cu) p q r (can .f32 1040187392)
noncomputable def lDf (cu p q r : Nat) : Bool := dfOk 1 lwN lwX lwY lwZ lwB (lwI cu) p q r (can .f32 1040187392)
noncomputable def lA (cu : Nat) : Nat := arV 1 lwN lwX lwY lwZ lwB (lwI cu) 4 lpX lpY lpZ true 8
noncomputable def lB (cu : Nat) : Nat := arV 1 lwN lwX lwY lwZ lwB (lwI cu) 4 (adX (can .f32 1082130432) lpX) (adX 0 lpY) (adX 0 lpZ) true 8
noncomputable def lC (cu : Nat) : Nat := arV 1 lwN lwX lwY lwZ lwB (lwI cu) 4 (revR 4 lpX) (revR 4 lpY) (revR 4 lpZ) true 8
noncomputable def C5p (cu p q r : Nat) (x : Bool) : Bool := (lDf cu p q r && fin (lS cu p q r)) && ((lDf cu p q r && vfin (lWX cu p q r) (lWY cu p q r) (lWZ cu p q r)) && x)
noncomputable def C5a (cu : Nat) : Bool := (allUpTo (shortW lwN) 1 && true && arGo 1 lwN lwX lwY lwZ lwB (lwI cu) 4 lpX lpY lpZ true 0 8) && (movOk 4 0 (can .f32 1082130432) 0 0 lpX lpY lpZ && ((allUpTo (shortW lwN) 1 && true && arGo 1 lwN lwX lwY lwZ lwB (lwI cu) 4 (adX (can .f32 1082130432) lpX) (adX 0 lpY) (adX 0 lpZ) true 0 8) && (okW 4 0 lpX lpY lpZ && ((allUpTo (shortW lwN) 1 && true && arGo 1 lwN lwX lwY lwZ lwB (lwI cu) 4 (revR 4 lpX) (revR 4 lpY) (revR 4 lpZ) true 0 8) && (!false && true)))))
noncomputable def C5 (la lc : Nat) (c : Nat → Nat) (cu : Nat) (ub uc : Bool) : Bool :=
  (!bif decide (Int.ofNat la > 48) then true else decide (Int.ofNat lc > 48)) && ((ub && true && true) && (sqOk (can .f32 1073741824) (can .f32 0) cu && (uc && C5p cu (r8c lc c 0 0) (r8c lc c 0 1) (fop .add .f32 (r8c lc c 0 2) (can .f32 1082130432)) (C5a cu))))
noncomputable def R5s (cu p q r : Nat) : Bool := (forder .f64 (gap8 (fcvt .f32 .f64 (lS cu p q r)) (can .f64 0)) (can .f64 4588807732320345784) == some .lt)
noncomputable def R5w (cu p q r : Nat) : Bool := (forder .f64 (fcvt .f32 .f64 (long (lWX cu p q r) (lWY cu p q r) (lWZ cu p q r))) (can .f64 4588807732320345784) == some .lt)
noncomputable def R5a (cu : Nat) : Bool := (forder .f64 (gap8 (gap8 (fcvt .f32 .f64 (lA cu)) (can .f64 0)) (fop .mul .f64 (can .f64 4623263856023883326) (fcvt .f32 .f64 cu))) (fop .mul .f64 (can .f64 4587366580439587226) (fop .mul .f64 (can .f64 4623263856023883326) (fcvt .f32 .f64 cu))) == some .lt)
noncomputable def R5b (cu : Nat) : Bool := (forder .f64 (gap8 (fcvt .f32 .f64 (lB cu)) (can .f64 0)) (fop .mul .f64 (can .f64 4587366580439587226) (fop .mul .f64 (can .f64 4623263856023883326) (fcvt .f32 .f64 cu))) == some .lt)
noncomputable def R5c (cu : Nat) : Bool := (forder .f64 (gap8 (fcvt .f32 .f64 (lA cu)) (fneg .f64 (fcvt .f32 .f64 (lC cu)))) (fop .mul .f64 (can .f64 4562254508917369340) (fop .mul .f64 (can .f64 4623263856023883326) (fcvt .f32 .f64 cu))) == some .lt)
noncomputable def R5 (cu p q r : Nat) : Bool := bif bif bif bif R5s cu p q r then R5w cu p q r else false then R5a cu else false then R5b cu else false then R5c cu else false
noncomputable def gL (b : Nat → Nat) (i : Nat) : A := .int .u8 (Int.ofNat (b i))
theorem walk5 (la : Nat) (b : Nat → Nat) (lc : Nat) (c : Nat → Nat) : autoW cfgD5 (fun _ => false) 5 (fun _ => none) [false, false] Try.f5 [.ro 1 la (.gen (gL b)), .ro 1 lc (.gen (gL c))] = some (C5 la lc c (lCu (r8a la b 0 8)) (allUpTo (isU8 (gL b)) la) (allUpTo (isU8 (gL c)) lc), .bool (R5 (lCu (r8a la b 0 8)) (r8c lc c 0 0) (r8c lc c 0 1) (fop .add .f32 (r8c lc c 0 2) (can .f32 1082130432)))) := by kernel_rfl
theorem long5 (la : Nat) (b : Nat → Nat) (lc : Nat) (c : Nat → Nat) : autoW cfgD5 (fun _ => false) 5 (fun _ => none) [true] Try.f5 [.ro 1 la (.gen (gL b)), .ro 1 lc (.gen (gL c))] = some ((bif decide (Int.ofNat la > 48) then true else decide (Int.ofNat lc > 48)) && true, .bool true) := by kernel_rfl
end Go.Fw.E1

/-
  Fields of rings as the kernel evaluates them.
-/
namespace Go.Fw.E1
open Go.Proofs

theorem rep0 : Rep .f32 0 .zero := rep_of .f32 0
theorem can0 : can .f32 0 = 0 := by decide +kernel
theorem repc0 : Rep .f32 (can .f32 0) .zero := by rw [can0]; exact rep0
theorem rep_fin {x : Nat} {a : V} (hx : Rep .f32 x a) (h : vgood a = true) : fin x = true := by
  have hv := rep_val hx h
  have h2 : Fin .f32 (fop .sub .f32 x x) 0 := by
    have := Fin.sub hv hv
    rw [Int.sub_self, rI_0] at this
    exact this (limK_pos _)
  unfold fin
  rw [Fin.order h2 (show Fin .f32 (can .f32 0) 0 from repc0)]
  rfl
noncomputable def vup (v : V) : Bool := V.rec false (fun b m _ => Bool.rec (Nat.ble 1 m) false b) false v
theorem rep_up {x : Nat} {a : V} (hx : Rep .f32 x a) (h : vup a = true) : (forder .f32 x (can .f32 0) == some .gt) = true := by
  cases a with
  | zero => cases h
  | bad => cases h
  | num b m s =>
    cases b
    · have hm : 1 ≤ m := Nat.le_of_ble_eq_true h
      have hv : Fin .f32 x ((m * 2 ^ s : Nat) : Int) := hx
      rw [Fin.order hv (show Fin .f32 (can .f32 0) 0 from repc0)]
      have : 0 < m * 2 ^ s := Nat.mul_pos (by omega) (Nat.two_pow_pos _)
      show (some (compareOfLessAndEq _ _) == some Ordering.gt) = true
      unfold compareOfLessAndEq
      rw [if_neg (by omega), if_neg (by omega)]
      rfl
    · cases h
noncomputable def vgd (ok : Bool) (v : V) : V := Bool.rec V.bad v ok
noncomputable def band (a b : Bool) : Bool := Bool.rec false b a
theorem band_eq (a b : Bool) : band a b = (a && b) := by cases a <;> rfl
noncomputable def vinn (a b c x y z : V) : V := vadd (vadd (vmul a x) (vmul b y)) (vmul c z)
noncomputable def vlong (a b c : V) : V := vsqrt (vinn a b c a b c)
noncomputable def vsgD (a b c x y z : V) : V := vmul (vmul (vlong a b c) (vlong x y z)) (vadd (vmul (vlong a b c) (vlong x y z)) (vinn a b c x y z))
noncomputable def vsgQ (a b c x y z : V) : V := vquo (vadd (vlong a b c) (vlong x y z)) (vsgD a b c x y z)
noncomputable def vsgO (a b c x y z : V) : Bool := band (vup (vsgD a b c x y z)) (vgood (vsgQ a b c x y z))
noncomputable def vsgX (a b c x y z : V) : V := vgd (vsgO a b c x y z) (vmul (vsub (vmul b z) (vmul c y)) (vsgQ a b c x y z))
noncomputable def vsgY (a b c x y z : V) : V := vgd (vsgO a b c x y z) (vmul (vsub (vmul c x) (vmul a z)) (vsgQ a b c x y z))
noncomputable def vsgZ (a b c x y z : V) : V := vgd (vsgO a b c x y z) (vmul (vsub (vmul a y) (vmul b x)) (vsgQ a b c x y z))
section
variable {a b c x y z : Nat} {A B C X Y Z : V} (ha : Rep .f32 a A) (hb : Rep .f32 b B) (hc : Rep .f32 c C) (hx : Rep .f32 x X) (hy : Rep .f32 y Y) (hz : Rep .f32 z Z)
include ha hb hc hx hy hz
theorem rep_inn : Rep .f32 (inn a b c x y z) (vinn A B C X Y Z) := rep_add (rep_add (rep_mul ha hx) (rep_mul hb hy)) (rep_mul hc hz)
omit hx hy hz in
theorem rep_long : Rep .f32 (long a b c) (vlong A B C) := rep_vsqrt (rep_inn ha hb hc ha hb hc)
theorem rep_sgD : Rep .f32 (sgD a b c x y z) (vsgD A B C X Y Z) := rep_mul (rep_mul (rep_long ha hb hc) (rep_long hx hy hz)) (rep_add (rep_mul (rep_long ha hb hc) (rep_long hx hy hz)) (rep_inn ha hb hc hx hy hz))
theorem rep_sgQ : Rep .f32 (sgQ a b c x y z) (vsgQ A B C X Y Z) := rep_quo (rep_add (rep_long ha hb hc) (rep_long hx hy hz)) (rep_sgD ha hb hc hx hy hz)
theorem sg_yes (h : vsgO A B C X Y Z = true) : sgNo a b c x y z = false := by
  unfold vsgO at h
  rw [band_eq, Bool.and_eq_true] at h
  unfold sgNo
  rw [rep_up (rep_sgD ha hb hc hx hy hz) h.1, rep_fin (rep_sgQ ha hb hc hx hy hz) h.2]
  rfl
theorem rep_sgX : Rep .f32 (sgX a b c x y z) (vsgX A B C X Y Z) := by
  unfold vsgX
  cases h : vsgO A B C X Y Z
  · trivial
  · unfold sgX
    rw [sg_yes ha hb hc hx hy hz h]
    exact rep_mul (rep_sub (rep_mul hb hz) (rep_mul hc hy)) (rep_sgQ ha hb hc hx hy hz)
theorem rep_sgY : Rep .f32 (sgY a b c x y z) (vsgY A B C X Y Z) := by
  unfold vsgY
  cases h : vsgO A B C X Y Z
  · trivial
  · unfold sgY
    rw [sg_yes ha hb hc hx hy hz h]
    exact rep_mul (rep_sub (rep_mul hc hx) (rep_mul ha hz)) (rep_sgQ ha hb hc hx hy hz)
theorem rep_sgZ : Rep .f32 (sgZ a b c x y z) (vsgZ A B C X Y Z) := by
  unfold vsgZ
  cases h : vsgO A B C X Y Z
  · trivial
  · unfold sgZ
    rw [sg_yes ha hb hc hx hy hz h]
    exact rep_mul (rep_sub (rep_mul ha hy) (rep_mul hb hx)) (rep_sgQ ha hb hc hx hy hz)
end
/-! ### Sums over segments: points by tables -/
noncomputable def vsegX (X Y Z : Nat → V) (n : Nat) (P Q R : V) (j : Nat) : V := vsgX (vsub P (X j)) (vsub Q (Y j)) (vsub R (Z j)) (vsub P (X (Nat.mod (Nat.succ j) n))) (vsub Q (Y (Nat.mod (Nat.succ j) n))) (vsub R (Z (Nat.mod (Nat.succ j) n)))
noncomputable def vsegY (X Y Z : Nat → V) (n : Nat) (P Q R : V) (j : Nat) : V := vsgY (vsub P (X j)) (vsub Q (Y j)) (vsub R (Z j)) (vsub P (X (Nat.mod (Nat.succ j) n))) (vsub Q (Y (Nat.mod (Nat.succ j) n))) (vsub R (Z (Nat.mod (Nat.succ j) n)))
noncomputable def vsegZ (X Y Z : Nat → V) (n : Nat) (P Q R : V) (j : Nat) : V := vsgZ (vsub P (X j)) (vsub Q (Y j)) (vsub R (Z j)) (vsub P (X (Nat.mod (Nat.succ j) n))) (vsub Q (Y (Nat.mod (Nat.succ j) n))) (vsub R (Z (Nat.mod (Nat.succ j) n)))
noncomputable def vsumF (f : Nat → V) (k : Nat) : V := Nat.rec V.zero (fun i s => vadd s (f i)) k
theorem rep_fX {x y z : Nat → Nat} {X Y Z : Nat → V} {n p q r : Nat} {P Q R : V} (hx : ∀ i, Rep .f32 (x i) (X i)) (hy : ∀ i, Rep .f32 (y i) (Y i)) (hz : ∀ i, Rep .f32 (z i) (Z i)) (hp : Rep .f32 p P) (hq : Rep .f32 q Q) (hr : Rep .f32 r R) :
    ∀ k, Rep .f32 (fX (sg n x y z) p q r 0 k) (vsumF (vsegX X Y Z n P Q R) k)
  | 0 => rep0
  | k + 1 => rep_add (rep_fX hx hy hz hp hq hr k) (rep_sgX (rep_sub hp (hx _)) (rep_sub hq (hy _)) (rep_sub hr (hz _)) (rep_sub hp (hx _)) (rep_sub hq (hy _)) (rep_sub hr (hz _)))
theorem rep_fY {x y z : Nat → Nat} {X Y Z : Nat → V} {n p q r : Nat} {P Q R : V} (hx : ∀ i, Rep .f32 (x i) (X i)) (hy : ∀ i, Rep .f32 (y i) (Y i)) (hz : ∀ i, Rep .f32 (z i) (Z i)) (hp : Rep .f32 p P) (hq : Rep .f32 q Q) (hr : Rep .f32 r R) :
    ∀ k, Rep .f32 (fY (sg n x y z) p q r 0 k) (vsumF (vsegY X Y Z n P Q R) k)
  | 0 => rep0
  | k + 1 => rep_add (rep_fY hx hy hz hp hq hr k) (rep_sgY (rep_sub hp (hx _)) (rep_sub hq (hy _)) (rep_sub hr (hz _)) (rep_sub hp (hx _)) (rep_sub hq (hy _)) (rep_sub hr (hz _)))
theorem rep_fZ {x y z : Nat → Nat} {X Y Z : Nat → V} {n p q r : Nat} {P Q R : V} (hx : ∀ i, Rep .f32 (x i) (X i)) (hy : ∀ i, Rep .f32 (y i) (Y i)) (hz : ∀ i, Rep .f32 (z i) (Z i)) (hp : Rep .f32 p P) (hq : Rep .f32 q Q) (hr : Rep .f32 r R) :
    ∀ k, Rep .f32 (fZ (sg n x y z) p q r 0 k) (vsumF (vsegZ X Y Z n P Q R) k)
  | 0 => rep0
  | k + 1 => rep_add (rep_fZ hx hy hz hp hq hr k) (rep_sgZ (rep_sub hp (hx _)) (rep_sub hq (hy _)) (rep_sub hr (hz _)) (rep_sub hp (hx _)) (rep_sub hq (hy _)) (rep_sub hr (hz _)))

/-! ### The ring of eight points and radius 1 -/
def r8x (i : Nat) : Nat := [1065353216, 1060439283, 2147483648, 3207922931, 3212836864, 3207922931, 0, 1060439283].getD i 0
def r8y (i : Nat) : Nat := [0, 1060439283, 1065353216, 1060439283, 2147483648, 3207922931, 3212836864, 3207922931].getD i 0
noncomputable def RX (i : Nat) : Nat := ringX 8 (can .f32 1065353216) i
noncomputable def RY (i : Nat) : Nat := ringY 8 (can .f32 1065353216) i
theorem ring8 : allUpTo (fun i => Nat.beq (RX i) (r8x i) && Nat.beq (RY i) (r8y i)) 8 = true := by decide +kernel
theorem ring8x {i : Nat} (hi : i < 8) : RX i = r8x i := by
  have := allUpTo_iff.1 ring8 i hi
  simp only [Bool.and_eq_true] at this
  exact Nat.eq_of_beq_eq_true this.1
theorem ring8y {i : Nat} (hi : i < 8) : RY i = r8y i := by
  have := allUpTo_iff.1 ring8 i hi
  simp only [Bool.and_eq_true] at this
  exact Nat.eq_of_beq_eq_true this.2
end Go.Fw.E1

/-
  Fields of a square at eighths: the kernel's table of sources and whirls.
-/
namespace Go.Fw.E1
open Go.Proofs
noncomputable def vc2 : V := V.num false 8388608 127
noncomputable def vm2' : V := V.num true 8388608 127
noncomputable def lSX (P Q R : V) : V := (vadd (vadd (vadd (vadd V.zero (vsgX (vsub P vc2) (vsub Q vc2) (vsub R V.zero) (vsub P vm2') (vsub Q vc2) (vsub R V.zero))) (vsgX (vsub P vm2') (vsub Q vc2) (vsub R V.zero) (vsub P vm2') (vsub Q vm2') (vsub R V.zero))) (vsgX (vsub P vm2') (vsub Q vm2') (vsub R V.zero) (vsub P vc2) (vsub Q vm2') (vsub R V.zero))) (vsgX (vsub P vc2) (vsub Q vm2') (vsub R V.zero) (vsub P vc2) (vsub Q vc2) (vsub R V.zero)))
noncomputable def lSY (P Q R : V) : V := (vadd (vadd (vadd (vadd V.zero (vsgY (vsub P vc2) (vsub Q vc2) (vsub R V.zero) (vsub P vm2') (vsub Q vc2) (vsub R V.zero))) (vsgY (vsub P vm2') (vsub Q vc2) (vsub R V.zero) (vsub P vm2') (vsub Q vm2') (vsub R V.zero))) (vsgY (vsub P vm2') (vsub Q vm2') (vsub R V.zero) (vsub P vc2) (vsub Q vm2') (vsub R V.zero))) (vsgY (vsub P vc2) (vsub Q vm2') (vsub R V.zero) (vsub P vc2) (vsub Q vc2) (vsub R V.zero)))
noncomputable def lSZ (P Q R : V) : V := (vadd (vadd (vadd (vadd V.zero (vsgZ (vsub P vc2) (vsub Q vc2) (vsub R V.zero) (vsub P vm2') (vsub Q vc2) (vsub R V.zero))) (vsgZ (vsub P vm2') (vsub Q vc2) (vsub R V.zero) (vsub P vm2') (vsub Q vm2') (vsub R V.zero))) (vsgZ (vsub P vm2') (vsub Q vm2') (vsub R V.zero) (vsub P vc2) (vsub Q vm2') (vsub R V.zero))) (vsgZ (vsub P vc2) (vsub Q vm2') (vsub R V.zero) (vsub P vc2) (vsub Q vc2) (vsub R V.zero)))
/-- (m - 17) / 8, and 4 more. -/
noncomputable def ve (i : Nat) : V := [V.num true 8912896 127, V.num true 8388608 127, V.num true 15728640 126, V.num true 14680064 126, V.num true 13631488 126, V.num true 12582912 126, V.num true 11534336 126, V.num true 10485760 126, V.num true 9437184 126, V.num true 8388608 126, V.num true 14680064 125, V.num true 12582912 125, V.num true 10485760 125, V.num true 8388608 125, V.num true 12582912 124, V.num true 8388608 124, V.num true 8388608 123, V.zero, V.num false 8388608 123, V.num false 8388608 124, V.num false 12582912 124, V.num false 8388608 125, V.num false 10485760 125, V.num false 12582912 125, V.num false 14680064 125, V.num false 8388608 126, V.num false 9437184 126, V.num false 10485760 126, V.num false 11534336 126, V.num false 12582912 126, V.num false 13631488 126, V.num false 14680064 126, V.num false 15728640 126, V.num false 8388608 127, V.num false 8912896 127].getD i V.bad
noncomputable def vez (i : Nat) : V := [V.num false 15728640 126, V.num false 8388608 127, V.num false 8912896 127, V.num false 9437184 127, V.num false 9961472 127, V.num false 10485760 127, V.num false 11010048 127, V.num false 11534336 127, V.num false 12058624 127, V.num false 12582912 127, V.num false 13107200 127, V.num false 13631488 127, V.num false 14155776 127, V.num false 14680064 127, V.num false 15204352 127, V.num false 15728640 127, V.num false 16252928 127, V.num false 8388608 128, V.num false 8650752 128, V.num false 8912896 128, V.num false 9175040 128, V.num false 9437184 128, V.num false 9699328 128, V.num false 9961472 128, V.num false 10223616 128, V.num false 10485760 128, V.num false 10747904 128, V.num false 11010048 128, V.num false 11272192 128, V.num false 11534336 128, V.num false 11796480 128, V.num false 12058624 128, V.num false 12320768 128, V.num false 12582912 128, V.num false 12845056 128].getD i V.bad
/-- A number's magnitude, in least units, is at most N. -/
noncomputable def vleN (N : Nat) (v : V) : Bool := band (vgood v) (Nat.ble (vmag v) N)
/-- What is asked of a number, the number told by its digits. -/
noncomputable def atN (f : Nat → Bool) (n : Nat) : Bool := Nat.rec (motive := fun _ => Bool) (f 0) (fun m _ => f (Nat.succ m)) n
theorem atN_eq (f : Nat → Bool) (n : Nat) : atN f n = f n := by cases n <;> rfl
noncomputable def lOkS (P Q R : V) : Bool := band (vleN 2854495385411919762116571938898990272765493248 (lSX P Q R)) (band (vleN 2854495385411919762116571938898990272765493248 (lSY P Q R)) (vleN 2854495385411919762116571938898990272765493248 (lSZ P Q R)))
noncomputable def lChk (P0 P1 P2 Q0 Q1 Q2 R0 R1 R2 : V) : Bool :=
  band (lOkS P2 Q1 R1) (band (lOkS P0 Q1 R1) (band (lOkS P1 Q2 R1) (band (lOkS P1 Q0 R1) (band (lOkS P1 Q1 R2) (band (lOkS P1 Q1 R0) (band (vleN 2787593149816327892691964784081045188247552 (vadd (vadd (vsub (lSX P2 Q1 R1) (lSX P0 Q1 R1)) (vsub (lSY P1 Q2 R1) (lSY P1 Q0 R1))) (vsub (lSZ P1 Q1 R2) (lSZ P1 Q1 R0)))) (band (vleN 1393796574908163946345982392040522594123776 (vsub (vsub (lSZ P1 Q2 R1) (lSZ P1 Q0 R1)) (vsub (lSY P1 Q1 R2) (lSY P1 Q1 R0)))) (band (vleN 1393796574908163946345982392040522594123776 (vsub (vsub (lSX P1 Q1 R2) (lSX P1 Q1 R0)) (vsub (lSZ P2 Q1 R1) (lSZ P0 Q1 R1)))) (vleN 1393796574908163946345982392040522594123776 (vsub (vsub (lSY P2 Q1 R1) (lSY P0 Q1 R1)) (vsub (lSX P1 Q2 R1) (lSX P1 Q0 R1))))))))))))
noncomputable def lPl (i j k : Nat) : Bool :=
  atN (fun i0 => atN (fun i1 => atN (fun i2 => atN (fun j0 => atN (fun j1 => atN (fun j2 => atN (fun k0 => atN (fun k1 => atN (fun k2 =>
    lChk (ve i0) (ve i1) (ve i2) (ve j0) (ve j1) (ve j2) (vez k0) (vez k1) (vez k2)) (Nat.add (Nat.mul 2 k) 2)) (Nat.add (Nat.mul 2 k) 1)) (Nat.mul 2 k)) (Nat.add (Nat.mul 2 j) 2)) (Nat.add (Nat.mul 2 j) 1)) (Nat.mul 2 j)) (Nat.add (Nat.mul 2 i) 2)) (Nat.add (Nat.mul 2 i) 1)) (Nat.mul 2 i)
noncomputable def lRow (i : Nat) : Bool := allUpTo (fun j => allUpTo (fun k => lPl i j k) 17) 17
end Go.Fw.E1
