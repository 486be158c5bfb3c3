/-
  Slices written into.
-/
import Derived.Test.YtcjkbhgiaaiflaaLpA
import Derived.Test.YtcjkbhgiaaiflaaFwC

namespace Go.Fw.C1
open Go.Proofs

theorem of_autoN {cfg : Cfg} (hc : CfgOK Try.prog cfg) {f : Nat} {fn : Func} {un : Nat} (hf : Try.prog.funcs[f]? = some fn) (hb : fn.body.isSome = true) (hn : (fn.name == "runtime.NumGoroutine") = false)
    {s : List A → Option (Bool × A)} (h : ∀ ds c r, s ds = some (c, r) → c = true → ∃ c', autoN cfg un fn ds = some (c', r) ∧ c' = true) : EnvAt Try.prog f s :=
  ⟨⟨fn, hf, hb, hn⟩, fun ds c r hs hct => by
    obtain ⟨c', h1, h2⟩ := h ds c r hs hct
    exact (autoN_at hc hf hb hn).2 ds c' r h1 h2⟩

noncomputable def lp70a : List (Nat × (St → T)) := [(0, sumAt Try.f70.ntmps 32 [0, 1, 4, 5] [] F70)]
theorem lp70a_ok : LpOK Try.prog (look lp70a) (bodyOf Try.f70) := lp_loops (by kernel_rfl) (by kernel_rfl) fun p hp => by
  simp only [lp70a, List.mem_cons, List.not_mem_nil, or_false] at hp
  rcases hp with rfl
  · exact loop70
theorem auto70a (m k0 : Nat) (g : Nat → Nat) : autoLp cfg20 (look lp70a) Try.f70 [.ro 1 m (.flts .f32 g), .int .i64 (.ofNat k0)] =
    some (m.ble 1048577 && k0.ble 1000000000 && bif allUpTo (fun k => !heldAt g k0 k) m then true else true, A.int IntKind.i64 (bif allUpTo (fun k => !heldAt g k0 k) m then Int.ofNat (k0 + m) else Int.negSucc 0)) := by kernel_rfl
noncomputable def s70a : List A → Option (Bool × A)
  | [.ro 1 m (.flts .f32 g), .int .i64 (.ofNat k0)] => some (Nat.ble m 1048577 && Nat.ble k0 1000000000 && allUpTo (fun k => !heldAt g k0 k) m, .int .i64 (Int.ofNat (k0 + m)))
  | _ => none
theorem s70a_at : EnvAt Try.prog 70 s70a := of_auto cfg20_ok lp70a_ok Try.func70 (by kernel_rfl) (by kernel_rfl) fun ds cc rr h hc => by
  unfold s70a at h
  split at h
  · rename_i m g k0
    simp only [Option.some.injEq, Prod.mk.injEq] at h
    obtain ⟨rfl, rfl⟩ := h
    refine auto_fit (auto70a m k0 g) ?_ ?_
    · simp only [Bool.and_eq_true] at hc; rw [hc.2]; rfl
    · simp only [Bool.and_eq_true] at hc; rw [hc.1.1, hc.1.2]; simp
  · cases h

noncomputable def s70 : List A → Option (Bool × A)
  | [.emp, .int .i64 k] => some (true, .int .i64 k)
  | ds => s70a ds
theorem auto70e (k : Int) : autoN cfg20 1 Try.f70 [.emp, .int .i64 k] = some (true, .int .i64 k) := by kernel_rfl
theorem s70_at : EnvAt Try.prog 70 s70 := by
  refine ⟨s70a_at.1, fun ds c r h hc => ?_⟩
  unfold s70 at h
  split at h
  · simp only [Option.some.injEq, Prod.mk.injEq] at h
    obtain ⟨rfl, rfl⟩ := h
    exact (autoN_at cfg20_ok (un := 1) Try.func70 (by kernel_rfl) (by kernel_rfl)).2 _ _ _ (auto70e _) rfl
  · exact s70a_at.2 _ _ _ h hc
theorem auto55e : autoN cfg1 1 Try.f55 [.emp, .emp] = some (true, .bool true) := by kernel_rfl
noncomputable def s55e : List A → Option (Bool × A)
  | [.emp, .emp] => some (true, .bool true)
  | ds => spec55 ds
theorem s55e_at : EnvAt Try.prog 55 s55e := by
  refine ⟨spec55_at.1, fun ds c r h hc => ?_⟩
  unfold s55e at h
  split at h
  · simp only [Option.some.injEq, Prod.mk.injEq] at h
    obtain ⟨rfl, rfl⟩ := h
    exact (autoN_at cfg1_ok (un := 1) Try.func55 (by kernel_rfl) (by kernel_rfl)).2 _ _ _ auto55e rfl
  · exact spec55_at.2 _ _ _ h hc

noncomputable def env23 : List (Nat × (List A → Option (Bool × A))) := (70, s70) :: (55, s55e) :: env22
theorem env23_ok : EnvOK Try.prog (look env23) := (env_cons s70_at (env_cons s55e_at env22_ok))
noncomputable def cfg23 : Cfg := mkCfg tab [] xts (look env23)
theorem cfg23_ok : CfgOK Try.prog cfg23 := cfg_ok tab_eq (no_fts _) xts_ok env23_ok mixed
theorem auto33a (n gn cn k0 : Nat) (r g c : Nat → Nat) : autoLp cfg23 (fun _ => none) Try.f33 [.agg [.ro 1 n (.flts .f32 r), .ro 1 gn (.flts .f32 g), .ro 1 cn (.flts .f32 c)], .int .i64 (.ofNat k0)] =
    some (n.ble 1048577 && k0.ble 1000000000 && allUpTo (fun k => !heldAt r k0 k) n && (gn.ble 1048577 && (k0 + n).ble 1000000000 && allUpTo (fun k => !heldAt g (k0 + n) k) gn && (cn.ble 1048577 && (k0 + n + gn).ble 1000000000 && allUpTo (fun k => !heldAt c (k0 + n + gn) k) cn && true)), A.int IntKind.i64 (Int.ofNat (k0 + n + gn + cn))) := by kernel_rfl
noncomputable def s33a : List A → Option (Bool × A)
  | [.agg [.ro 1 n (.flts .f32 r), .ro 1 gn (.flts .f32 g), .ro 1 cn (.flts .f32 c)], .int .i64 (.ofNat k0)] => some ((Nat.ble n 1048577 && Nat.ble k0 1000000000 && allUpTo (fun k => !heldAt r k0 k) n) && (Nat.ble gn 1048577 && Nat.ble (k0 + n) 1000000000 && allUpTo (fun k => !heldAt g (k0 + n) k) gn) && (Nat.ble cn 1048577 && Nat.ble (k0 + n + gn) 1000000000 && allUpTo (fun k => !heldAt c (k0 + n + gn) k) cn), .int .i64 (Int.ofNat (k0 + n + gn + cn)))
  | _ => none
theorem s33a_at : EnvAt Try.prog 33 s33a := of_auto cfg23_ok (lp_none _) Try.func33 (by kernel_rfl) (by kernel_rfl) fun ds cc rr h hc => by
  unfold s33a at h
  split at h
  · rename_i n r gn g cn c k0
    simp only [Option.some.injEq, Prod.mk.injEq] at h
    obtain ⟨rfl, rfl⟩ := h
    refine auto_fit (auto33a n gn cn k0 r g c) ?_ ?_
    · have e : ∀ x : Nat, decide (Int.ofNat x < 0) = false := fun x => by simp
      simp [e]
    · simp only [Bool.and_eq_true] at hc
      have e : ∀ x : Nat, decide (Int.ofNat x < 0) = false := fun x => by simp
      simp [e, hc]
  · cases h

theorem auto33e (k : Int) : autoLp cfg23 (fun _ => none) Try.f33 [.agg [.emp, .emp, .emp], .int .i64 k] =
    some (bif decide (k < 0) then true else bif decide (k < 0) then true else bif decide (k < 0) then true else true, A.int IntKind.i64 (bif decide (k < 0) then Int.negSucc 0 else bif decide (k < 0) then Int.negSucc 0 else bif decide (k < 0) then Int.negSucc 0 else k)) := by kernel_rfl
noncomputable def s33 : List A → Option (Bool × A)
  | [.agg [.emp, .emp, .emp], .int .i64 k] => some (decide (0 ≤ k), .int .i64 k)
  | ds => s33a ds
theorem s33_at : EnvAt Try.prog 33 s33 := by
  refine ⟨s33a_at.1, fun ds c r h hc => ?_⟩
  unfold s33 at h
  split at h
  · rename_i k
    simp only [Option.some.injEq, Prod.mk.injEq] at h
    obtain ⟨rfl, rfl⟩ := h
    have e : decide (k < 0) = false := by simp only [decide_eq_true_eq] at hc; simp; omega
    have key := (auto_at cfg23_ok Try.func33 (by kernel_rfl) (by kernel_rfl)).2 _ _ _ (auto33e k)
    rw [e] at key
    exact key rfl
  · exact s33a_at.2 _ _ _ h hc
noncomputable def env24 : List (Nat × (List A → Option (Bool × A))) := (33, s33) :: env23
theorem env24_ok : EnvOK Try.prog (look env24) := (env_cons s33_at env23_ok)
noncomputable def cfg24 : Cfg := mkCfg tab [] xts (look env24)
theorem cfg24_ok : CfgOK Try.prog cfg24 := cfg_ok tab_eq (no_fts _) xts_ok env24_ok mixed

/-! ### The laws' marks -/
def IM (ID m k0 k : Nat) : List A := [.sl ID m, .int .i64 (Int.ofNat (k0 + k)), .int .i64 (Int.ofNat 0), .int .i64 (Int.ofNat k)]
noncomputable def markF (k0 j : Nat) : Nat := fofInt .f32 (Int.ofNat (k0 + j))
noncomputable def JM (e m k0 : Nat) (g : Nat → Nat) (k : Nat) : O := .row e 1 m (.flts .f32 fun j => match decide (j < k) with | true => markF k0 j | false => g j)
noncomputable def FM (ID : Nat) : List A → O → Option (Bool × List A × O)
  | [.sl j m, .int .i64 (.ofNat k0), .int .i64 0, .int .i64 0], .row e 1 m2 (.flts .f32 _) => some (Nat.beq j ID && Nat.beq m2 m && Nat.ble m 1048577 && Nat.ble k0 1000000000, IM ID m k0 m, .row e 1 m (.flts .f32 (markF k0)))
  | _, _ => none
theorem markH (ID : Nat) (hround : ∀ (m k0 k e lo nx : Nat) (g : Nat → Nat) (M : List (Nat × O)) (L : XK → List A → List (Nat × O) → Prop),
    ((exec cfgN (fun _ => true) (fun _ => none) 0 1000 (loopOf Try.f69 0) (stM Try.f69.ntmps lo nx [0, 1, 4, 5] (IM ID m k0 k) ID (.row e 1 m (.flts .f32 g)) M)).rm [0, 1, 4, 5]).Ok L =
      bif decide (Int.ofNat k < Int.ofNat m) then
        bif decide (Int.ofNat k < Int.ofNat m) then
            L .normal [.sl ID m, .int .i64 (IntKind.i64.wrap (Int.ofNat (k0 + k) + Int.ofNat 1)), .int .i64 (Int.ofNat 0), .int .i64 (IntKind.i64.wrap (Int.ofNat k + Int.ofNat 1))]
              ((ID, .row e 1 m (.flts .f32 fun j => match decide (j = k) with | true => fofInt .f32 (Int.ofNat (k0 + k)) | false => g j)) :: (ID, .row e 1 m (.flts .f32 g)) :: M)
        else False
      else L (.exit 0) (IM ID m k0 k) ((ID, .row e 1 m (.flts .f32 g)) :: M)) :
    ∀ az o az' o', FM ID az o = some (true, az', o') → ∃ (I : Nat → List A) (J : Nat → O) (N : Nat), az = I 0 ∧ OSim (some o) (J 0) ∧ (∀ k, (J k).isRow = true) ∧ o'.isRow = true ∧ ALe (I N) az' ∧ OSim (some (J N)) o' ∧
      ∀ k, k ≤ N → ∀ lo nx M, ((exec cfgN (fun _ => true) (fun _ => none) 0 1000 (loopOf Try.f69 0) (stM Try.f69.ntmps lo nx [0, 1, 4, 5] (I k) ID (J k) M)).rm [0, 1, 4, 5]).Ok fun x az mem => match x with
        | .normal => k < N ∧ az = I (k + 1) ∧ SimMem mem ID M (J (k + 1))
        | .exit i => i = 0 ∧ k = N ∧ az = I N ∧ SimMem mem ID M (J N)
        | .ret => False := by
  intro az o az' o' hF
  unfold FM at hF
  split at hF
  · rename_i j m k0 e m2 g
    simp only [Option.some.injEq, Prod.mk.injEq, Bool.and_eq_true, Nat.beq_eq, Nat.ble_eq] at hF
    obtain ⟨⟨⟨⟨hj, hm2⟩, hm⟩, hk0⟩, rfl, rfl⟩ := hF
    subst hj hm2
    refine ⟨IM j m2 k0, JM e m2 k0 g, m2, rfl, ⟨e, _, rfl, .inr rfl, fun i _ => rfl⟩, fun _ => rfl, rfl, ALe.self _, ⟨e, _, rfl, .inr rfl, fun i hi => ?_⟩, fun k hk lo nx M => ?_⟩
    · simp [Row.at, hi]
    · unfold JM
      rw [hround]
      by_cases hkm : k < m2
      · rw [lt_dec hkm]
        refine ⟨hkm, ?_, fun j' hj' => ?_, ?_⟩
        · rw [wrap_succ (by omega), wrap_succ (by omega), Nat.add_assoc]; rfl
        · rw [look_cons_other _ _ hj', look_cons_other _ _ hj']
        · rw [look_cons_same]
          refine ⟨e, _, rfl, .inr rfl, fun i hi => ?_⟩
          simp only [Row.at]
          by_cases hik : i = k
          · subst hik; simp [markF]
          · have : (i < k) = (i < k + 1) := by simp; omega
            simp [hik, this]
      · rw [ge_dec (show m2 ≤ k by omega)]
        obtain rfl : k = m2 := by omega
        refine ⟨rfl, rfl, rfl, fun j' hj' => ?_, ?_⟩
        · rw [look_cons_other _ _ hj']
        · rw [look_cons_same]
          exact ⟨e, _, rfl, .inr rfl, fun _ _ => rfl⟩
  · cases hF
theorem roundM336 (m k0 k e lo nx : Nat) (g : Nat → Nat) (M : List (Nat × O)) (L : XK → List A → List (Nat × O) → Prop) :
    ((exec cfgN (fun _ => true) (fun _ => none) 0 1000 (loopOf Try.f69 0) (stM Try.f69.ntmps lo nx [0, 1, 4, 5] (IM 336 m k0 k) 336 (.row e 1 m (.flts .f32 g)) M)).rm [0, 1, 4, 5]).Ok L =
    bif decide (Int.ofNat k < Int.ofNat m) then
      bif decide (Int.ofNat k < Int.ofNat m) then
        L (XK.normal) ([A.sl 336 m, A.int IntKind.i64 (IntKind.i64.wrap (Int.ofNat (k0 + k) + Int.ofNat 1)), A.int IntKind.i64 (Int.ofNat 0), A.int IntKind.i64 (IntKind.i64.wrap (Int.ofNat k + Int.ofNat 1))]) ((336,     O.row e 1 m       (Row.flts FloatKind.f32 fun j =>         match decide (j = (Int.ofNat k).toNat) with         | true => fofInt FloatKind.f32 (Int.ofNat (k0 + k))         | false => g j)) ::   (336, O.row e 1 m (Row.flts FloatKind.f32 g)) :: M)
      else
        False
    else
      L (XK.exit 0) ([A.sl 336 m, A.int IntKind.i64 (Int.ofNat (k0 + k)), A.int IntKind.i64 (Int.ofNat 0), A.int IntKind.i64 (Int.ofNat k)]) ((336, O.row e 1 m (Row.flts FloatKind.f32 g)) :: M) := by kernel_rfl
theorem loopM336 : CodeOK Try.prog (fun _ σ => sumM Try.f69.ntmps [0, 1, 4, 5] 336 (FM 336) σ) (.block 0 (.loop (loopOf Try.f69 0))) :=
  sumM_ok (own := fun _ => true) (lp := fun _ => none) (un := 0) (fuel := 1000) cfgN_ok (lp_none _) (markH 336 fun m k0 k e lo nx g M L => roundM336 m k0 k e lo nx g M L)

theorem roundM337 (m k0 k e lo nx : Nat) (g : Nat → Nat) (M : List (Nat × O)) (L : XK → List A → List (Nat × O) → Prop) :
    ((exec cfgN (fun _ => true) (fun _ => none) 0 1000 (loopOf Try.f69 0) (stM Try.f69.ntmps lo nx [0, 1, 4, 5] (IM 337 m k0 k) 337 (.row e 1 m (.flts .f32 g)) M)).rm [0, 1, 4, 5]).Ok L =
    bif decide (Int.ofNat k < Int.ofNat m) then
      bif decide (Int.ofNat k < Int.ofNat m) then
        L (XK.normal) ([A.sl 337 m, A.int IntKind.i64 (IntKind.i64.wrap (Int.ofNat (k0 + k) + Int.ofNat 1)), A.int IntKind.i64 (Int.ofNat 0), A.int IntKind.i64 (IntKind.i64.wrap (Int.ofNat k + Int.ofNat 1))]) ((337,     O.row e 1 m       (Row.flts FloatKind.f32 fun j =>         match decide (j = (Int.ofNat k).toNat) with         | true => fofInt FloatKind.f32 (Int.ofNat (k0 + k))         | false => g j)) ::   (337, O.row e 1 m (Row.flts FloatKind.f32 g)) :: M)
      else
        False
    else
      L (XK.exit 0) ([A.sl 337 m, A.int IntKind.i64 (Int.ofNat (k0 + k)), A.int IntKind.i64 (Int.ofNat 0), A.int IntKind.i64 (Int.ofNat k)]) ((337, O.row e 1 m (Row.flts FloatKind.f32 g)) :: M) := by kernel_rfl
theorem loopM337 : CodeOK Try.prog (fun _ σ => sumM Try.f69.ntmps [0, 1, 4, 5] 337 (FM 337) σ) (.block 0 (.loop (loopOf Try.f69 0))) :=
  sumM_ok (own := fun _ => true) (lp := fun _ => none) (un := 0) (fuel := 1000) cfgN_ok (lp_none _) (markH 337 fun m k0 k e lo nx g M L => roundM337 m k0 k e lo nx g M L)

theorem roundM338 (m k0 k e lo nx : Nat) (g : Nat → Nat) (M : List (Nat × O)) (L : XK → List A → List (Nat × O) → Prop) :
    ((exec cfgN (fun _ => true) (fun _ => none) 0 1000 (loopOf Try.f69 0) (stM Try.f69.ntmps lo nx [0, 1, 4, 5] (IM 338 m k0 k) 338 (.row e 1 m (.flts .f32 g)) M)).rm [0, 1, 4, 5]).Ok L =
    bif decide (Int.ofNat k < Int.ofNat m) then
      bif decide (Int.ofNat k < Int.ofNat m) then
        L (XK.normal) ([A.sl 338 m, A.int IntKind.i64 (IntKind.i64.wrap (Int.ofNat (k0 + k) + Int.ofNat 1)), A.int IntKind.i64 (Int.ofNat 0), A.int IntKind.i64 (IntKind.i64.wrap (Int.ofNat k + Int.ofNat 1))]) ((338,     O.row e 1 m       (Row.flts FloatKind.f32 fun j =>         match decide (j = (Int.ofNat k).toNat) with         | true => fofInt FloatKind.f32 (Int.ofNat (k0 + k))         | false => g j)) ::   (338, O.row e 1 m (Row.flts FloatKind.f32 g)) :: M)
      else
        False
    else
      L (XK.exit 0) ([A.sl 338 m, A.int IntKind.i64 (Int.ofNat (k0 + k)), A.int IntKind.i64 (Int.ofNat 0), A.int IntKind.i64 (Int.ofNat k)]) ((338, O.row e 1 m (Row.flts FloatKind.f32 g)) :: M) := by kernel_rfl
theorem loopM338 : CodeOK Try.prog (fun _ σ => sumM Try.f69.ntmps [0, 1, 4, 5] 338 (FM 338) σ) (.block 0 (.loop (loopOf Try.f69 0))) :=
  sumM_ok (own := fun _ => true) (lp := fun _ => none) (un := 0) (fuel := 1000) cfgN_ok (lp_none _) (markH 338 fun m k0 k e lo nx g M L => roundM338 m k0 k e lo nx g M L)

theorem roundM432 (m k0 k e lo nx : Nat) (g : Nat → Nat) (M : List (Nat × O)) (L : XK → List A → List (Nat × O) → Prop) :
    ((exec cfgN (fun _ => true) (fun _ => none) 0 1000 (loopOf Try.f69 0) (stM Try.f69.ntmps lo nx [0, 1, 4, 5] (IM 432 m k0 k) 432 (.row e 1 m (.flts .f32 g)) M)).rm [0, 1, 4, 5]).Ok L =
    bif decide (Int.ofNat k < Int.ofNat m) then
      bif decide (Int.ofNat k < Int.ofNat m) then
        L (XK.normal) ([A.sl 432 m, A.int IntKind.i64 (IntKind.i64.wrap (Int.ofNat (k0 + k) + Int.ofNat 1)), A.int IntKind.i64 (Int.ofNat 0), A.int IntKind.i64 (IntKind.i64.wrap (Int.ofNat k + Int.ofNat 1))]) ((432,     O.row e 1 m       (Row.flts FloatKind.f32 fun j =>         match decide (j = (Int.ofNat k).toNat) with         | true => fofInt FloatKind.f32 (Int.ofNat (k0 + k))         | false => g j)) ::   (432, O.row e 1 m (Row.flts FloatKind.f32 g)) :: M)
      else
        False
    else
      L (XK.exit 0) ([A.sl 432 m, A.int IntKind.i64 (Int.ofNat (k0 + k)), A.int IntKind.i64 (Int.ofNat 0), A.int IntKind.i64 (Int.ofNat k)]) ((432, O.row e 1 m (Row.flts FloatKind.f32 g)) :: M) := by kernel_rfl
theorem loopM432 : CodeOK Try.prog (fun _ σ => sumM Try.f69.ntmps [0, 1, 4, 5] 432 (FM 432) σ) (.block 0 (.loop (loopOf Try.f69 0))) :=
  sumM_ok (own := fun _ => true) (lp := fun _ => none) (un := 0) (fuel := 1000) cfgN_ok (lp_none _) (markH 432 fun m k0 k e lo nx g M L => roundM432 m k0 k e lo nx g M L)

theorem roundM433 (m k0 k e lo nx : Nat) (g : Nat → Nat) (M : List (Nat × O)) (L : XK → List A → List (Nat × O) → Prop) :
    ((exec cfgN (fun _ => true) (fun _ => none) 0 1000 (loopOf Try.f69 0) (stM Try.f69.ntmps lo nx [0, 1, 4, 5] (IM 433 m k0 k) 433 (.row e 1 m (.flts .f32 g)) M)).rm [0, 1, 4, 5]).Ok L =
    bif decide (Int.ofNat k < Int.ofNat m) then
      bif decide (Int.ofNat k < Int.ofNat m) then
        L (XK.normal) ([A.sl 433 m, A.int IntKind.i64 (IntKind.i64.wrap (Int.ofNat (k0 + k) + Int.ofNat 1)), A.int IntKind.i64 (Int.ofNat 0), A.int IntKind.i64 (IntKind.i64.wrap (Int.ofNat k + Int.ofNat 1))]) ((433,     O.row e 1 m       (Row.flts FloatKind.f32 fun j =>         match decide (j = (Int.ofNat k).toNat) with         | true => fofInt FloatKind.f32 (Int.ofNat (k0 + k))         | false => g j)) ::   (433, O.row e 1 m (Row.flts FloatKind.f32 g)) :: M)
      else
        False
    else
      L (XK.exit 0) ([A.sl 433 m, A.int IntKind.i64 (Int.ofNat (k0 + k)), A.int IntKind.i64 (Int.ofNat 0), A.int IntKind.i64 (Int.ofNat k)]) ((433, O.row e 1 m (Row.flts FloatKind.f32 g)) :: M) := by kernel_rfl
theorem loopM433 : CodeOK Try.prog (fun _ σ => sumM Try.f69.ntmps [0, 1, 4, 5] 433 (FM 433) σ) (.block 0 (.loop (loopOf Try.f69 0))) :=
  sumM_ok (own := fun _ => true) (lp := fun _ => none) (un := 0) (fuel := 1000) cfgN_ok (lp_none _) (markH 433 fun m k0 k e lo nx g M L => roundM433 m k0 k e lo nx g M L)

theorem roundM434 (m k0 k e lo nx : Nat) (g : Nat → Nat) (M : List (Nat × O)) (L : XK → List A → List (Nat × O) → Prop) :
    ((exec cfgN (fun _ => true) (fun _ => none) 0 1000 (loopOf Try.f69 0) (stM Try.f69.ntmps lo nx [0, 1, 4, 5] (IM 434 m k0 k) 434 (.row e 1 m (.flts .f32 g)) M)).rm [0, 1, 4, 5]).Ok L =
    bif decide (Int.ofNat k < Int.ofNat m) then
      bif decide (Int.ofNat k < Int.ofNat m) then
        L (XK.normal) ([A.sl 434 m, A.int IntKind.i64 (IntKind.i64.wrap (Int.ofNat (k0 + k) + Int.ofNat 1)), A.int IntKind.i64 (Int.ofNat 0), A.int IntKind.i64 (IntKind.i64.wrap (Int.ofNat k + Int.ofNat 1))]) ((434,     O.row e 1 m       (Row.flts FloatKind.f32 fun j =>         match decide (j = (Int.ofNat k).toNat) with         | true => fofInt FloatKind.f32 (Int.ofNat (k0 + k))         | false => g j)) ::   (434, O.row e 1 m (Row.flts FloatKind.f32 g)) :: M)
      else
        False
    else
      L (XK.exit 0) ([A.sl 434 m, A.int IntKind.i64 (Int.ofNat (k0 + k)), A.int IntKind.i64 (Int.ofNat 0), A.int IntKind.i64 (Int.ofNat k)]) ((434, O.row e 1 m (Row.flts FloatKind.f32 g)) :: M) := by kernel_rfl
theorem loopM434 : CodeOK Try.prog (fun _ σ => sumM Try.f69.ntmps [0, 1, 4, 5] 434 (FM 434) σ) (.block 0 (.loop (loopOf Try.f69 0))) :=
  sumM_ok (own := fun _ => true) (lp := fun _ => none) (un := 0) (fuel := 1000) cfgN_ok (lp_none _) (markH 434 fun m k0 k e lo nx g M L => roundM434 m k0 k e lo nx g M L)

theorem roundM288 (m k0 k e lo nx : Nat) (g : Nat → Nat) (M : List (Nat × O)) (L : XK → List A → List (Nat × O) → Prop) :
    ((exec cfgN (fun _ => true) (fun _ => none) 0 1000 (loopOf Try.f69 0) (stM Try.f69.ntmps lo nx [0, 1, 4, 5] (IM 288 m k0 k) 288 (.row e 1 m (.flts .f32 g)) M)).rm [0, 1, 4, 5]).Ok L =
    bif decide (Int.ofNat k < Int.ofNat m) then
      bif decide (Int.ofNat k < Int.ofNat m) then
        L (XK.normal) ([A.sl 288 m, A.int IntKind.i64 (IntKind.i64.wrap (Int.ofNat (k0 + k) + Int.ofNat 1)), A.int IntKind.i64 (Int.ofNat 0), A.int IntKind.i64 (IntKind.i64.wrap (Int.ofNat k + Int.ofNat 1))]) ((288,     O.row e 1 m       (Row.flts FloatKind.f32 fun j =>         match decide (j = (Int.ofNat k).toNat) with         | true => fofInt FloatKind.f32 (Int.ofNat (k0 + k))         | false => g j)) ::   (288, O.row e 1 m (Row.flts FloatKind.f32 g)) :: M)
      else
        False
    else
      L (XK.exit 0) ([A.sl 288 m, A.int IntKind.i64 (Int.ofNat (k0 + k)), A.int IntKind.i64 (Int.ofNat 0), A.int IntKind.i64 (Int.ofNat k)]) ((288, O.row e 1 m (Row.flts FloatKind.f32 g)) :: M) := by kernel_rfl
theorem loopM288 : CodeOK Try.prog (fun _ σ => sumM Try.f69.ntmps [0, 1, 4, 5] 288 (FM 288) σ) (.block 0 (.loop (loopOf Try.f69 0))) :=
  sumM_ok (own := fun _ => true) (lp := fun _ => none) (un := 0) (fuel := 1000) cfgN_ok (lp_none _) (markH 288 fun m k0 k e lo nx g M L => roundM288 m k0 k e lo nx g M L)

theorem roundM289 (m k0 k e lo nx : Nat) (g : Nat → Nat) (M : List (Nat × O)) (L : XK → List A → List (Nat × O) → Prop) :
    ((exec cfgN (fun _ => true) (fun _ => none) 0 1000 (loopOf Try.f69 0) (stM Try.f69.ntmps lo nx [0, 1, 4, 5] (IM 289 m k0 k) 289 (.row e 1 m (.flts .f32 g)) M)).rm [0, 1, 4, 5]).Ok L =
    bif decide (Int.ofNat k < Int.ofNat m) then
      bif decide (Int.ofNat k < Int.ofNat m) then
        L (XK.normal) ([A.sl 289 m, A.int IntKind.i64 (IntKind.i64.wrap (Int.ofNat (k0 + k) + Int.ofNat 1)), A.int IntKind.i64 (Int.ofNat 0), A.int IntKind.i64 (IntKind.i64.wrap (Int.ofNat k + Int.ofNat 1))]) ((289,     O.row e 1 m       (Row.flts FloatKind.f32 fun j =>         match decide (j = (Int.ofNat k).toNat) with         | true => fofInt FloatKind.f32 (Int.ofNat (k0 + k))         | false => g j)) ::   (289, O.row e 1 m (Row.flts FloatKind.f32 g)) :: M)
      else
        False
    else
      L (XK.exit 0) ([A.sl 289 m, A.int IntKind.i64 (Int.ofNat (k0 + k)), A.int IntKind.i64 (Int.ofNat 0), A.int IntKind.i64 (Int.ofNat k)]) ((289, O.row e 1 m (Row.flts FloatKind.f32 g)) :: M) := by kernel_rfl
theorem loopM289 : CodeOK Try.prog (fun _ σ => sumM Try.f69.ntmps [0, 1, 4, 5] 289 (FM 289) σ) (.block 0 (.loop (loopOf Try.f69 0))) :=
  sumM_ok (own := fun _ => true) (lp := fun _ => none) (un := 0) (fuel := 1000) cfgN_ok (lp_none _) (markH 289 fun m k0 k e lo nx g M L => roundM289 m k0 k e lo nx g M L)

theorem roundM290 (m k0 k e lo nx : Nat) (g : Nat → Nat) (M : List (Nat × O)) (L : XK → List A → List (Nat × O) → Prop) :
    ((exec cfgN (fun _ => true) (fun _ => none) 0 1000 (loopOf Try.f69 0) (stM Try.f69.ntmps lo nx [0, 1, 4, 5] (IM 290 m k0 k) 290 (.row e 1 m (.flts .f32 g)) M)).rm [0, 1, 4, 5]).Ok L =
    bif decide (Int.ofNat k < Int.ofNat m) then
      bif decide (Int.ofNat k < Int.ofNat m) then
        L (XK.normal) ([A.sl 290 m, A.int IntKind.i64 (IntKind.i64.wrap (Int.ofNat (k0 + k) + Int.ofNat 1)), A.int IntKind.i64 (Int.ofNat 0), A.int IntKind.i64 (IntKind.i64.wrap (Int.ofNat k + Int.ofNat 1))]) ((290,     O.row e 1 m       (Row.flts FloatKind.f32 fun j =>         match decide (j = (Int.ofNat k).toNat) with         | true => fofInt FloatKind.f32 (Int.ofNat (k0 + k))         | false => g j)) ::   (290, O.row e 1 m (Row.flts FloatKind.f32 g)) :: M)
      else
        False
    else
      L (XK.exit 0) ([A.sl 290 m, A.int IntKind.i64 (Int.ofNat (k0 + k)), A.int IntKind.i64 (Int.ofNat 0), A.int IntKind.i64 (Int.ofNat k)]) ((290, O.row e 1 m (Row.flts FloatKind.f32 g)) :: M) := by kernel_rfl
theorem loopM290 : CodeOK Try.prog (fun _ σ => sumM Try.f69.ntmps [0, 1, 4, 5] 290 (FM 290) σ) (.block 0 (.loop (loopOf Try.f69 0))) :=
  sumM_ok (own := fun _ => true) (lp := fun _ => none) (un := 0) (fuel := 1000) cfgN_ok (lp_none _) (markH 290 fun m k0 k e lo nx g M L => roundM290 m k0 k e lo nx g M L)

theorem roundM320 (m k0 k e lo nx : Nat) (g : Nat → Nat) (M : List (Nat × O)) (L : XK → List A → List (Nat × O) → Prop) :
    ((exec cfgN (fun _ => true) (fun _ => none) 0 1000 (loopOf Try.f69 0) (stM Try.f69.ntmps lo nx [0, 1, 4, 5] (IM 320 m k0 k) 320 (.row e 1 m (.flts .f32 g)) M)).rm [0, 1, 4, 5]).Ok L =
    bif decide (Int.ofNat k < Int.ofNat m) then
      bif decide (Int.ofNat k < Int.ofNat m) then
        L (XK.normal) ([A.sl 320 m, A.int IntKind.i64 (IntKind.i64.wrap (Int.ofNat (k0 + k) + Int.ofNat 1)), A.int IntKind.i64 (Int.ofNat 0), A.int IntKind.i64 (IntKind.i64.wrap (Int.ofNat k + Int.ofNat 1))]) ((320,     O.row e 1 m       (Row.flts FloatKind.f32 fun j =>         match decide (j = (Int.ofNat k).toNat) with         | true => fofInt FloatKind.f32 (Int.ofNat (k0 + k))         | false => g j)) ::   (320, O.row e 1 m (Row.flts FloatKind.f32 g)) :: M)
      else
        False
    else
      L (XK.exit 0) ([A.sl 320 m, A.int IntKind.i64 (Int.ofNat (k0 + k)), A.int IntKind.i64 (Int.ofNat 0), A.int IntKind.i64 (Int.ofNat k)]) ((320, O.row e 1 m (Row.flts FloatKind.f32 g)) :: M) := by kernel_rfl
theorem loopM320 : CodeOK Try.prog (fun _ σ => sumM Try.f69.ntmps [0, 1, 4, 5] 320 (FM 320) σ) (.block 0 (.loop (loopOf Try.f69 0))) :=
  sumM_ok (own := fun _ => true) (lp := fun _ => none) (un := 0) (fuel := 1000) cfgN_ok (lp_none _) (markH 320 fun m k0 k e lo nx g M L => roundM320 m k0 k e lo nx g M L)

theorem roundM321 (m k0 k e lo nx : Nat) (g : Nat → Nat) (M : List (Nat × O)) (L : XK → List A → List (Nat × O) → Prop) :
    ((exec cfgN (fun _ => true) (fun _ => none) 0 1000 (loopOf Try.f69 0) (stM Try.f69.ntmps lo nx [0, 1, 4, 5] (IM 321 m k0 k) 321 (.row e 1 m (.flts .f32 g)) M)).rm [0, 1, 4, 5]).Ok L =
    bif decide (Int.ofNat k < Int.ofNat m) then
      bif decide (Int.ofNat k < Int.ofNat m) then
        L (XK.normal) ([A.sl 321 m, A.int IntKind.i64 (IntKind.i64.wrap (Int.ofNat (k0 + k) + Int.ofNat 1)), A.int IntKind.i64 (Int.ofNat 0), A.int IntKind.i64 (IntKind.i64.wrap (Int.ofNat k + Int.ofNat 1))]) ((321,     O.row e 1 m       (Row.flts FloatKind.f32 fun j =>         match decide (j = (Int.ofNat k).toNat) with         | true => fofInt FloatKind.f32 (Int.ofNat (k0 + k))         | false => g j)) ::   (321, O.row e 1 m (Row.flts FloatKind.f32 g)) :: M)
      else
        False
    else
      L (XK.exit 0) ([A.sl 321 m, A.int IntKind.i64 (Int.ofNat (k0 + k)), A.int IntKind.i64 (Int.ofNat 0), A.int IntKind.i64 (Int.ofNat k)]) ((321, O.row e 1 m (Row.flts FloatKind.f32 g)) :: M) := by kernel_rfl
theorem loopM321 : CodeOK Try.prog (fun _ σ => sumM Try.f69.ntmps [0, 1, 4, 5] 321 (FM 321) σ) (.block 0 (.loop (loopOf Try.f69 0))) :=
  sumM_ok (own := fun _ => true) (lp := fun _ => none) (un := 0) (fuel := 1000) cfgN_ok (lp_none _) (markH 321 fun m k0 k e lo nx g M L => roundM321 m k0 k e lo nx g M L)

theorem roundM322 (m k0 k e lo nx : Nat) (g : Nat → Nat) (M : List (Nat × O)) (L : XK → List A → List (Nat × O) → Prop) :
    ((exec cfgN (fun _ => true) (fun _ => none) 0 1000 (loopOf Try.f69 0) (stM Try.f69.ntmps lo nx [0, 1, 4, 5] (IM 322 m k0 k) 322 (.row e 1 m (.flts .f32 g)) M)).rm [0, 1, 4, 5]).Ok L =
    bif decide (Int.ofNat k < Int.ofNat m) then
      bif decide (Int.ofNat k < Int.ofNat m) then
        L (XK.normal) ([A.sl 322 m, A.int IntKind.i64 (IntKind.i64.wrap (Int.ofNat (k0 + k) + Int.ofNat 1)), A.int IntKind.i64 (Int.ofNat 0), A.int IntKind.i64 (IntKind.i64.wrap (Int.ofNat k + Int.ofNat 1))]) ((322,     O.row e 1 m       (Row.flts FloatKind.f32 fun j =>         match decide (j = (Int.ofNat k).toNat) with         | true => fofInt FloatKind.f32 (Int.ofNat (k0 + k))         | false => g j)) ::   (322, O.row e 1 m (Row.flts FloatKind.f32 g)) :: M)
      else
        False
    else
      L (XK.exit 0) ([A.sl 322 m, A.int IntKind.i64 (Int.ofNat (k0 + k)), A.int IntKind.i64 (Int.ofNat 0), A.int IntKind.i64 (Int.ofNat k)]) ((322, O.row e 1 m (Row.flts FloatKind.f32 g)) :: M) := by kernel_rfl
theorem loopM322 : CodeOK Try.prog (fun _ σ => sumM Try.f69.ntmps [0, 1, 4, 5] 322 (FM 322) σ) (.block 0 (.loop (loopOf Try.f69 0))) :=
  sumM_ok (own := fun _ => true) (lp := fun _ => none) (un := 0) (fuel := 1000) cfgN_ok (lp_none _) (markH 322 fun m k0 k e lo nx g M L => roundM322 m k0 k e lo nx g M L)

theorem roundM400 (m k0 k e lo nx : Nat) (g : Nat → Nat) (M : List (Nat × O)) (L : XK → List A → List (Nat × O) → Prop) :
    ((exec cfgN (fun _ => true) (fun _ => none) 0 1000 (loopOf Try.f69 0) (stM Try.f69.ntmps lo nx [0, 1, 4, 5] (IM 400 m k0 k) 400 (.row e 1 m (.flts .f32 g)) M)).rm [0, 1, 4, 5]).Ok L =
    bif decide (Int.ofNat k < Int.ofNat m) then
      bif decide (Int.ofNat k < Int.ofNat m) then
        L (XK.normal) ([A.sl 400 m, A.int IntKind.i64 (IntKind.i64.wrap (Int.ofNat (k0 + k) + Int.ofNat 1)), A.int IntKind.i64 (Int.ofNat 0), A.int IntKind.i64 (IntKind.i64.wrap (Int.ofNat k + Int.ofNat 1))]) ((400,     O.row e 1 m       (Row.flts FloatKind.f32 fun j =>         match decide (j = (Int.ofNat k).toNat) with         | true => fofInt FloatKind.f32 (Int.ofNat (k0 + k))         | false => g j)) ::   (400, O.row e 1 m (Row.flts FloatKind.f32 g)) :: M)
      else
        False
    else
      L (XK.exit 0) ([A.sl 400 m, A.int IntKind.i64 (Int.ofNat (k0 + k)), A.int IntKind.i64 (Int.ofNat 0), A.int IntKind.i64 (Int.ofNat k)]) ((400, O.row e 1 m (Row.flts FloatKind.f32 g)) :: M) := by kernel_rfl
theorem loopM400 : CodeOK Try.prog (fun _ σ => sumM Try.f69.ntmps [0, 1, 4, 5] 400 (FM 400) σ) (.block 0 (.loop (loopOf Try.f69 0))) :=
  sumM_ok (own := fun _ => true) (lp := fun _ => none) (un := 0) (fuel := 1000) cfgN_ok (lp_none _) (markH 400 fun m k0 k e lo nx g M L => roundM400 m k0 k e lo nx g M L)

theorem roundM401 (m k0 k e lo nx : Nat) (g : Nat → Nat) (M : List (Nat × O)) (L : XK → List A → List (Nat × O) → Prop) :
    ((exec cfgN (fun _ => true) (fun _ => none) 0 1000 (loopOf Try.f69 0) (stM Try.f69.ntmps lo nx [0, 1, 4, 5] (IM 401 m k0 k) 401 (.row e 1 m (.flts .f32 g)) M)).rm [0, 1, 4, 5]).Ok L =
    bif decide (Int.ofNat k < Int.ofNat m) then
      bif decide (Int.ofNat k < Int.ofNat m) then
        L (XK.normal) ([A.sl 401 m, A.int IntKind.i64 (IntKind.i64.wrap (Int.ofNat (k0 + k) + Int.ofNat 1)), A.int IntKind.i64 (Int.ofNat 0), A.int IntKind.i64 (IntKind.i64.wrap (Int.ofNat k + Int.ofNat 1))]) ((401,     O.row e 1 m       (Row.flts FloatKind.f32 fun j =>         match decide (j = (Int.ofNat k).toNat) with         | true => fofInt FloatKind.f32 (Int.ofNat (k0 + k))         | false => g j)) ::   (401, O.row e 1 m (Row.flts FloatKind.f32 g)) :: M)
      else
        False
    else
      L (XK.exit 0) ([A.sl 401 m, A.int IntKind.i64 (Int.ofNat (k0 + k)), A.int IntKind.i64 (Int.ofNat 0), A.int IntKind.i64 (Int.ofNat k)]) ((401, O.row e 1 m (Row.flts FloatKind.f32 g)) :: M) := by kernel_rfl
theorem loopM401 : CodeOK Try.prog (fun _ σ => sumM Try.f69.ntmps [0, 1, 4, 5] 401 (FM 401) σ) (.block 0 (.loop (loopOf Try.f69 0))) :=
  sumM_ok (own := fun _ => true) (lp := fun _ => none) (un := 0) (fuel := 1000) cfgN_ok (lp_none _) (markH 401 fun m k0 k e lo nx g M L => roundM401 m k0 k e lo nx g M L)

theorem roundM402 (m k0 k e lo nx : Nat) (g : Nat → Nat) (M : List (Nat × O)) (L : XK → List A → List (Nat × O) → Prop) :
    ((exec cfgN (fun _ => true) (fun _ => none) 0 1000 (loopOf Try.f69 0) (stM Try.f69.ntmps lo nx [0, 1, 4, 5] (IM 402 m k0 k) 402 (.row e 1 m (.flts .f32 g)) M)).rm [0, 1, 4, 5]).Ok L =
    bif decide (Int.ofNat k < Int.ofNat m) then
      bif decide (Int.ofNat k < Int.ofNat m) then
        L (XK.normal) ([A.sl 402 m, A.int IntKind.i64 (IntKind.i64.wrap (Int.ofNat (k0 + k) + Int.ofNat 1)), A.int IntKind.i64 (Int.ofNat 0), A.int IntKind.i64 (IntKind.i64.wrap (Int.ofNat k + Int.ofNat 1))]) ((402,     O.row e 1 m       (Row.flts FloatKind.f32 fun j =>         match decide (j = (Int.ofNat k).toNat) with         | true => fofInt FloatKind.f32 (Int.ofNat (k0 + k))         | false => g j)) ::   (402, O.row e 1 m (Row.flts FloatKind.f32 g)) :: M)
      else
        False
    else
      L (XK.exit 0) ([A.sl 402 m, A.int IntKind.i64 (Int.ofNat (k0 + k)), A.int IntKind.i64 (Int.ofNat 0), A.int IntKind.i64 (Int.ofNat k)]) ((402, O.row e 1 m (Row.flts FloatKind.f32 g)) :: M) := by kernel_rfl
theorem loopM402 : CodeOK Try.prog (fun _ σ => sumM Try.f69.ntmps [0, 1, 4, 5] 402 (FM 402) σ) (.block 0 (.loop (loopOf Try.f69 0))) :=
  sumM_ok (own := fun _ => true) (lp := fun _ => none) (un := 0) (fuel := 1000) cfgN_ok (lp_none _) (markH 402 fun m k0 k e lo nx g M L => roundM402 m k0 k e lo nx g M L)

noncomputable def mkL : List (Nat × (St → T)) := [(336, sumM Try.f69.ntmps [0, 1, 4, 5] 336 (FM 336)), (337, sumM Try.f69.ntmps [0, 1, 4, 5] 337 (FM 337)), (338, sumM Try.f69.ntmps [0, 1, 4, 5] 338 (FM 338)), (432, sumM Try.f69.ntmps [0, 1, 4, 5] 432 (FM 432)), (433, sumM Try.f69.ntmps [0, 1, 4, 5] 433 (FM 433)), (434, sumM Try.f69.ntmps [0, 1, 4, 5] 434 (FM 434)), (288, sumM Try.f69.ntmps [0, 1, 4, 5] 288 (FM 288)), (289, sumM Try.f69.ntmps [0, 1, 4, 5] 289 (FM 289)), (290, sumM Try.f69.ntmps [0, 1, 4, 5] 290 (FM 290)), (320, sumM Try.f69.ntmps [0, 1, 4, 5] 320 (FM 320)), (321, sumM Try.f69.ntmps [0, 1, 4, 5] 321 (FM 321)), (322, sumM Try.f69.ntmps [0, 1, 4, 5] 322 (FM 322)), (400, sumM Try.f69.ntmps [0, 1, 4, 5] 400 (FM 400)), (401, sumM Try.f69.ntmps [0, 1, 4, 5] 401 (FM 401)), (402, sumM Try.f69.ntmps [0, 1, 4, 5] 402 (FM 402))]
theorem mkL_ok (p : Nat × (St → T)) (h : p ∈ mkL) : CodeOK Try.prog (fun _ σ => p.2 σ) (.block 0 (.loop (loopOf Try.f69 0))) := by
  simp only [mkL, List.mem_cons, List.not_mem_nil, or_false] at h
  rcases h with rfl | rfl | rfl | rfl | rfl | rfl | rfl | rfl | rfl | rfl | rfl | rfl | rfl | rfl | rfl
  · exact loopM336
  · exact loopM337
  · exact loopM338
  · exact loopM432
  · exact loopM433
  · exact loopM434
  · exact loopM288
  · exact loopM289
  · exact loopM290
  · exact loopM320
  · exact loopM321
  · exact loopM322
  · exact loopM400
  · exact loopM401
  · exact loopM402
noncomputable def lpM : List (Nat × (St → T)) := [(0, sumD 0 mkL)]
theorem lpM_ok : LpOK Try.prog (look lpM) (bodyOf Try.f69) := lp_loops (by kernel_rfl) (by kernel_rfl) fun p hp => by
  rw [List.mem_singleton.1 hp]
  exact sumD_ok mkL_ok
/-- 'markFloat32S', walked in place. -/
noncomputable def markS (σ : St) : T := match σ.get 0 with
  | .emp => exec cfgN (fun _ => true) (fun _ => none) 1 1000 (bodyOf Try.f69) σ
  | _ => exec cfgN (fun _ => true) (look lpM) 0 1000 (bodyOf Try.f69) σ
theorem markS_ok : CodeOK Try.prog (fun _ σ => markS σ) (bodyOf Try.f69) := by
  intro σ L hok
  replace hok : (markS σ).Ok Try.prog L := hok
  unfold markS at hok
  split at hok
  · exact codeOK_exec cfgN_ok (lp_none _) σ L hok
  · exact codeOK_exec cfgN_ok lpM_ok σ L hok

noncomputable def ftsM : List (Nat × Func) := [(32, Try.f32), (69, Try.f69)]
theorem ftsM_ok (f : Nat) (fn : Func) (h : (f, fn) ∈ ftsM) : Try.prog.funcs[f]? = some fn ∧ (fn.name == "runtime.NumGoroutine") = false := by
  simp only [ftsM, List.mem_cons, Prod.mk.injEq, List.not_mem_nil, or_false] at h
  rcases h with ⟨rfl, rfl⟩ | ⟨rfl, rfl⟩
  · exact ⟨Try.func32, by kernel_rfl⟩
  · exact ⟨Try.func69, by kernel_rfl⟩
noncomputable def fxM : List (Nat × (St → T)) := [(69, markS)]
theorem fxM_ok (g : Nat) (s : St → T) (fn : Func) (body : Code) (h1 : (g, s) ∈ fxM) (h2 : (g, fn) ∈ ftsM) (h3 : fn.body = some body) : CodeOK Try.prog (fun _ σ => s σ) body := by
  simp only [fxM, List.mem_singleton, Prod.mk.injEq] at h1
  obtain ⟨rfl, rfl⟩ := h1
  simp only [ftsM, List.mem_cons, Prod.mk.injEq, List.not_mem_nil, or_false] at h2
  rcases h2 with ⟨h2, _⟩ | ⟨_, rfl⟩
  · omega
  · have e : bodyOf Try.f69 = body := by unfold bodyOf; rw [h3]
    rw [← e]
    exact markS_ok
/-- The tables of a law that marks. -/
noncomputable def cfgM (env : List (Nat × (List A → Option (Bool × A)))) : Cfg := mkCfgX tab ftsM xts (look env) fxM
theorem cfgM_ok {env : List (Nat × (List A → Option (Bool × A)))} (h : EnvOK Try.prog (look env)) : CfgOK Try.prog (cfgM env) := cfgX_ok tab_eq ftsM_ok xts_ok h mixed fxM_ok
noncomputable def envTuneT : List (Nat × (List A → Option (Bool × A))) := (30, s30T) :: (31, s31T) :: (19, auto cfg24 Try.f19) :: env24
noncomputable def envTuneF : List (Nat × (List A → Option (Bool × A))) := (30, s30F) :: (31, s31F) :: (19, auto cfg24 Try.f19) :: env24
theorem envTuneT_ok : EnvOK Try.prog (look envTuneT) := env_cons s30T_at (env_cons s31T_at (env_cons (auto_at cfg24_ok Try.func19 (by kernel_rfl) (by kernel_rfl)) env24_ok))
theorem envTuneF_ok : EnvOK Try.prog (look envTuneF) := env_cons s30F_at (env_cons s31F_at (env_cons (auto_at cfg24_ok Try.func19 (by kernel_rfl) (by kernel_rfl)) env24_ok))
theorem tuneT (n gn cn : Nat) (r g c : Nat → Nat) (i : Int) (w : Nat) : autoLp (cfgM envTuneT) (fun _ => none) Try.f7 [.agg [.ro 1 n (.flts .f32 r), .ro 1 gn (.flts .f32 g), .ro 1 cn (.flts .f32 c)], .int .i64 i, .flt .f32 w] =
    some (bif decide (szC n gn cn 1048576 < 0) then true else n.ble 1073741824 && (gn.ble 1073741824 && (cn.ble 1073741824 && true)) && (tuneOk n gn cn r g c i w && (n.ble 1073741824 && (gn.ble 1073741824 && (cn.ble 1073741824 && true)) && (tuneOk n gn cn r g c i w && ((n.ble 4611686018427387904 && bif !eqL n n r r then true else gn.ble 4611686018427387904 && bif !eqL gn gn (tuneG n g c i w) (tuneG n g c i w) then true else cn.ble 4611686018427387904 && bif !eqL cn cn c c then true else true) && bif bif !bif !eqL n n r r then false else bif !eqL gn gn (tuneG n g c i w) (tuneG n g c i w) then false else bif !eqL cn cn c c then false else true then true else false then true else n.ble 1073741824 && (gn.ble 1073741824 && (cn.ble 1073741824 && true)) && true && ((n.ble 4611686018427387904 && bif !eqL n n r r then true else gn.ble 4611686018427387904 && bif !eqL gn gn g g then true else cn.ble 4611686018427387904 && bif !eqL cn cn c c then true else true) && bif !bif !eqL n n r r then false else bif !eqL gn gn g g then false else bif !eqL cn cn c c then false else true then true else n.beq n && n.ble 1048577 && true && (gn.beq gn && gn.ble 1048577 && (1 + n).ble 1000000000 && (cn.beq cn && cn.ble 1048577 && (1 + n + gn).ble 1000000000 && (((n.ble 4611686018427387904 && bif !eqL n n r r then true else gn.ble 4611686018427387904 && bif !eqL gn gn (tuneG n g c i w) (tuneG n g c i w) then true else cn.ble 4611686018427387904 && bif !eqL cn cn c c then true else true) || false) && bif bif !bif !eqL n n r r then false else bif !eqL gn gn (tuneG n g c i w) (tuneG n g c i w) then false else bif !eqL cn cn c c then false else true then true else false then true else n.beq n && n.ble 1048577 && true && (gn.beq gn && gn.ble 1048577 && (1 + n).ble 1000000000 && (cn.beq cn && cn.ble 1048577 && (1 + n + gn).ble 1000000000 && (n.ble 1048577 && true && allUpTo (fun k => !heldAt (markF 1) 1 k) n && (gn.ble 1048577 && (1 + n).ble 1000000000 && allUpTo (fun k => !heldAt (markF (1 + n)) (1 + n) k) gn) && (cn.ble 1048577 && (1 + n + gn).ble 1000000000 && allUpTo (fun k => !heldAt (markF (1 + n + gn)) (1 + n + gn) k) cn) && bif Int.ofNat (1 + n + gn + cn) != Int.ofNat (1 + n + gn + cn) then true else n.ble 1073741824 && (gn.ble 1073741824 && (cn.ble 1073741824 && true)) && (tuneOk n gn cn r g c i w && ((n.ble 4611686018427387904 && bif !eqL n n r r then true else gn.ble 4611686018427387904 && bif !eqL gn gn (tuneG n g c i w) (tuneG n g c i w) then true else cn.ble 4611686018427387904 && bif !eqL cn cn c c then true else true) && bif bif !bif !eqL n n r r then false else bif !eqL gn gn (tuneG n g c i w) (tuneG n g c i w) then false else bif !eqL cn cn c c then false else true then true else false then true else n.ble 1048577 && true && allUpTo (fun k => !heldAt (markF 1) 1 k) n && (gn.ble 1048577 && (1 + n).ble 1000000000 && allUpTo (fun k => !heldAt (markF (1 + n)) (1 + n) k) gn) && (cn.ble 1048577 && (1 + n + gn).ble 1000000000 && allUpTo (fun k => !heldAt (markF (1 + n + gn)) (1 + n + gn) k) cn) && bif Int.ofNat (1 + n + gn + cn) != Int.ofNat (1 + n + gn + cn) then true else true))))))))))))), A.bool (bif decide (szC n gn cn 1048576 < 0) then true else bif bif !bif !eqL n n r r then false else bif !eqL gn gn (tuneG n g c i w) (tuneG n g c i w) then false else bif !eqL cn cn c c then false else true then true else false then false else bif !bif !eqL n n r r then false else bif !eqL gn gn g g then false else bif !eqL cn cn c c then false else true then false else bif bif !bif !eqL n n r r then false else bif !eqL gn gn (tuneG n g c i w) (tuneG n g c i w) then false else bif !eqL cn cn c c then false else true then true else false then false else bif Int.ofNat (1 + n + gn + cn) != Int.ofNat (1 + n + gn + cn) then false else bif bif !bif !eqL n n r r then false else bif !eqL gn gn (tuneG n g c i w) (tuneG n g c i w) then false else bif !eqL cn cn c c then false else true then true else false then false else bif Int.ofNat (1 + n + gn + cn) != Int.ofNat (1 + n + gn + cn) then false else true)) := by kernel_rfl
theorem tuneF (n gn cn : Nat) (r g c : Nat → Nat) (i : Int) (w : Nat) : autoLp (cfgM envTuneF) (fun _ => none) Try.f7 [.agg [.ro 1 n (.flts .f32 r), .ro 1 gn (.flts .f32 g), .ro 1 cn (.flts .f32 c)], .int .i64 i, .flt .f32 w] =
    some (bif decide (szC n gn cn 1048576 < 0) then true else n.ble 1073741824 && (gn.ble 1073741824 && (cn.ble 1073741824 && true)) && (!tuneOk n gn cn r g c i w && (n.ble 1073741824 && (gn.ble 1073741824 && (cn.ble 1073741824 && true)) && (!tuneOk n gn cn r g c i w && bif bif !true then true else false then true else n.ble 1073741824 && (gn.ble 1073741824 && (cn.ble 1073741824 && true)) && true && ((n.ble 4611686018427387904 && bif !eqL n n r r then true else gn.ble 4611686018427387904 && bif !eqL gn gn g g then true else cn.ble 4611686018427387904 && bif !eqL cn cn c c then true else true) && bif !bif !eqL n n r r then false else bif !eqL gn gn g g then false else bif !eqL cn cn c c then false else true then true else n.beq n && n.ble 1048577 && true && (gn.beq gn && gn.ble 1048577 && (1 + n).ble 1000000000 && (cn.beq cn && cn.ble 1048577 && (1 + n + gn).ble 1000000000 && ((true || false) && bif bif !true then true else false then true else n.ble 1073741824 && (gn.ble 1073741824 && (cn.ble 1073741824 && true)) && (!tuneOk n gn cn r g c i w && bif bif !true then true else false then true else true)))))))), A.bool (bif decide (szC n gn cn 1048576 < 0) then true else bif bif !true then true else false then false else bif !bif !eqL n n r r then false else bif !eqL gn gn g g then false else bif !eqL cn cn c c then false else true then false else bif bif !true then true else false then false else bif bif !true then true else false then false else true)) := by kernel_rfl

theorem held_mark (k0 m : Nat) : allUpTo (fun k => !heldAt (markF k0) k0 k) m = true := allUpTo_all (fun k => by
  show (!(forder .f32 (fofInt .f32 (Int.ofNat (k0 + k))) (fofInt .f32 (Int.ofNat (k0 + k))) != some .eq)) = true
  rw [forder_self (notNaN_ofInt _ _)]; rfl) m

theorem law7 {a b : A} {i : Int} (ha : CircA a) (_hi : IntA i) (hb : FltA b) : PureCall Try.prog 7 [a, .int .i64 i, b] (.bool true) := by
  obtain ⟨n, gn, cn, r, g, c, hs, _, rfl⟩ := ha
  obtain ⟨w, _, rfl⟩ := hb
  have keyT := (auto_at (cfgM_ok envTuneT_ok) Try.func7 (by kernel_rfl) (by kernel_rfl)).2 _ _ _ (tuneT n gn cn r g c i w)
  have keyF := (auto_at (cfgM_ok envTuneF_ok) Try.func7 (by kernel_rfl) (by kernel_rfl)).2 _ _ _ (tuneF n gn cn r g c i w)
  rcases szC_le (left := 1048576) (by omega) (by omega) hs.1 hs.2.1 hs.2.2 with e | ⟨e0, e⟩
  · rw [e] at keyF; exact keyF rfl
  have b1 : n ≤ 1048576 := by omega
  have b2 : gn ≤ 1048576 := by omega
  have b3 : cn ≤ 1048576 := by omega
  rw [decide_eq_false (p := szC n gn cn 1048576 < 0) (by omega)] at keyT keyF
  clear e e0
  cases ho : tuneOk n gn cn r g c i w
  · simp only [ho, eqL_self, beq_self_eq_true, Bool.not_true, Bool.not_false, cond_false, cond_true, Bool.and_true, Bool.true_and, Bool.or_false, Nat.beq_refl,
      ble_of (Nat.le_trans b1 (show 1048576 ≤ 1073741824 by omega)), ble_of (Nat.le_trans b2 (show 1048576 ≤ 1073741824 by omega)), ble_of (Nat.le_trans b3 (show 1048576 ≤ 1073741824 by omega)),
      ble_of (Nat.le_trans b1 (show 1048576 ≤ 4611686018427387904 by omega)), ble_of (Nat.le_trans b2 (show 1048576 ≤ 4611686018427387904 by omega)), ble_of (Nat.le_trans b3 (show 1048576 ≤ 4611686018427387904 by omega)),
      ble_of (Nat.le_trans b1 (show 1048576 ≤ 1048577 by omega)), ble_of (Nat.le_trans b2 (show 1048576 ≤ 1048577 by omega)), ble_of (Nat.le_trans b3 (show 1048576 ≤ 1048577 by omega)),
      ble_of (show 1 + n ≤ 1000000000 by omega), ble_of (show 1 + n + gn ≤ 1000000000 by omega)] at keyF
    exact keyF trivial
  · simp only [ho, held_mark, eqL_self, beq_self_eq_true, bne_self_eq_false, Bool.not_true, Bool.not_false, cond_false, cond_true, Bool.and_true, Bool.true_and, Bool.or_false, Nat.beq_refl,
      ble_of (Nat.le_trans b1 (show 1048576 ≤ 1073741824 by omega)), ble_of (Nat.le_trans b2 (show 1048576 ≤ 1073741824 by omega)), ble_of (Nat.le_trans b3 (show 1048576 ≤ 1073741824 by omega)),
      ble_of (Nat.le_trans b1 (show 1048576 ≤ 4611686018427387904 by omega)), ble_of (Nat.le_trans b2 (show 1048576 ≤ 4611686018427387904 by omega)), ble_of (Nat.le_trans b3 (show 1048576 ≤ 4611686018427387904 by omega)),
      ble_of (Nat.le_trans b1 (show 1048576 ≤ 1048577 by omega)), ble_of (Nat.le_trans b2 (show 1048576 ≤ 1048577 by omega)), ble_of (Nat.le_trans b3 (show 1048576 ≤ 1048577 by omega)),
      ble_of (show 1 + n ≤ 1000000000 by omega), ble_of (show 1 + n + gn ≤ 1000000000 by omega)] at keyT
    exact keyT trivial
end Go.Fw.C1

/-
  Transformers.
-/
namespace Go.Fw.C1
open Go.Proofs
def trR (s t i : Nat) : Nat := [s, t].getD i 0
def trC (a b k i : Nat) : Nat := [a, fop .mul .f32 k (root32 (fop .mul .f32 a b)), fop .mul .f32 k (root32 (fop .mul .f32 a b)), b].getD i 0
noncomputable def trOk (a b k s t : Nat) : Bool := valid 2 2 4 (trR s t) (trR (can .f32 0) (can .f32 0)) (trC a b k)
theorem auto43T (a b k s t : Nat) : autoS cfg22 (fun _ => none) false Try.f43 [.flt .f32 a, .flt .f32 b, .flt .f32 k, .flt .f32 s, .flt .f32 t] =
    some ((!!valid 2 2 4 (fun i => [s, t].getD i 0) (fun i => [can FloatKind.f32 0, can FloatKind.f32 0].getD i 0) fun i => [a, fop BinOp.mul FloatKind.f32 k (root32 (fop BinOp.mul FloatKind.f32 a b)), fop BinOp.mul FloatKind.f32 k (root32 (fop BinOp.mul FloatKind.f32 a b)), b].getD i 0) && true, A.tup [A.agg [A.ro 1 2 (Row.flts FloatKind.f32 fun i => [s, t].getD i 0), A.ro 1 2 (Row.flts FloatKind.f32 fun i => [can FloatKind.f32 0, can FloatKind.f32 0].getD i 0), A.ro 1 4 (Row.flts FloatKind.f32 fun i => [a, fop BinOp.mul FloatKind.f32 k (root32 (fop BinOp.mul FloatKind.f32 a b)), fop BinOp.mul FloatKind.f32 k (root32 (fop BinOp.mul FloatKind.f32 a b)), b].getD i 0)], A.bool true]) := by kernel_rfl
noncomputable def s43T : List A → Option (Bool × A)
  | [.flt .f32 a, .flt .f32 b, .flt .f32 k, .flt .f32 s, .flt .f32 t] => some (trOk a b k s t, .tup [.agg [.ro 1 2 (.flts .f32 (trR s t)), .ro 1 2 (.flts .f32 (trR (can .f32 0) (can .f32 0))), .ro 1 4 (.flts .f32 (trC a b k))], .bool true])
  | _ => none
theorem s43T_at : EnvAt Try.prog 43 s43T := of_autoS cfg22_ok (lp_none _) Try.func43 (by kernel_rfl) (by kernel_rfl) fun ds cc rr h hc => by
  unfold s43T at h
  split at h
  · rename_i a b k s t
    simp only [Option.some.injEq, Prod.mk.injEq] at h
    obtain ⟨rfl, rfl⟩ := h
    refine auto_fit (auto43T a b k s t) ?_ ?_
    · rfl
    · show (!!trOk a b k s t && true) = true
      simpa using hc
  · cases h

theorem auto43F (a b k s t : Nat) : autoS cfg22 (fun _ => none) true Try.f43 [.flt .f32 a, .flt .f32 b, .flt .f32 k, .flt .f32 s, .flt .f32 t] =
    some ((!valid 2 2 4 (fun i => [s, t].getD i 0) (fun i => [can FloatKind.f32 0, can FloatKind.f32 0].getD i 0) fun i => [a, fop BinOp.mul FloatKind.f32 k (root32 (fop BinOp.mul FloatKind.f32 a b)), fop BinOp.mul FloatKind.f32 k (root32 (fop BinOp.mul FloatKind.f32 a b)), b].getD i 0) && true, A.tup [A.agg [A.emp, A.emp, A.emp], A.bool false]) := by kernel_rfl
noncomputable def s43F : List A → Option (Bool × A)
  | [.flt .f32 a, .flt .f32 b, .flt .f32 k, .flt .f32 s, .flt .f32 t] => some (!trOk a b k s t, .tup [.agg [.emp, .emp, .emp], .bool false])
  | _ => none
theorem s43F_at : EnvAt Try.prog 43 s43F := of_autoS cfg22_ok (lp_none _) Try.func43 (by kernel_rfl) (by kernel_rfl) fun ds cc rr h hc => by
  unfold s43F at h
  split at h
  · rename_i a b k s t
    simp only [Option.some.injEq, Prod.mk.injEq] at h
    obtain ⟨rfl, rfl⟩ := h
    refine auto_fit (auto43F a b k s t) ?_ ?_
    · rfl
    · show (!trOk a b k s t && true) = true
      simpa using hc
  · cases h

theorem auto44T (a b k s t : Nat) : autoS cfg22 (fun _ => none) false Try.f44 [.flt .f32 a, .flt .f32 b, .flt .f32 k, .flt .f32 s, .flt .f32 t] =
    some ((!!valid 2 2 4 (fun i => [s, t].getD i 0) (fun i => [can FloatKind.f32 0, can FloatKind.f32 0].getD i 0) fun i => [a, fop BinOp.mul FloatKind.f32 k (root32 (fop BinOp.mul FloatKind.f32 a b)), fop BinOp.mul FloatKind.f32 k (root32 (fop BinOp.mul FloatKind.f32 a b)), b].getD i 0) && true, A.tup [A.agg [A.ro 1 2 (Row.flts FloatKind.f32 fun i => [s, t].getD i 0), A.ro 1 2 (Row.flts FloatKind.f32 fun i => [can FloatKind.f32 0, can FloatKind.f32 0].getD i 0), A.ro 1 4 (Row.flts FloatKind.f32 fun i => [a, fop BinOp.mul FloatKind.f32 k (root32 (fop BinOp.mul FloatKind.f32 a b)), fop BinOp.mul FloatKind.f32 k (root32 (fop BinOp.mul FloatKind.f32 a b)), b].getD i 0)], A.bool true]) := by kernel_rfl
noncomputable def s44T : List A → Option (Bool × A)
  | [.flt .f32 a, .flt .f32 b, .flt .f32 k, .flt .f32 s, .flt .f32 t] => some (trOk a b k s t, .tup [.agg [.ro 1 2 (.flts .f32 (trR s t)), .ro 1 2 (.flts .f32 (trR (can .f32 0) (can .f32 0))), .ro 1 4 (.flts .f32 (trC a b k))], .bool true])
  | _ => none
theorem s44T_at : EnvAt Try.prog 44 s44T := of_autoS cfg22_ok (lp_none _) Try.func44 (by kernel_rfl) (by kernel_rfl) fun ds cc rr h hc => by
  unfold s44T at h
  split at h
  · rename_i a b k s t
    simp only [Option.some.injEq, Prod.mk.injEq] at h
    obtain ⟨rfl, rfl⟩ := h
    refine auto_fit (auto44T a b k s t) ?_ ?_
    · rfl
    · show (!!trOk a b k s t && true) = true
      simpa using hc
  · cases h

theorem auto44F (a b k s t : Nat) : autoS cfg22 (fun _ => none) true Try.f44 [.flt .f32 a, .flt .f32 b, .flt .f32 k, .flt .f32 s, .flt .f32 t] =
    some ((!valid 2 2 4 (fun i => [s, t].getD i 0) (fun i => [can FloatKind.f32 0, can FloatKind.f32 0].getD i 0) fun i => [a, fop BinOp.mul FloatKind.f32 k (root32 (fop BinOp.mul FloatKind.f32 a b)), fop BinOp.mul FloatKind.f32 k (root32 (fop BinOp.mul FloatKind.f32 a b)), b].getD i 0) && true, A.tup [A.agg [A.emp, A.emp, A.emp], A.bool false]) := by kernel_rfl
noncomputable def s44F : List A → Option (Bool × A)
  | [.flt .f32 a, .flt .f32 b, .flt .f32 k, .flt .f32 s, .flt .f32 t] => some (!trOk a b k s t, .tup [.agg [.emp, .emp, .emp], .bool false])
  | _ => none
theorem s44F_at : EnvAt Try.prog 44 s44F := of_autoS cfg22_ok (lp_none _) Try.func44 (by kernel_rfl) (by kernel_rfl) fun ds cc rr h hc => by
  unfold s44F at h
  split at h
  · rename_i a b k s t
    simp only [Option.some.injEq, Prod.mk.injEq] at h
    obtain ⟨rfl, rfl⟩ := h
    refine auto_fit (auto44F a b k s t) ?_ ?_
    · rfl
    · show (!trOk a b k s t && true) = true
      simpa using hc
  · cases h



noncomputable def envTrT : List (Nat × (List A → Option (Bool × A))) := (43, s43T) :: (44, s44T) :: (19, auto cfg24 Try.f19) :: env24
noncomputable def envTrF : List (Nat × (List A → Option (Bool × A))) := (43, s43F) :: (44, s44F) :: (19, auto cfg24 Try.f19) :: env24
theorem envTrT_ok : EnvOK Try.prog (look envTrT) := env_cons s43T_at (env_cons s44T_at (env_cons (auto_at cfg24_ok Try.func19 (by kernel_rfl) (by kernel_rfl)) env24_ok))
theorem envTrF_ok : EnvOK Try.prog (look envTrF) := env_cons s43F_at (env_cons s44F_at (env_cons (auto_at cfg24_ok Try.func19 (by kernel_rfl) (by kernel_rfl)) env24_ok))
theorem trT (a b k s t : Nat) : autoLp (cfgM envTrT) (fun _ => none) Try.f11 [.flt .f32 a, .flt .f32 b, .flt .f32 k, .flt .f32 s, .flt .f32 t] =
    some (trOk a b k s t && (trOk a b k s t && ((bif !eqL 2 2 (trR s t) (trR s t) then true else bif !eqL 2 2 (trR (can FloatKind.f32 0) (can FloatKind.f32 0)) (trR (can FloatKind.f32 0) (can FloatKind.f32 0)) then true else bif !eqL 4 4 (trC a b k) (trC a b k) then true else true) && bif bif !bif !eqL 2 2 (trR s t) (trR s t) then false else bif !eqL 2 2 (trR (can FloatKind.f32 0) (can FloatKind.f32 0)) (trR (can FloatKind.f32 0) (can FloatKind.f32 0)) then false else bif !eqL 4 4 (trC a b k) (trC a b k) then false else true then true else false then true else allUpTo (fun k => !heldAt (markF 1) 1 k) 2 && allUpTo (fun k => !heldAt (markF (1 + 2)) 3 k) 2 && allUpTo (fun k => !heldAt (markF (1 + 2 + 2)) 5 k) 4 && (trOk a b k s t && ((bif !eqL 2 2 (trR s t) (trR s t) then true else bif !eqL 2 2 (trR (can FloatKind.f32 0) (can FloatKind.f32 0)) (trR (can FloatKind.f32 0) (can FloatKind.f32 0)) then true else bif !eqL 4 4 (trC a b k) (trC a b k) then true else true) && bif bif !bif !eqL 2 2 (trR s t) (trR s t) then false else bif !eqL 2 2 (trR (can FloatKind.f32 0) (can FloatKind.f32 0)) (trR (can FloatKind.f32 0) (can FloatKind.f32 0)) then false else bif !eqL 4 4 (trC a b k) (trC a b k) then false else true then true else false then true else allUpTo (fun k => !heldAt (markF 1) 1 k) 2 && allUpTo (fun k => !heldAt (markF (1 + 2)) 3 k) 2 && allUpTo (fun k => !heldAt (markF (1 + 2 + 2)) 5 k) 4 && true)))), A.bool (bif bif !bif !eqL 2 2 (trR s t) (trR s t) then false else bif !eqL 2 2 (trR (can FloatKind.f32 0) (can FloatKind.f32 0)) (trR (can FloatKind.f32 0) (can FloatKind.f32 0)) then false else bif !eqL 4 4 (trC a b k) (trC a b k) then false else true then true else false then false else bif bif !bif !eqL 2 2 (trR s t) (trR s t) then false else bif !eqL 2 2 (trR (can FloatKind.f32 0) (can FloatKind.f32 0)) (trR (can FloatKind.f32 0) (can FloatKind.f32 0)) then false else bif !eqL 4 4 (trC a b k) (trC a b k) then false else true then true else false then false else true)) := by kernel_rfl
theorem trF (a b k s t : Nat) : autoLp (cfgM envTrF) (fun _ => none) Try.f11 [.flt .f32 a, .flt .f32 b, .flt .f32 k, .flt .f32 s, .flt .f32 t] =
    some (!trOk a b k s t && (!trOk a b k s t && bif bif !true then true else false then true else !trOk a b k s t && bif bif !true then true else false then true else true), A.bool (bif bif !true then true else false then false else bif bif !true then true else false then false else true)) := by kernel_rfl
theorem law11 {a b k s t : A} (ha : FltA a) (hb : FltA b) (hk : FltA k) (hs : FltA s) (ht : FltA t) : PureCall Try.prog 11 [a, b, k, s, t] (.bool true) := by
  obtain ⟨a, _, rfl⟩ := ha
  obtain ⟨b, _, rfl⟩ := hb
  obtain ⟨k, _, rfl⟩ := hk
  obtain ⟨s, _, rfl⟩ := hs
  obtain ⟨t, _, rfl⟩ := ht
  have keyT := (auto_at (cfgM_ok envTrT_ok) Try.func11 (by kernel_rfl) (by kernel_rfl)).2 _ _ _ (trT a b k s t)
  have keyF := (auto_at (cfgM_ok envTrF_ok) Try.func11 (by kernel_rfl) (by kernel_rfl)).2 _ _ _ (trF a b k s t)
  cases ho : trOk a b k s t
  · simp only [ho, eqL_self, beq_self_eq_true, bne_self_eq_false, Bool.not_true, Bool.not_false, cond_false, cond_true, Bool.and_true, Bool.true_and, Bool.or_false, Nat.beq_refl] at keyF
    exact keyF trivial
  · simp only [ho, held_mark, eqL_self, beq_self_eq_true, bne_self_eq_false, Bool.not_true, Bool.not_false, cond_false, cond_true, Bool.and_true, Bool.true_and, Bool.or_false, Nat.beq_refl] at keyT
    exact keyT trivial
end Go.Fw.C1

/-
  Impedances.
-/
namespace Go.Fw.C1
open Go.Proofs

/-- An impedance's parts, by its place. -/
def zR (n : Nat) (r : Nat → Nat) (p : Nat) : Nat := bif Nat.beq (p / n) (p % n) then r (p / n) else can .f32 0
def zI (n : Nat) (g c : Nat → Nat) (w p : Nat) : Nat := bif Nat.beq (p / n) (p % n) then fop .sub .f32 (fop .mul .f32 w (c p)) (fop .quo .f32 (g (p / n)) w) else fop .mul .f32 w (c p)
def upto (l : Nat) (a b : Nat → Nat) (p : Nat) : Nat := match decide (p < l) with | true => a p | false => b p


theorem upto_app {l k : Nat} {a z : Nat → Nat} {v : Nat} (hv : v = z (l + k)) {p : Nat} (hp : p < l + k + 1) : (match decide (p < l + k) with | true => upto l a z p | false => v) = upto l a z p := by
  by_cases h : p < l + k
  · simp [h]
  · obtain rfl : p = l + k := by omega
    have h2 : ¬ (l + k < l) := by omega
    simp [upto, h2, hv]
theorem cpx_at {k : FloatKind} {f1 f2 g1 g2 : Nat → Nat} {p : Nat} (h1 : f1 p = g1 p) (h2 : f2 p = g2 p) : (Row.cpxs k f1 f2 : Row A).at p = (Row.cpxs k g1 g2 : Row A).at p := by
  simp only [Row.at, h1, h2]
theorem ix_div {i k n : Nat} (hk : k < n) : (i * n + k) / n = i := by
  rw [Nat.mul_comm, Nat.mul_add_div (by omega), Nat.div_eq_of_lt hk, Nat.add_zero]
theorem ix_mod {i k n : Nat} (hk : k < n) : (i * n + k) % n = k := by
  rw [Nat.mul_comm, Nat.mul_add_mod, Nat.mod_eq_of_lt hk]
theorem zR_on {n i : Nat} (r : Nat → Nat) (hi : i < n) : r i = zR n r (i * n + i) := by
  unfold zR; rw [ix_div hi, ix_mod hi, Nat.beq_refl]; rfl
theorem zI_on {n i w : Nat} (g c : Nat → Nat) (hi : i < n) : fop .sub .f32 (fop .mul .f32 w (c (i * n + i))) (fop .quo .f32 (g i) w) = zI n g c w (i * n + i) := by
  unfold zI; rw [ix_div hi, ix_mod hi, Nat.beq_refl]; rfl
theorem beq_ne {i k : Nat} (h : i ≠ k) : Nat.beq i k = false := by
  cases hb : Nat.beq i k
  · rfl
  · exact absurd (Nat.eq_of_beq_eq_true hb) h
theorem zR_off {n i k : Nat} (r : Nat → Nat) (hk : k < n) (h : i ≠ k) : can .f32 0 = zR n r (i * n + k) := by
  unfold zR; rw [ix_div hk, ix_mod hk, beq_ne h]; rfl
theorem zI_off {n i k w : Nat} (g c : Nat → Nat) (hk : k < n) (h : i ≠ k) : fop .mul .f32 w (c (i * n + k)) = zI n g c w (i * n + k) := by
  unfold zI; rw [ix_div hk, ix_mod hk, beq_ne h]; rfl

noncomputable def I71j (n gn cn i w l : Nat) (r g c a b : Nat → Nat) (tl : List A) (k : Nat) : List A := [.rop (.agg (.ro 1 n (.flts .f32 r) :: .ro 1 gn (.flts .f32 g) :: .ro 1 cn (.flts .f32 c) :: tl)) 0, .flt .f32 w, .int .i64 (Int.ofNat n), .sl 112 (l + k), .int .i64 (Int.ofNat i), .int .i64 (Int.ofNat k)]
noncomputable def J71j (n gn cn i w l : Nat) (r g c a b : Nat → Nat) (tl : List A) (k : Nat) : List O := [.row 85 1 (l + k) (.cpxs .f32 (upto l a (zR n r)) (upto l b (zI n g c w)))]
theorem round71j (n gn cn i w l : Nat) (r g c a b : Nat → Nat) (tl : List A) (k : Nat) (L : XK → List A → List (Option O) → Prop) :
    ((exec cfg22 (fun _ => true) (fun _ => none) 0 1000 (loopOf Try.f71 2) (litSt Try.f71.ntmps 224 [0, 1, 5, 6, 7, 8] [112] (I71j n gn cn i w l r g c a b tl k) (J71j n gn cn i w l r g c a b tl k))).rt [0, 1, 5, 6, 7, 8] [112]).Ok L =
    bif decide (Int.ofNat k < Int.ofNat n) then
      bif decide (0 ≤ IntKind.i64.wrap (IntKind.i64.wrap (Int.ofNat i * Int.ofNat n) + Int.ofNat k)) && decide (IntKind.i64.wrap (IntKind.i64.wrap (Int.ofNat i * Int.ofNat n) + Int.ofNat k) < Int.ofNat cn) then
        bif Int.ofNat i == Int.ofNat k then
          bif decide (Int.ofNat i < Int.ofNat gn) && (decide (Int.ofNat i < Int.ofNat n) && true) then
            bif decide (l + k + 1 ≤ 1073741824) then
              L (XK.normal) ([(A.agg (A.ro 1 n (Row.flts FloatKind.f32 r) :: A.ro 1 gn (Row.flts FloatKind.f32 g) :: A.ro 1 cn (Row.flts FloatKind.f32 c) :: tl)).rop 0, A.flt FloatKind.f32 w, A.int IntKind.i64 (Int.ofNat n), A.sl 112 (l + k + 1), A.int IntKind.i64 (Int.ofNat i), A.int IntKind.i64 (IntKind.i64.wrap (Int.ofNat k + Int.ofNat 1))]) ([some     (O.row 85 1 (l + k + 1)       (Row.cpxs FloatKind.f32         (fun j =>           match decide (j < l + k) with           | true => upto l a (zR n r) j           | false => r i)         fun j =>         match decide (j < l + k) with         | true => upto l b (zI n g c w) j         | false => fop BinOp.sub FloatKind.f32 (fop BinOp.mul FloatKind.f32 w (c (IntKind.i64.wrap (IntKind.i64.wrap (Int.ofNat i * Int.ofNat n) + Int.ofNat k)).toNat)) (fop BinOp.quo FloatKind.f32 (g i) w)))])
            else
              False
          else
            False
        else
          bif decide (l + k + 1 ≤ 1073741824) then
            L (XK.normal) ([(A.agg (A.ro 1 n (Row.flts FloatKind.f32 r) :: A.ro 1 gn (Row.flts FloatKind.f32 g) :: A.ro 1 cn (Row.flts FloatKind.f32 c) :: tl)).rop 0, A.flt FloatKind.f32 w, A.int IntKind.i64 (Int.ofNat n), A.sl 112 (l + k + 1), A.int IntKind.i64 (Int.ofNat i), A.int IntKind.i64 (IntKind.i64.wrap (Int.ofNat k + Int.ofNat 1))]) ([some     (O.row 85 1 (l + k + 1)       (Row.cpxs FloatKind.f32         (fun j =>           match decide (j < l + k) with           | true => upto l a (zR n r) j           | false => can FloatKind.f32 0)         fun j =>         match decide (j < l + k) with         | true => upto l b (zI n g c w) j         | false => fop BinOp.mul FloatKind.f32 w (c (IntKind.i64.wrap (IntKind.i64.wrap (Int.ofNat i * Int.ofNat n) + Int.ofNat k)).toNat)))])
          else
            False
      else
        False
    else
      L (XK.exit 2) ([(A.agg (A.ro 1 n (Row.flts FloatKind.f32 r) :: A.ro 1 gn (Row.flts FloatKind.f32 g) :: A.ro 1 cn (Row.flts FloatKind.f32 c) :: tl)).rop 0, A.flt FloatKind.f32 w, A.int IntKind.i64 (Int.ofNat n), A.sl 112 (l + k), A.int IntKind.i64 (Int.ofNat i), A.int IntKind.i64 (Int.ofNat k)]) ([some (O.row 85 1 (l + k) (Row.cpxs FloatKind.f32 (fun p => upto l a (zR n r) p) fun p => upto l b (zI n g c w) p))]) := by kernel_rfl
noncomputable def F71j : List A → List (Option O) → Option R3
  | [.rop (.agg (.ro 1 n (.flts .f32 r) :: .ro 1 gn (.flts .f32 g) :: .ro 1 cn (.flts .f32 c) :: tl)) 0, .flt .f32 w, .int .i64 m, .sl 112 l, .int .i64 (.ofNat i), .int .i64 0], [some (.row 85 1 l2 (.cpxs .f32 a b))] => some (.ite (decide (m = Int.ofNat n) && Nat.beq l2 l && Nat.beq l (i * n) && Nat.blt i n && Nat.ble n 6 && Nat.beq cn (n * n) && Nat.beq gn n) (.leaf .normal (I71j n gn cn i w l r g c a b tl (n)) (J71j n gn cn i w l r g c a b tl (n))) .fail)
  | _, _ => none
theorem loop71j : CodeOK Try.prog (fun _ σ => sumAt Try.f71.ntmps 224 [0, 1, 5, 6, 7, 8] [112] F71j σ) (.block 2 (.loop (loopOf Try.f71 2))) := by
  refine block_ok (own := fun _ => true) (lp := (fun _ => none)) (un := 0) (fuel := 1000) cfg22_ok (lp_none _) fun az os R hF hok => ?_
  unfold F71j at hF
  split at hF
  · rename_i n r gn g cn c tl w m l i l2 a b
    injection hF with hF
    subst hF
    have hg := hok.guard
    have hg' := hg
    simp only [Bool.and_eq_true, Nat.ble_eq, Nat.beq_eq, decide_eq_true_eq] at hg'
    obtain ⟨⟨⟨⟨⟨⟨rfl, hl2⟩, hl⟩, hi⟩, hn⟩, hcn⟩, hgn⟩ := hg'
    have hi := blt_lt' hi
    refine for_fact (fun _ => true) (n) (I71j n gn cn i w l r g c a b tl) (J71j n gn cn i w l r g c a b tl) _ .ret (I71j n gn cn i w l r g c a b tl) (I71j n gn cn i w l r g c a b tl) (I71j n gn cn i w l r g c a b tl (n)) (J71j n gn cn i w l r g c a b tl (n)) rfl (by unfold J71j; exact ⟨⟨85, _, by rw [hl2]; rfl, .inr rfl, fun p hp => cpx_at (by simp [upto, show p < l from hp]) (by simp [upto, show p < l from hp])⟩, trivial⟩) (fun _ => rfl) (fun _ => rfl) (fun _ => ALe.self _) (fun _ => rfl) (ALe.self _) (OSims.self (J71j n gn cn i w l r g c a b tl (n))) rfl (fun h => by cases h) (fun k hk L h1 h2 h3 => ?_) fun L hL => ?_
    · rw [round71j]
      by_cases hkm : k < n
      · refine condT (lt_dec hkm) ?_
        have hx := ix_lt hi hkm hn
        have hx2 := sq_le hn
        rw [wrap_ix hi hkm hn, wrap_succ (by omega)]
        refine condT (by rw [hcn, dec0, lt_dec hx]; rfl) ?_
        by_cases hik : i = k
        · subst hik
          refine condT (by simp) ?_
          refine condT (by rw [hgn, lt_dec hi]; rfl) ?_
          refine condT (decide_eq_true (by omega)) ?_
          exact h1 hkm rfl _ ⟨⟨85, _, rfl, .inr rfl, fun p hp => cpx_at (upto_app (by rw [hl]; exact zR_on r hi) hp) (upto_app (by rw [hl]; exact zI_on g c hi) hp)⟩, trivial⟩
        · refine condE (by simp; omega) ?_
          refine condT (decide_eq_true (by omega)) ?_
          exact h1 hkm rfl _ ⟨⟨85, _, rfl, .inr rfl, fun p hp => cpx_at (upto_app (by rw [hl]; exact zR_off r hkm hik) hp) (upto_app (by rw [hl]; exact zI_off g c hkm hik) hp)⟩, trivial⟩
      · refine condE (ge_dec (by omega)) ?_
        obtain rfl : k = n := by omega
        exact h3 rfl
    · exact ⟨fun _ => hL.1 hg, fun N _ h => by cases h⟩
  · cases hF

noncomputable def I72j (n gn cn i w l : Nat) (r g c a b : Nat → Nat) (q q2 : Int) (k : Nat) : List A := [.flt .f32 w, .ptr 0 0, .sl 32 (l + k), .int .i64 (Int.ofNat i), .int .i64 q, .int .i64 q2, .int .i64 (Int.ofNat n), .int .i64 (Int.ofNat k)]
noncomputable def J72j (n gn cn i w l : Nat) (r g c a b : Nat → Nat) (q q2 : Int) (k : Nat) : List O := [.var [.ro 1 n (.flts .f32 r), .ro 1 gn (.flts .f32 g), .ro 1 cn (.flts .f32 c)], .row 85 1 (l + k) (.cpxs .f32 (upto l a (zR n r)) (upto l b (zI n g c w)))]
theorem round72j (n gn cn i w l : Nat) (r g c a b : Nat → Nat) (q q2 : Int) (k : Nat) (L : XK → List A → List (Option O) → Prop) :
    ((exec cfg22 (fun _ => true) (fun _ => none) 0 1000 (loopOf Try.f72 2) (litSt Try.f72.ntmps 208 [1, 2, 5, 6, 11, 12, 16, 17] [0, 32] (I72j n gn cn i w l r g c a b q q2 k) (J72j n gn cn i w l r g c a b q q2 k))).rt [1, 2, 5, 6, 11, 12, 16, 17] [0, 32]).Ok L =
    bif decide (Int.ofNat k < Int.ofNat n) then
      bif decide (0 ≤ IntKind.i64.wrap (IntKind.i64.wrap (Int.ofNat i * Int.ofNat n) + Int.ofNat k)) && decide (IntKind.i64.wrap (IntKind.i64.wrap (Int.ofNat i * Int.ofNat n) + Int.ofNat k) < Int.ofNat cn) && true then
        bif Int.ofNat i == Int.ofNat k then
          bif decide (Int.ofNat i < Int.ofNat gn) && (decide (0 ≤ IntKind.i64.wrap (IntKind.i64.wrap (Int.ofNat i * Int.ofNat n) + Int.ofNat i)) && decide (IntKind.i64.wrap (IntKind.i64.wrap (Int.ofNat i * Int.ofNat n) + Int.ofNat i) < Int.ofNat cn) && true && (decide (Int.ofNat i < Int.ofNat n) && true)) then
            bif decide (l + k + 1 ≤ 1073741824) then
              L (XK.normal) ([A.flt FloatKind.f32 w, A.ptr 0 0, A.sl 32 (l + k + 1), A.int IntKind.i64 (Int.ofNat i), A.int IntKind.i64 q, A.int IntKind.i64 q2, A.int IntKind.i64 (Int.ofNat n), A.int IntKind.i64 (IntKind.i64.wrap (Int.ofNat k + Int.ofNat 1))]) ([some (O.var [A.ro 1 n (Row.flts FloatKind.f32 r), A.ro 1 gn (Row.flts FloatKind.f32 g), A.ro 1 cn (Row.flts FloatKind.f32 c)]),   some     (O.row 85 1 (l + k + 1)       (Row.cpxs FloatKind.f32         (fun j =>           match decide (j < l + k) with           | true => upto l a (zR n r) j           | false => r i)         fun j =>         match decide (j < l + k) with         | true => upto l b (zI n g c w) j         | false => fop BinOp.sub FloatKind.f32 (fop BinOp.mul FloatKind.f32 w (c (IntKind.i64.wrap (IntKind.i64.wrap (Int.ofNat i * Int.ofNat n) + Int.ofNat i)).toNat)) (fop BinOp.quo FloatKind.f32 (g i) w)))])
            else
              False
          else
            False
        else
          bif decide (l + k + 1 ≤ 1073741824) then
            L (XK.normal) ([A.flt FloatKind.f32 w, A.ptr 0 0, A.sl 32 (l + k + 1), A.int IntKind.i64 (Int.ofNat i), A.int IntKind.i64 q, A.int IntKind.i64 q2, A.int IntKind.i64 (Int.ofNat n), A.int IntKind.i64 (IntKind.i64.wrap (Int.ofNat k + Int.ofNat 1))]) ([some (O.var [A.ro 1 n (Row.flts FloatKind.f32 r), A.ro 1 gn (Row.flts FloatKind.f32 g), A.ro 1 cn (Row.flts FloatKind.f32 c)]),   some     (O.row 85 1 (l + k + 1)       (Row.cpxs FloatKind.f32         (fun j =>           match decide (j < l + k) with           | true => upto l a (zR n r) j           | false => can FloatKind.f32 0)         fun j =>         match decide (j < l + k) with         | true => upto l b (zI n g c w) j         | false => fop BinOp.mul FloatKind.f32 w (c (IntKind.i64.wrap (IntKind.i64.wrap (Int.ofNat i * Int.ofNat n) + Int.ofNat k)).toNat)))])
          else
            False
      else
        False
    else
      L (XK.exit 2) ([A.flt FloatKind.f32 w, A.ptr 0 0, A.sl 32 (l + k), A.int IntKind.i64 (Int.ofNat i), A.int IntKind.i64 q, A.int IntKind.i64 q2, A.int IntKind.i64 (Int.ofNat n), A.int IntKind.i64 (Int.ofNat k)]) ([some (O.var [A.ro 1 n (Row.flts FloatKind.f32 r), A.ro 1 gn (Row.flts FloatKind.f32 g), A.ro 1 cn (Row.flts FloatKind.f32 c)]), some (O.row 85 1 (l + k) (Row.cpxs FloatKind.f32 (fun p => upto l a (zR n r) p) fun p => upto l b (zI n g c w) p))]) := by kernel_rfl
noncomputable def F72j : List A → List (Option O) → Option R3
  | [.flt .f32 w, .ptr 0 0, .sl 32 l, .int .i64 (.ofNat i), .int .i64 q, .int .i64 q2, .int .i64 m, .int .i64 0], [some (.var [.ro 1 n (.flts .f32 r), .ro 1 gn (.flts .f32 g), .ro 1 cn (.flts .f32 c)]), some (.row 85 1 l2 (.cpxs .f32 a b))] => some (.ite (decide (m = Int.ofNat n) && Nat.beq l2 l && Nat.beq l (i * n) && Nat.blt i n && Nat.ble n 6 && Nat.beq cn (n * n) && Nat.beq gn n) (.leaf .normal (I72j n gn cn i w l r g c a b q q2 (n)) (J72j n gn cn i w l r g c a b q q2 (n))) .fail)
  | _, _ => none
theorem loop72j : CodeOK Try.prog (fun _ σ => sumAt Try.f72.ntmps 208 [1, 2, 5, 6, 11, 12, 16, 17] [0, 32] F72j σ) (.block 2 (.loop (loopOf Try.f72 2))) := by
  refine block_ok (own := fun _ => true) (lp := (fun _ => none)) (un := 0) (fuel := 1000) cfg22_ok (lp_none _) fun az os R hF hok => ?_
  unfold F72j at hF
  split at hF
  · rename_i w l i q q2 m n r gn g cn c l2 a b
    injection hF with hF
    subst hF
    have hg := hok.guard
    have hg' := hg
    simp only [Bool.and_eq_true, Nat.ble_eq, Nat.beq_eq, decide_eq_true_eq] at hg'
    obtain ⟨⟨⟨⟨⟨⟨rfl, hl2⟩, hl⟩, hi⟩, hn⟩, hcn⟩, hgn⟩ := hg'
    have hi := blt_lt' hi
    refine for_fact (fun _ => true) (n) (I72j n gn cn i w l r g c a b q q2) (J72j n gn cn i w l r g c a b q q2) _ .ret (I72j n gn cn i w l r g c a b q q2) (I72j n gn cn i w l r g c a b q q2) (I72j n gn cn i w l r g c a b q q2 (n)) (J72j n gn cn i w l r g c a b q q2 (n)) rfl (by unfold J72j; exact ⟨rfl, ⟨85, _, by rw [hl2]; rfl, .inr rfl, fun p hp => cpx_at (by simp [upto, show p < l from hp]) (by simp [upto, show p < l from hp])⟩, trivial⟩) (fun _ => rfl) (fun _ => rfl) (fun _ => ALe.self _) (fun _ => rfl) (ALe.self _) (OSims.self (J72j n gn cn i w l r g c a b q q2 (n))) rfl (fun h => by cases h) (fun k hk L h1 h2 h3 => ?_) fun L hL => ?_
    · rw [round72j]
      by_cases hkm : k < n
      · refine condT (lt_dec hkm) ?_
        have hx := ix_lt hi hkm hn
        have hx2 := sq_le hn
        rw [wrap_ix hi hkm hn, wrap_succ (by omega)]
        refine condT (by rw [hcn, dec0, lt_dec hx]; rfl) ?_
        by_cases hik : i = k
        · subst hik
          rw [wrap_ix hi hi hn]
          refine condT (by simp) ?_
          refine condT (by rw [hgn, hcn, lt_dec hi, dec0, lt_dec hx]; rfl) ?_
          refine condT (decide_eq_true (by omega)) ?_
          exact h1 hkm rfl _ ⟨rfl, ⟨85, _, rfl, .inr rfl, fun p hp => cpx_at (upto_app (by rw [hl]; exact zR_on r hi) hp) (upto_app (by rw [hl]; exact zI_on g c hi) hp)⟩, trivial⟩
        · refine condE (by simp; omega) ?_
          refine condT (decide_eq_true (by omega)) ?_
          exact h1 hkm rfl _ ⟨rfl, ⟨85, _, rfl, .inr rfl, fun p hp => cpx_at (upto_app (by rw [hl]; exact zR_off r hkm hik) hp) (upto_app (by rw [hl]; exact zI_off g c hkm hik) hp)⟩, trivial⟩
      · refine condE (ge_dec (by omega)) ?_
        obtain rfl : k = n := by omega
        exact h3 rfl
    · exact ⟨fun _ => hL.1 hg, fun N _ h => by cases h⟩
  · cases hF

end Go.Fw.C1

/-
  The outer loops of impedances.
-/
namespace Go.Fw.C1
open Go.Proofs
theorem upto_self (l : Nat) (a : Nat → Nat) (p : Nat) : upto l a a p = a p := by
  unfold upto; split <;> rfl

noncomputable def lpi71i : List (Nat × (St → T)) := [(2, sumAt Try.f71.ntmps 224 [0, 1, 5, 6, 7, 8] [112] F71j)]
theorem lpi71i_ok : LpOK Try.prog (look lpi71i) (loopOf Try.f71 0) := lp_in (lp_loops (by kernel_rfl) (by kernel_rfl) fun p hp => by
  simp only [lpi71i, List.mem_cons, List.not_mem_nil, or_false] at hp
  rcases hp with rfl
  · exact loop71j) _
noncomputable def I71i (n gn cn w : Nat) (r g c : Nat → Nat) (tl : List A) (k : Nat) : List A := [.rop (.agg (.ro 1 n (.flts .f32 r) :: .ro 1 gn (.flts .f32 g) :: .ro 1 cn (.flts .f32 c) :: tl)) 0, .flt .f32 w, .int .i64 (Int.ofNat n), .sl 112 (n * k), .int .i64 (Int.ofNat k)]
noncomputable def J71i (n gn cn w : Nat) (r g c : Nat → Nat) (tl : List A) (k : Nat) : List O := [.row 85 1 (n * k) (.cpxs .f32 (zR n r) (zI n g c w))]
theorem round71i (n gn cn w : Nat) (r g c : Nat → Nat) (tl : List A) (k : Nat) (L : XK → List A → List (Option O) → Prop) :
    ((exec cfg22 (fun _ => true) (look lpi71i) 0 1000 (loopOf Try.f71 0) (litSt Try.f71.ntmps 160 [0, 1, 5, 6, 7] [112] (I71i n gn cn w r g c tl k) (J71i n gn cn w r g c tl k))).rt [0, 1, 5, 6, 7] [112]).Ok L =
    bif decide (Int.ofNat k < Int.ofNat n) then
      bif decide (Int.ofNat n = Int.ofNat n) && (n * k).beq (n * k) && (n * k).beq (k * n) && k.blt n && n.ble 6 && cn.beq (n * n) && gn.beq n then
        L (XK.normal) ([(A.agg (A.ro 1 n (Row.flts FloatKind.f32 r) :: A.ro 1 gn (Row.flts FloatKind.f32 g) :: A.ro 1 cn (Row.flts FloatKind.f32 c) :: tl)).rop 0, A.flt FloatKind.f32 w, A.int IntKind.i64 (Int.ofNat n), A.sl 112 (n * k + n), A.int IntKind.i64 (IntKind.i64.wrap (Int.ofNat k + Int.ofNat 1))]) ([some (O.row 85 1 (n * k + n) (Row.cpxs FloatKind.f32 (fun p => upto (n * k) (zR n r) (zR n r) p) fun p => upto (n * k) (zI n g c w) (zI n g c w) p))])
      else
        False
    else
      L (XK.exit 0) ([(A.agg (A.ro 1 n (Row.flts FloatKind.f32 r) :: A.ro 1 gn (Row.flts FloatKind.f32 g) :: A.ro 1 cn (Row.flts FloatKind.f32 c) :: tl)).rop 0, A.flt FloatKind.f32 w, A.int IntKind.i64 (Int.ofNat n), A.sl 112 (n * k), A.int IntKind.i64 (Int.ofNat k)]) ([some (O.row 85 1 (n * k) (Row.cpxs FloatKind.f32 (fun p => zR n r p) fun p => zI n g c w p))]) := by kernel_rfl
noncomputable def F71i : List A → List (Option O) → Option R3
  | [.rop (.agg (.ro 1 n (.flts .f32 r) :: .ro 1 gn (.flts .f32 g) :: .ro 1 cn (.flts .f32 c) :: tl)) 0, .flt .f32 w, .int .i64 m, .sl 112 0, .int .i64 0], [some (.row 85 1 0 gg)] => some (.ite (decide (m = Int.ofNat n) && Nat.ble n 6 && Nat.beq cn (n * n) && Nat.beq gn n) (.leaf .normal (I71i n gn cn w r g c tl (n)) (J71i n gn cn w r g c tl (n))) .fail)
  | _, _ => none
theorem loop71i : CodeOK Try.prog (fun _ σ => sumAt Try.f71.ntmps 160 [0, 1, 5, 6, 7] [112] F71i σ) (.block 0 (.loop (loopOf Try.f71 0))) := by
  refine block_ok (own := fun _ => true) (lp := (look lpi71i)) (un := 0) (fuel := 1000) cfg22_ok lpi71i_ok fun az os R hF hok => ?_
  unfold F71i at hF
  split at hF
  · rename_i n r gn g cn c tl w m gg
    injection hF with hF
    subst hF
    have hg := hok.guard
    have hg' := hg
    simp only [Bool.and_eq_true, Nat.ble_eq, Nat.beq_eq, decide_eq_true_eq] at hg'
    obtain ⟨⟨⟨rfl, hn⟩, hcn⟩, hgn⟩ := hg'
    refine for_fact (fun _ => true) (n) (I71i n gn cn w r g c tl) (J71i n gn cn w r g c tl) _ .ret (I71i n gn cn w r g c tl) (I71i n gn cn w r g c tl) (I71i n gn cn w r g c tl (n)) (J71i n gn cn w r g c tl (n)) rfl (by unfold J71i; exact ⟨⟨85, _, rfl, .inr rfl, fun p hp => absurd hp (by omega)⟩, trivial⟩) (fun _ => rfl) (fun _ => rfl) (fun _ => ALe.self _) (fun _ => rfl) (ALe.self _) (OSims.self (J71i n gn cn w r g c tl (n))) rfl (fun h => by cases h) (fun k hk L h1 h2 h3 => ?_) fun L hL => ?_
    · rw [round71i]
      by_cases hkm : k < n
      · refine condT (lt_dec hkm) ?_
        have hx2 := sq_le hn
        have hkn : n * k = k * n := Nat.mul_comm n k
        have hb : Nat.blt k n = true := by simp [Nat.blt_eq, hkm]
        have hn6 : Nat.ble n 6 = true := by simp [Nat.ble_eq, hn]
        rw [wrap_succ (by omega)]
        refine condT (by rw [hcn, hgn, hb, hn6, hkn]; simp) ?_
        exact h1 hkm rfl _ ⟨⟨85, _, rfl, .inr rfl, fun p hp => cpx_at (upto_self _ _ _) (upto_self _ _ _)⟩, trivial⟩
      · refine condE (ge_dec (by omega)) ?_
        obtain rfl : k = n := by omega
        exact h3 rfl
    · exact ⟨fun _ => hL.1 hg, fun N _ h => by cases h⟩
  · cases hF

noncomputable def lpi72i : List (Nat × (St → T)) := [(2, sumAt Try.f72.ntmps 208 [1, 2, 5, 6, 11, 12, 16, 17] [0, 32] F72j)]
theorem lpi72i_ok : LpOK Try.prog (look lpi72i) (loopOf Try.f72 0) := lp_in (lp_loops (by kernel_rfl) (by kernel_rfl) fun p hp => by
  simp only [lpi72i, List.mem_cons, List.not_mem_nil, or_false] at hp
  rcases hp with rfl
  · exact loop72j) _
noncomputable def I72i (n gn cn w : Nat) (r g c : Nat → Nat) (k : Nat) : List A := [.flt .f32 w, .ptr 0 0, .sl 32 (n * k), .int .i64 (Int.ofNat n), .int .i64 (Int.ofNat k)]
noncomputable def J72i (n gn cn w : Nat) (r g c : Nat → Nat) (k : Nat) : List O := [.var [.ro 1 n (.flts .f32 r), .ro 1 gn (.flts .f32 g), .ro 1 cn (.flts .f32 c)], .row 85 1 (n * k) (.cpxs .f32 (zR n r) (zI n g c w))]
theorem round72i (n gn cn w : Nat) (r g c : Nat → Nat) (k : Nat) (L : XK → List A → List (Option O) → Prop) :
    ((exec cfg22 (fun _ => true) (look lpi72i) 0 1000 (loopOf Try.f72 0) (litSt Try.f72.ntmps 112 [1, 2, 5, 11, 12] [0, 32] (I72i n gn cn w r g c k) (J72i n gn cn w r g c k))).rt [1, 2, 5, 11, 12] [0, 32]).Ok L =
    bif decide (Int.ofNat k < Int.ofNat n) then
      bif decide (Int.ofNat n = Int.ofNat n) && (n * k).beq (n * k) && (n * k).beq (k * n) && k.blt n && n.ble 6 && cn.beq (n * n) && gn.beq n then
        L (XK.normal) ([A.flt FloatKind.f32 w, A.ptr 0 0, A.sl 32 (n * k + n), A.int IntKind.i64 (Int.ofNat n), A.int IntKind.i64 (IntKind.i64.wrap (Int.ofNat k + Int.ofNat 1))]) ([some (O.var [A.ro 1 n (Row.flts FloatKind.f32 r), A.ro 1 gn (Row.flts FloatKind.f32 g), A.ro 1 cn (Row.flts FloatKind.f32 c)]), some (O.row 85 1 (n * k + n) (Row.cpxs FloatKind.f32 (fun p => upto (n * k) (zR n r) (zR n r) p) fun p => upto (n * k) (zI n g c w) (zI n g c w) p))])
      else
        False
    else
      L (XK.exit 0) ([A.flt FloatKind.f32 w, A.ptr 0 0, A.sl 32 (n * k), A.int IntKind.i64 (Int.ofNat n), A.int IntKind.i64 (Int.ofNat k)]) ([some (O.var [A.ro 1 n (Row.flts FloatKind.f32 r), A.ro 1 gn (Row.flts FloatKind.f32 g), A.ro 1 cn (Row.flts FloatKind.f32 c)]), some (O.row 85 1 (n * k) (Row.cpxs FloatKind.f32 (fun p => zR n r p) fun p => zI n g c w p))]) := by kernel_rfl
noncomputable def F72i : List A → List (Option O) → Option R3
  | [.flt .f32 w, .ptr 0 0, .sl 32 0, .int .i64 m, .int .i64 0], [some (.var [.ro 1 n (.flts .f32 r), .ro 1 gn (.flts .f32 g), .ro 1 cn (.flts .f32 c)]), some (.row 85 1 0 gg)] => some (.ite (decide (m = Int.ofNat n) && Nat.ble n 6 && Nat.beq cn (n * n) && Nat.beq gn n) (.leaf .normal (I72i n gn cn w r g c (n)) (J72i n gn cn w r g c (n))) .fail)
  | _, _ => none
theorem loop72i : CodeOK Try.prog (fun _ σ => sumAt Try.f72.ntmps 112 [1, 2, 5, 11, 12] [0, 32] F72i σ) (.block 0 (.loop (loopOf Try.f72 0))) := by
  refine block_ok (own := fun _ => true) (lp := (look lpi72i)) (un := 0) (fuel := 1000) cfg22_ok lpi72i_ok fun az os R hF hok => ?_
  unfold F72i at hF
  split at hF
  · rename_i w m n r gn g cn c gg
    injection hF with hF
    subst hF
    have hg := hok.guard
    have hg' := hg
    simp only [Bool.and_eq_true, Nat.ble_eq, Nat.beq_eq, decide_eq_true_eq] at hg'
    obtain ⟨⟨⟨rfl, hn⟩, hcn⟩, hgn⟩ := hg'
    refine for_fact (fun _ => true) (n) (I72i n gn cn w r g c) (J72i n gn cn w r g c) _ .ret (I72i n gn cn w r g c) (I72i n gn cn w r g c) (I72i n gn cn w r g c (n)) (J72i n gn cn w r g c (n)) rfl (by unfold J72i; exact ⟨rfl, ⟨85, _, rfl, .inr rfl, fun p hp => absurd hp (by omega)⟩, trivial⟩) (fun _ => rfl) (fun _ => rfl) (fun _ => ALe.self _) (fun _ => rfl) (ALe.self _) (OSims.self (J72i n gn cn w r g c (n))) rfl (fun h => by cases h) (fun k hk L h1 h2 h3 => ?_) fun L hL => ?_
    · rw [round72i]
      by_cases hkm : k < n
      · refine condT (lt_dec hkm) ?_
        have hx2 := sq_le hn
        have hkn : n * k = k * n := Nat.mul_comm n k
        have hb : Nat.blt k n = true := by simp [Nat.blt_eq, hkm]
        have hn6 : Nat.ble n 6 = true := by simp [Nat.ble_eq, hn]
        rw [wrap_succ (by omega)]
        refine condT (by rw [hcn, hgn, hb, hn6, hkn]; simp) ?_
        exact h1 hkm rfl _ ⟨rfl, ⟨85, _, rfl, .inr rfl, fun p hp => cpx_at (upto_self _ _ _) (upto_self _ _ _)⟩, trivial⟩
      · refine condE (ge_dec (by omega)) ?_
        obtain rfl : k = n := by omega
        exact h3 rfl
    · exact ⟨fun _ => hL.1 hg, fun N _ h => by cases h⟩
  · cases hF

end Go.Fw.C1

/-
  Impedances' contracts.
-/
namespace Go.Fw.C1
open Go.Proofs

noncomputable def lp71 : List (Nat × (St → T)) := [(0, sumAt Try.f71.ntmps 160 [0, 1, 5, 6, 7] [112] F71i)]
theorem lp71_ok : LpOK Try.prog (look lp71) (bodyOf Try.f71) := lp_loops (by kernel_rfl) (by kernel_rfl) fun p hp => by
  simp only [lp71, List.mem_cons, List.not_mem_nil, or_false] at hp
  rcases hp with rfl
  · exact loop71i
theorem auto71 (n gn cn w : Nat) (r g c : Nat → Nat) : autoLp cfg22 (look lp71) Try.f71 [.rop (.agg [.ro 1 n (.flts .f32 r), .ro 1 gn (.flts .f32 g), .ro 1 cn (.flts .f32 c)]) 0, .flt .f32 w] =
    some (decide (Int.ofNat n = Int.ofNat n) && n.ble 6 && cn.beq (n * n) && gn.beq n && true, A.ro 1 (n * n) (Row.cpxs FloatKind.f32 (fun p => zR n r p) fun p => zI n g c w p)) := by kernel_rfl
noncomputable def s71 : List A → Option (Bool × A)
  | [.rop (.agg [.ro 1 n (.flts .f32 r), .ro 1 gn (.flts .f32 g), .ro 1 cn (.flts .f32 c)]) 0, .flt .f32 w] => some (Nat.ble n 6 && Nat.beq cn (n * n) && Nat.beq gn n, .ro 1 (n * n) (.cpxs .f32 (zR n r) (zI n g c w)))
  | _ => none
theorem s71_at : EnvAt Try.prog 71 s71 := of_auto cfg22_ok lp71_ok Try.func71 (by kernel_rfl) (by kernel_rfl) fun ds cc rr h hc => by
  unfold s71 at h
  split at h
  · rename_i n r gn g cn c w
    simp only [Option.some.injEq, Prod.mk.injEq] at h
    obtain ⟨rfl, rfl⟩ := h
    refine auto_fit (auto71 n gn cn w r g c) ?_ ?_
    · rfl
    · simpa using hc
  · cases h

noncomputable def lp72 : List (Nat × (St → T)) := [(0, sumAt Try.f72.ntmps 112 [1, 2, 5, 11, 12] [0, 32] F72i)]
theorem lp72_ok : LpOK Try.prog (look lp72) (bodyOf Try.f72) := lp_loops (by kernel_rfl) (by kernel_rfl) fun p hp => by
  simp only [lp72, List.mem_cons, List.not_mem_nil, or_false] at hp
  rcases hp with rfl
  · exact loop72i
theorem auto72 (n gn cn w : Nat) (r g c : Nat → Nat) : autoLp cfg22 (look lp72) Try.f72 [.agg [.ro 1 n (.flts .f32 r), .ro 1 gn (.flts .f32 g), .ro 1 cn (.flts .f32 c)], .flt .f32 w] =
    some (decide (Int.ofNat n = Int.ofNat n) && n.ble 6 && cn.beq (n * n) && gn.beq n && true, A.ro 1 (n * n) (Row.cpxs FloatKind.f32 (fun p => zR n r p) fun p => zI n g c w p)) := by kernel_rfl
noncomputable def s72 : List A → Option (Bool × A)
  | [.agg [.ro 1 n (.flts .f32 r), .ro 1 gn (.flts .f32 g), .ro 1 cn (.flts .f32 c)], .flt .f32 w] => some (Nat.ble n 6 && Nat.beq cn (n * n) && Nat.beq gn n, .ro 1 (n * n) (.cpxs .f32 (zR n r) (zI n g c w)))
  | _ => none
theorem s72_at : EnvAt Try.prog 72 s72 := of_auto cfg22_ok lp72_ok Try.func72 (by kernel_rfl) (by kernel_rfl) fun ds cc rr h hc => by
  unfold s72 at h
  split at h
  · rename_i n r gn g cn c w
    simp only [Option.some.injEq, Prod.mk.injEq] at h
    obtain ⟨rfl, rfl⟩ := h
    refine auto_fit (auto72 n gn cn w r g c) ?_ ?_
    · rfl
    · simpa using hc
  · cases h

noncomputable def env25 : List (Nat × (List A → Option (Bool × A))) := (71, s71) :: (72, s72) :: env22
theorem env25_ok : EnvOK Try.prog (look env25) := (env_cons s71_at (env_cons s72_at env22_ok))
noncomputable def cfg25 : Cfg := mkCfg tab [] xts (look env25)
theorem cfg25_ok : CfgOK Try.prog cfg25 := cfg_ok tab_eq (no_fts _) xts_ok env25_ok mixed
noncomputable def impOk (n gn cn : Nat) (r g c : Nat → Nat) (w : Nat) : Bool := valid n gn cn r g c && above w
theorem auto34T (n gn cn w : Nat) (r g c : Nat → Nat) : autoS cfg25 (fun _ => none) false Try.f34 [.agg [.ro 1 n (.flts .f32 r), .ro 1 gn (.flts .f32 g), .ro 1 cn (.flts .f32 c)], .flt .f32 w] =
    some ((!bif !valid n gn cn r g c then true else !above w) && (n.ble 6 && cn.beq (n * n) && gn.beq n && true), A.tup [A.ro 1 (n * n) (Row.cpxs FloatKind.f32 (fun p => zR n r p) fun p => zI n g c w p), A.bool true]) := by kernel_rfl
noncomputable def s34T : List A → Option (Bool × A)
  | [.agg [.ro 1 n (.flts .f32 r), .ro 1 gn (.flts .f32 g), .ro 1 cn (.flts .f32 c)], .flt .f32 w] => some (impOk n gn cn r g c w, .tup [.ro 1 (n * n) (.cpxs .f32 (zR n r) (zI n g c w)), .bool true])
  | _ => none
theorem s34T_at : EnvAt Try.prog 34 s34T := of_autoS cfg25_ok (lp_none _) Try.func34 (by kernel_rfl) (by kernel_rfl) fun ds cc rr h hc => by
  unfold s34T at h
  split at h
  · rename_i n r gn g cn c w
    simp only [Option.some.injEq, Prod.mk.injEq] at h
    obtain ⟨rfl, rfl⟩ := h
    refine auto_fit (auto34T n gn cn w r g c) ?_ ?_
    · rfl
    · simp only [impOk, Bool.and_eq_true] at hc
      obtain ⟨_, h2, h3, h4⟩ := valid_sizes hc.1
      rw [hc.1, hc.2, h3, h4]
      simp [h2]
  · cases h

theorem auto34F (n gn cn w : Nat) (r g c : Nat → Nat) : autoS cfg25 (fun _ => none) true Try.f34 [.agg [.ro 1 n (.flts .f32 r), .ro 1 gn (.flts .f32 g), .ro 1 cn (.flts .f32 c)], .flt .f32 w] =
    some ((bif !valid n gn cn r g c then true else !above w) && true, A.tup [A.emp, A.bool false]) := by kernel_rfl
noncomputable def s34F : List A → Option (Bool × A)
  | [.agg [.ro 1 n (.flts .f32 r), .ro 1 gn (.flts .f32 g), .ro 1 cn (.flts .f32 c)], .flt .f32 w] => some (!impOk n gn cn r g c w, .tup [.emp, .bool false])
  | _ => none
theorem s34F_at : EnvAt Try.prog 34 s34F := of_autoS cfg25_ok (lp_none _) Try.func34 (by kernel_rfl) (by kernel_rfl) fun ds cc rr h hc => by
  unfold s34F at h
  split at h
  · rename_i n r gn g cn c w
    simp only [Option.some.injEq, Prod.mk.injEq] at h
    obtain ⟨rfl, rfl⟩ := h
    refine auto_fit (auto34F n gn cn w r g c) ?_ ?_
    · rfl
    · show ((bif !valid n gn cn r g c then true else !above w) && true) = true
      unfold impOk at hc
      cases hv : valid n gn cn r g c
      · rfl
      · rw [hv] at hc; simpa using hc
  · cases h

theorem auto35T (n gn cn w : Nat) (r g c : Nat → Nat) : autoS cfg25 (fun _ => none) false Try.f35 [.agg [.ro 1 n (.flts .f32 r), .ro 1 gn (.flts .f32 g), .ro 1 cn (.flts .f32 c)], .flt .f32 w] =
    some ((!bif !valid n gn cn r g c then true else !above w) && (n.ble 6 && cn.beq (n * n) && gn.beq n && true), A.tup [A.ro 1 (n * n) (Row.cpxs FloatKind.f32 (fun p => zR n r p) fun p => zI n g c w p), A.bool true]) := by kernel_rfl
noncomputable def s35T : List A → Option (Bool × A)
  | [.agg [.ro 1 n (.flts .f32 r), .ro 1 gn (.flts .f32 g), .ro 1 cn (.flts .f32 c)], .flt .f32 w] => some (impOk n gn cn r g c w, .tup [.ro 1 (n * n) (.cpxs .f32 (zR n r) (zI n g c w)), .bool true])
  | _ => none
theorem s35T_at : EnvAt Try.prog 35 s35T := of_autoS cfg25_ok (lp_none _) Try.func35 (by kernel_rfl) (by kernel_rfl) fun ds cc rr h hc => by
  unfold s35T at h
  split at h
  · rename_i n r gn g cn c w
    simp only [Option.some.injEq, Prod.mk.injEq] at h
    obtain ⟨rfl, rfl⟩ := h
    refine auto_fit (auto35T n gn cn w r g c) ?_ ?_
    · rfl
    · simp only [impOk, Bool.and_eq_true] at hc
      obtain ⟨_, h2, h3, h4⟩ := valid_sizes hc.1
      rw [hc.1, hc.2, h3, h4]
      simp [h2]
  · cases h

theorem auto35F (n gn cn w : Nat) (r g c : Nat → Nat) : autoS cfg25 (fun _ => none) true Try.f35 [.agg [.ro 1 n (.flts .f32 r), .ro 1 gn (.flts .f32 g), .ro 1 cn (.flts .f32 c)], .flt .f32 w] =
    some ((bif !valid n gn cn r g c then true else !above w) && true, A.tup [A.emp, A.bool false]) := by kernel_rfl
noncomputable def s35F : List A → Option (Bool × A)
  | [.agg [.ro 1 n (.flts .f32 r), .ro 1 gn (.flts .f32 g), .ro 1 cn (.flts .f32 c)], .flt .f32 w] => some (!impOk n gn cn r g c w, .tup [.emp, .bool false])
  | _ => none
theorem s35F_at : EnvAt Try.prog 35 s35F := of_autoS cfg25_ok (lp_none _) Try.func35 (by kernel_rfl) (by kernel_rfl) fun ds cc rr h hc => by
  unfold s35F at h
  split at h
  · rename_i n r gn g cn c w
    simp only [Option.some.injEq, Prod.mk.injEq] at h
    obtain ⟨rfl, rfl⟩ := h
    refine auto_fit (auto35F n gn cn w r g c) ?_ ?_
    · rfl
    · show ((bif !valid n gn cn r g c then true else !above w) && true) = true
      unfold impOk at hc
      cases hv : valid n gn cn r g c
      · rfl
      · rw [hv] at hc; simpa using hc
  · cases h

end Go.Fw.C1

/-
  Complex numbers compared.
-/
namespace Go.Fw.C1
open Go.Proofs

theorem auto73 (a b c d : Nat) : autoLp cfg25 (fun _ => none) Try.f73 [.cpx .f64 a b, .cpx .f64 c d] =
    some (true, A.bool (bif sameF a c then sameF b d else false)) := by kernel_rfl
noncomputable def s73 : List A → Option (Bool × A)
  | [.cpx .f64 a b, .cpx .f64 c d] => some (true, .bool (bif sameF a c then sameF b d else false))
  | _ => none
theorem s73_at : EnvAt Try.prog 73 s73 := of_auto cfg25_ok (lp_none _) Try.func73 (by kernel_rfl) (by kernel_rfl) fun ds cc rr h hc => by
  unfold s73 at h
  split at h
  · rename_i a b c d
    simp only [Option.some.injEq, Prod.mk.injEq] at h
    obtain ⟨rfl, rfl⟩ := h
    refine auto_fit (auto73 a b c d) ?_ ?_
    · rfl
    · rfl
  · cases h

noncomputable def env26 : List (Nat × (List A → Option (Bool × A))) := (73, s73) :: env25
theorem env26_ok : EnvOK Try.prog (look env26) := (env_cons s73_at env25_ok)
noncomputable def cfg26 : Cfg := mkCfg tab [] xts (look env26)
theorem cfg26_ok : CfgOK Try.prog cfg26 := cfg_ok tab_eq (no_fts _) xts_ok env26_ok mixed
def sameC (a b c d : Nat → Nat) (k : Nat) : Bool := bif sameF (fcvt .f32 .f64 (a k)) (fcvt .f32 .f64 (c k)) then sameF (fcvt .f32 .f64 (b k)) (fcvt .f32 .f64 (d k)) else false
noncomputable def I36 (n m : Nat) (a b c d : Nat → Nat) (k : Nat) : List A := [.ro 1 n (.cpxs .f32 a b), .ro 1 m (.cpxs .f32 c d), .bool false, .int .i64 (Int.ofNat k)]
theorem round36 (n m : Nat) (a b c d : Nat → Nat) (k : Nat) (L : XK → List A → List (Option O) → Prop) :
    ((exec cfg26 (fun _ => true) (fun _ => none) 0 1000 (loopOf Try.f36 0) (litSt Try.f36.ntmps 112 [0, 1, 4, 5] [] (I36 n m a b c d k) [])).rt [0, 1, 4, 5] []).Ok L =
    bif decide (Int.ofNat k < Int.ofNat n) then
      bif decide (Int.ofNat k < Int.ofNat m) && (decide (Int.ofNat k < Int.ofNat n) && true) then
        bif !bif sameF (fcvt FloatKind.f32 FloatKind.f64 (a k)) (fcvt FloatKind.f32 FloatKind.f64 (c k)) then sameF (fcvt FloatKind.f32 FloatKind.f64 (b k)) (fcvt FloatKind.f32 FloatKind.f64 (d k)) else false then
          L (XK.ret) ([A.ro 1 n (Row.cpxs FloatKind.f32 a b), A.ro 1 m (Row.cpxs FloatKind.f32 c d), A.bool false, A.int IntKind.i64 (Int.ofNat k)]) ([])
        else
          L (XK.normal) ([A.ro 1 n (Row.cpxs FloatKind.f32 a b), A.ro 1 m (Row.cpxs FloatKind.f32 c d), A.bool false, A.int IntKind.i64 (IntKind.i64.wrap (Int.ofNat k + Int.ofNat 1))]) ([])
      else
        False
    else
      L (XK.exit 0) ([A.ro 1 n (Row.cpxs FloatKind.f32 a b), A.ro 1 m (Row.cpxs FloatKind.f32 c d), A.bool false, A.int IntKind.i64 (Int.ofNat k)]) ([]) := by kernel_rfl
noncomputable def F36 : List A → List (Option O) → Option R3
  | [.ro 1 n (.cpxs .f32 a b), .ro 1 m (.cpxs .f32 c d), .bool false, .int .i64 0], [] => some (.ite (Nat.beq m n && Nat.ble n 4611686018427387000) (.ite (allUpTo (sameC a b c d) (n)) (.leaf .normal (I36 n m a b c d (n)) []) (.leaf (.ret) ((fun k => [.ro 1 n (.cpxs .f32 a b), .ro 1 m (.cpxs .f32 c d), .bool false, .int .i64 (Int.ofNat k)]) (firstIdx (sameC a b c d) (n))) [])) .fail)
  | _, _ => none
theorem loop36 : CodeOK Try.prog (fun _ σ => sumAt Try.f36.ntmps 112 [0, 1, 4, 5] [] F36 σ) (.block 0 (.loop (loopOf Try.f36 0))) := by
  refine block_ok (own := fun _ => true) (lp := (fun _ => none)) (un := 0) (fuel := 1000) cfg26_ok (lp_none _) fun az os R hF hok => ?_
  unfold F36 at hF
  split at hF
  · rename_i n a b m c d
    injection hF with hF
    subst hF
    have hg := hok.guard
    have hg' := hg
    simp only [Bool.and_eq_true, Nat.ble_eq, Nat.beq_eq, decide_eq_true_eq] at hg'
    obtain ⟨hm, hn⟩ := hg'
    refine for_fact0 (sameC a b c d) (n) (I36 n m a b c d) _ (.ret) (fun k => [.ro 1 n (.cpxs .f32 a b), .ro 1 m (.cpxs .f32 c d), .bool false, .int .i64 (Int.ofNat k)]) (fun k => [.ro 1 n (.cpxs .f32 a b), .ro 1 m (.cpxs .f32 c d), .bool false, .int .i64 (Int.ofNat k)]) (I36 n m a b c d (n)) rfl (fun _ => rfl) (fun _ => ALe.self _) (fun _ => rfl) (ALe.self _) rfl (fun h => by cases h) (fun k hk L h1 h2 h3 => ?_) fun L hL => ?_
    · rw [round36]
      by_cases hkm : k < n
      · refine condT (lt_dec hkm) ?_
        refine condT (by rw [hm, lt_dec hkm]; rfl) ?_
        show cond (!(sameC a b c d k)) _ _
        cases hs : sameC a b c d k
        · exact h2 hkm hs
        · have := h1 hkm hs
          rw [wrap_succ (by omega)]
          exact this
      · refine condE (ge_dec (by omega)) ?_
        obtain rfl : k = n := by omega
        exact h3 rfl
    · exact ⟨fun h => (hL.1 hg).1 h, fun N hN hf hall => by
        have := (hL.1 hg).2 (allUpTo_false hN hf)
        rw [firstIdx_eq hN hf hall] at this
        exact this⟩
  · cases hF

theorem ofInt_ok {n : Nat} (h : n ≤ 2 ^ 40) : fcvtOk .f64 .f32 (fofInt .f64 (Int.ofNat n)) = true := by
  refine cvt_down (E := 40) ?_ (by decide) (by decide)
  refine le_write (k := .f64) (m := (Int.ofNat n).natAbs) (i := 0) (.inr ⟨by decide, h⟩) (by decide) ?_
  show (40 - (-1074) - ((52 : Nat) : Int) + 1).toNat * 2 ^ 52 < 2047 * 2 ^ 52
  exact Nat.mul_lt_mul_of_pos_right (by omega) (Nat.two_pow_pos _)
theorem notNaN_down {x : Nat} (h : isNaN .f64 x = false) : isNaN .f32 (fcvt .f64 .f32 x) = false := by
  have h' : (FloatKind.f64.format.read x).isNaN = false := h
  unfold fcvt
  have e : FloatKind.f64.decode x = FloatKind.f64.format.read x := rfl
  rw [e]
  cases hx : FloatKind.f64.format.read x with
  | nan s t => rw [hx] at h'; cases h'
  | infinity g => cases g <;> decide +kernel
  | number g m i => exact notNaN_nearest .f32 g m i
theorem one_ok : fcvtOk .f64 .f32 (can .f64 4607182418800017408) = true := by decide +kernel
noncomputable def cmark (k : Nat) : Nat := fcvt .f64 .f32 (fofInt .f64 (Int.ofNat k))
noncomputable def cone : Nat := fcvt .f64 .f32 (can .f64 4607182418800017408)
noncomputable def heldC (a b : Nat → Nat) (k0 k : Nat) : Bool := !(forder .f32 (a k) (cmark (k0 + k)) == some .eq && forder .f32 (b k) cone == some .eq)
noncomputable def I38 (m k0 : Nat) (a b : Nat → Nat) (k : Nat) : List A := [.ro 1 m (.cpxs .f32 a b), .int .i64 (Int.ofNat (k0 + k)), .int .i64 (Int.ofNat 0), .int .i64 (Int.ofNat k)]
theorem round38 (m k0 : Nat) (a b : Nat → Nat) (k : Nat) (L : XK → List A → List (Option O) → Prop) :
    ((exec cfg26 (fun _ => true) (fun _ => none) 0 1000 (loopOf Try.f38 0) (litSt Try.f38.ntmps 32 [0, 1, 4, 5] [] (I38 m k0 a b k) [])).rt [0, 1, 4, 5] []).Ok L =
    bif decide (Int.ofNat k < Int.ofNat m) then
      bif decide (Int.ofNat k < Int.ofNat m) then
        bif fcvtOk FloatKind.f64 FloatKind.f32 (fofInt FloatKind.f64 (Int.ofNat (k0 + k))) && fcvtOk FloatKind.f64 FloatKind.f32 (can FloatKind.f64 4607182418800017408) then
          bif !(forder FloatKind.f32 (a k) (fcvt FloatKind.f64 FloatKind.f32 (fofInt FloatKind.f64 (Int.ofNat (k0 + k)))) == some Ordering.eq && forder FloatKind.f32 (b k) (fcvt FloatKind.f64 FloatKind.f32 (can FloatKind.f64 4607182418800017408)) == some Ordering.eq) then
            L (XK.ret) ([A.ro 1 m (Row.cpxs FloatKind.f32 a b), A.int IntKind.i64 (Int.ofNat (k0 + k)), A.int IntKind.i64 (Int.negSucc 0), A.int IntKind.i64 (Int.ofNat k)]) ([])
          else
            L (XK.normal) ([A.ro 1 m (Row.cpxs FloatKind.f32 a b), A.int IntKind.i64 (IntKind.i64.wrap (Int.ofNat (k0 + k) + Int.ofNat 1)), A.int IntKind.i64 (Int.ofNat 0), A.int IntKind.i64 (IntKind.i64.wrap (Int.ofNat k + Int.ofNat 1))]) ([])
        else
          False
      else
        False
    else
      L (XK.exit 0) ([A.ro 1 m (Row.cpxs FloatKind.f32 a b), A.int IntKind.i64 (Int.ofNat (k0 + k)), A.int IntKind.i64 (Int.ofNat 0), A.int IntKind.i64 (Int.ofNat k)]) ([]) := by kernel_rfl
noncomputable def F38 : List A → List (Option O) → Option R3
  | [.ro 1 m (.cpxs .f32 a b), .int .i64 (.ofNat k0), .int .i64 0, .int .i64 0], [] => some (.ite (Nat.ble m 1048577 && Nat.ble k0 1000000000) (.ite (allUpTo (fun k => !heldC a b k0 k) (m)) (.leaf .normal (I38 m k0 a b (m)) []) (.leaf (.ret) ((fun k => [.ro 1 m (.cpxs .f32 a b), .int .i64 (Int.ofNat (k0 + k)), .int .i64 (Int.negSucc 0), .int .i64 (Int.ofNat k)]) (firstIdx (fun k => !heldC a b k0 k) (m))) [])) .fail)
  | _, _ => none
theorem loop38 : CodeOK Try.prog (fun _ σ => sumAt Try.f38.ntmps 32 [0, 1, 4, 5] [] F38 σ) (.block 0 (.loop (loopOf Try.f38 0))) := by
  refine block_ok (own := fun _ => true) (lp := (fun _ => none)) (un := 0) (fuel := 1000) cfg26_ok (lp_none _) fun az os R hF hok => ?_
  unfold F38 at hF
  split at hF
  · rename_i m a b k0
    injection hF with hF
    subst hF
    have hg := hok.guard
    have hg' := hg
    simp only [Bool.and_eq_true, Nat.ble_eq, Nat.beq_eq, decide_eq_true_eq] at hg'
    obtain ⟨hm, hk0⟩ := hg'
    refine for_fact0 (fun k => !heldC a b k0 k) (m) (I38 m k0 a b) _ (.ret) (fun k => [.ro 1 m (.cpxs .f32 a b), .int .i64 (Int.ofNat (k0 + k)), .int .i64 (Int.negSucc 0), .int .i64 (Int.ofNat k)]) (fun k => [.ro 1 m (.cpxs .f32 a b), .int .i64 (Int.ofNat (k0 + k)), .int .i64 (Int.negSucc 0), .int .i64 (Int.ofNat k)]) (I38 m k0 a b (m)) rfl (fun _ => rfl) (fun _ => ALe.self _) (fun _ => rfl) (ALe.self _) rfl (fun h => by cases h) (fun k hk L h1 h2 h3 => ?_) fun L hL => ?_
    · rw [round38]
      by_cases hkm : k < m
      · refine condT (lt_dec hkm) ?_
        refine condT (lt_dec hkm) ?_
        refine condT (by rw [ofInt_ok (by omega), one_ok]; rfl) ?_
        show cond (heldC a b k0 k) _ _
        cases hs : heldC a b k0 k
        · have := h1 hkm (by rw [hs]; rfl)
          rw [wrap_succ (by omega), wrap_succ (by omega), Nat.add_assoc]
          exact this
        · exact h2 hkm (by rw [hs]; rfl)
      · refine condE (ge_dec (by omega)) ?_
        obtain rfl : k = m := by omega
        exact h3 rfl
    · exact ⟨fun h => (hL.1 hg).1 h, fun N hN hf hall => by
        have := (hL.1 hg).2 (allUpTo_false hN hf)
        rw [firstIdx_eq hN hf hall] at this
        exact this⟩
  · cases hF

noncomputable def lp36 : List (Nat × (St → T)) := [(0, sumAt Try.f36.ntmps 112 [0, 1, 4, 5] [] F36)]
theorem lp36_ok : LpOK Try.prog (look lp36) (bodyOf Try.f36) := lp_loops (by kernel_rfl) (by kernel_rfl) fun p hp => by
  simp only [lp36, List.mem_cons, List.not_mem_nil, or_false] at hp
  rcases hp with rfl
  · exact loop36
theorem auto36 (n m : Nat) (a b c d : Nat → Nat) : autoLp cfg26 (look lp36) Try.f36 [.ro 1 n (.cpxs .f32 a b), .ro 1 m (.cpxs .f32 c d)] =
    some (bif Int.ofNat n != Int.ofNat m then true else m.beq n && n.ble 4611686018427387000 && bif allUpTo (sameC a b c d) n then true else true, A.bool (bif Int.ofNat n != Int.ofNat m then false else bif allUpTo (sameC a b c d) n then true else false)) := by kernel_rfl
noncomputable def s36 : List A → Option (Bool × A)
  | [.ro 1 n (.cpxs .f32 a b), .ro 1 m (.cpxs .f32 c d)] => some (Nat.beq m n && Nat.ble n 4611686018427387000 && allUpTo (sameC a b c d) n, .bool true)
  | _ => none
theorem s36_at : EnvAt Try.prog 36 s36 := of_auto cfg26_ok lp36_ok Try.func36 (by kernel_rfl) (by kernel_rfl) fun ds cc rr h hc => by
  unfold s36 at h
  split at h
  · rename_i n a b m c d
    simp only [Option.some.injEq, Prod.mk.injEq] at h
    obtain ⟨rfl, rfl⟩ := h
    refine auto_fit (auto36 n m a b c d) ?_ ?_
    · simp only [Bool.and_eq_true, Nat.beq_eq] at hc
      rw [hc.1.1, hc.2]; simp
    · simp only [Bool.and_eq_true, Nat.beq_eq] at hc
      rw [hc.1.1, hc.1.2, hc.2]; simp
  · cases h

noncomputable def lp38 : List (Nat × (St → T)) := [(0, sumAt Try.f38.ntmps 32 [0, 1, 4, 5] [] F38)]
theorem lp38_ok : LpOK Try.prog (look lp38) (bodyOf Try.f38) := lp_loops (by kernel_rfl) (by kernel_rfl) fun p hp => by
  simp only [lp38, List.mem_cons, List.not_mem_nil, or_false] at hp
  rcases hp with rfl
  · exact loop38
theorem auto38 (m k0 : Nat) (a b : Nat → Nat) : autoLp cfg26 (look lp38) Try.f38 [.ro 1 m (.cpxs .f32 a b), .int .i64 (.ofNat k0)] =
    some (m.ble 1048577 && k0.ble 1000000000 && bif allUpTo (fun k => !heldC a b k0 k) m then true else true, A.int IntKind.i64 (bif allUpTo (fun k => !heldC a b k0 k) m then Int.ofNat (k0 + m) else Int.negSucc 0)) := by kernel_rfl
noncomputable def s38 : List A → Option (Bool × A)
  | [.ro 1 m (.cpxs .f32 a b), .int .i64 (.ofNat k0)] => some (Nat.ble m 1048577 && Nat.ble k0 1000000000 && allUpTo (fun k => !heldC a b k0 k) m, .int .i64 (Int.ofNat (k0 + m)))
  | _ => none
theorem s38_at : EnvAt Try.prog 38 s38 := of_auto cfg26_ok lp38_ok Try.func38 (by kernel_rfl) (by kernel_rfl) fun ds cc rr h hc => by
  unfold s38 at h
  split at h
  · rename_i m a b k0
    simp only [Option.some.injEq, Prod.mk.injEq] at h
    obtain ⟨rfl, rfl⟩ := h
    refine auto_fit (auto38 m k0 a b) ?_ ?_
    · simp only [Bool.and_eq_true] at hc; rw [hc.2]; rfl
    · simp only [Bool.and_eq_true] at hc; rw [hc.1.1, hc.1.2]; simp
  · cases h

end Go.Fw.C1

/-
  The law of impedances.
-/
namespace Go.Fw.C1
open Go.Proofs
theorem roundM304 (m k0 k e lo nx : Nat) (g : Nat → Nat) (M : List (Nat × O)) (L : XK → List A → List (Nat × O) → Prop) :
    ((exec cfgN (fun _ => true) (fun _ => none) 0 1000 (loopOf Try.f69 0) (stM Try.f69.ntmps lo nx [0, 1, 4, 5] (IM 304 m k0 k) 304 (.row e 1 m (.flts .f32 g)) M)).rm [0, 1, 4, 5]).Ok L =
    bif decide (Int.ofNat k < Int.ofNat m) then
      bif decide (Int.ofNat k < Int.ofNat m) then
        L (XK.normal) ([A.sl 304 m, A.int IntKind.i64 (IntKind.i64.wrap (Int.ofNat (k0 + k) + Int.ofNat 1)), A.int IntKind.i64 (Int.ofNat 0), A.int IntKind.i64 (IntKind.i64.wrap (Int.ofNat k + Int.ofNat 1))]) ((304,     O.row e 1 m       (Row.flts FloatKind.f32 fun j =>         match decide (j = (Int.ofNat k).toNat) with         | true => fofInt FloatKind.f32 (Int.ofNat (k0 + k))         | false => g j)) ::   (304, O.row e 1 m (Row.flts FloatKind.f32 g)) :: M)
      else
        False
    else
      L (XK.exit 0) ([A.sl 304 m, A.int IntKind.i64 (Int.ofNat (k0 + k)), A.int IntKind.i64 (Int.ofNat 0), A.int IntKind.i64 (Int.ofNat k)]) ((304, O.row e 1 m (Row.flts FloatKind.f32 g)) :: M) := by kernel_rfl
theorem loopM304 : CodeOK Try.prog (fun _ σ => sumM Try.f69.ntmps [0, 1, 4, 5] 304 (FM 304) σ) (.block 0 (.loop (loopOf Try.f69 0))) :=
  sumM_ok (own := fun _ => true) (lp := fun _ => none) (un := 0) (fuel := 1000) cfgN_ok (lp_none _) (markH 304 fun m k0 k e lo nx g M L => roundM304 m k0 k e lo nx g M L)

theorem roundM305 (m k0 k e lo nx : Nat) (g : Nat → Nat) (M : List (Nat × O)) (L : XK → List A → List (Nat × O) → Prop) :
    ((exec cfgN (fun _ => true) (fun _ => none) 0 1000 (loopOf Try.f69 0) (stM Try.f69.ntmps lo nx [0, 1, 4, 5] (IM 305 m k0 k) 305 (.row e 1 m (.flts .f32 g)) M)).rm [0, 1, 4, 5]).Ok L =
    bif decide (Int.ofNat k < Int.ofNat m) then
      bif decide (Int.ofNat k < Int.ofNat m) then
        L (XK.normal) ([A.sl 305 m, A.int IntKind.i64 (IntKind.i64.wrap (Int.ofNat (k0 + k) + Int.ofNat 1)), A.int IntKind.i64 (Int.ofNat 0), A.int IntKind.i64 (IntKind.i64.wrap (Int.ofNat k + Int.ofNat 1))]) ((305,     O.row e 1 m       (Row.flts FloatKind.f32 fun j =>         match decide (j = (Int.ofNat k).toNat) with         | true => fofInt FloatKind.f32 (Int.ofNat (k0 + k))         | false => g j)) ::   (305, O.row e 1 m (Row.flts FloatKind.f32 g)) :: M)
      else
        False
    else
      L (XK.exit 0) ([A.sl 305 m, A.int IntKind.i64 (Int.ofNat (k0 + k)), A.int IntKind.i64 (Int.ofNat 0), A.int IntKind.i64 (Int.ofNat k)]) ((305, O.row e 1 m (Row.flts FloatKind.f32 g)) :: M) := by kernel_rfl
theorem loopM305 : CodeOK Try.prog (fun _ σ => sumM Try.f69.ntmps [0, 1, 4, 5] 305 (FM 305) σ) (.block 0 (.loop (loopOf Try.f69 0))) :=
  sumM_ok (own := fun _ => true) (lp := fun _ => none) (un := 0) (fuel := 1000) cfgN_ok (lp_none _) (markH 305 fun m k0 k e lo nx g M L => roundM305 m k0 k e lo nx g M L)

theorem roundM306 (m k0 k e lo nx : Nat) (g : Nat → Nat) (M : List (Nat × O)) (L : XK → List A → List (Nat × O) → Prop) :
    ((exec cfgN (fun _ => true) (fun _ => none) 0 1000 (loopOf Try.f69 0) (stM Try.f69.ntmps lo nx [0, 1, 4, 5] (IM 306 m k0 k) 306 (.row e 1 m (.flts .f32 g)) M)).rm [0, 1, 4, 5]).Ok L =
    bif decide (Int.ofNat k < Int.ofNat m) then
      bif decide (Int.ofNat k < Int.ofNat m) then
        L (XK.normal) ([A.sl 306 m, A.int IntKind.i64 (IntKind.i64.wrap (Int.ofNat (k0 + k) + Int.ofNat 1)), A.int IntKind.i64 (Int.ofNat 0), A.int IntKind.i64 (IntKind.i64.wrap (Int.ofNat k + Int.ofNat 1))]) ((306,     O.row e 1 m       (Row.flts FloatKind.f32 fun j =>         match decide (j = (Int.ofNat k).toNat) with         | true => fofInt FloatKind.f32 (Int.ofNat (k0 + k))         | false => g j)) ::   (306, O.row e 1 m (Row.flts FloatKind.f32 g)) :: M)
      else
        False
    else
      L (XK.exit 0) ([A.sl 306 m, A.int IntKind.i64 (Int.ofNat (k0 + k)), A.int IntKind.i64 (Int.ofNat 0), A.int IntKind.i64 (Int.ofNat k)]) ((306, O.row e 1 m (Row.flts FloatKind.f32 g)) :: M) := by kernel_rfl
theorem loopM306 : CodeOK Try.prog (fun _ σ => sumM Try.f69.ntmps [0, 1, 4, 5] 306 (FM 306) σ) (.block 0 (.loop (loopOf Try.f69 0))) :=
  sumM_ok (own := fun _ => true) (lp := fun _ => none) (un := 0) (fuel := 1000) cfgN_ok (lp_none _) (markH 306 fun m k0 k e lo nx g M L => roundM306 m k0 k e lo nx g M L)

theorem roundC384 (m k0 k e lo nx : Nat) (a b : Nat → Nat) (M : List (Nat × O)) (L : XK → List A → List (Nat × O) → Prop) :
    ((exec cfgN (fun _ => true) (fun _ => none) 0 1000 (loopOf Try.f37 0) (stM Try.f37.ntmps lo nx [0, 1, 4, 5] (IM 384 m k0 k) 384 (.row e 1 m (.cpxs .f32 a b)) M)).rm [0, 1, 4, 5]).Ok L =
    bif decide (Int.ofNat k < Int.ofNat m) then
      bif fcvtOk FloatKind.f64 FloatKind.f32 (fofInt FloatKind.f64 (Int.ofNat (k0 + k))) && fcvtOk FloatKind.f64 FloatKind.f32 (can FloatKind.f64 4607182418800017408) then
        bif decide (Int.ofNat k < Int.ofNat m) then
          L (XK.normal) ([A.sl 384 m, A.int IntKind.i64 (IntKind.i64.wrap (Int.ofNat (k0 + k) + Int.ofNat 1)), A.int IntKind.i64 (Int.ofNat 0), A.int IntKind.i64 (IntKind.i64.wrap (Int.ofNat k + Int.ofNat 1))]) ((384,     O.row e 1 m       (Row.cpxs FloatKind.f32         (fun j =>           match decide (j = (Int.ofNat k).toNat) with           | true => fcvt FloatKind.f64 FloatKind.f32 (fofInt FloatKind.f64 (Int.ofNat (k0 + k)))           | false => a j)         fun j =>         match decide (j = (Int.ofNat k).toNat) with         | true => fcvt FloatKind.f64 FloatKind.f32 (can FloatKind.f64 4607182418800017408)         | false => b j)) ::   (384, O.row e 1 m (Row.cpxs FloatKind.f32 a b)) :: M)
        else
          False
      else
        False
    else
      L (XK.exit 0) ([A.sl 384 m, A.int IntKind.i64 (Int.ofNat (k0 + k)), A.int IntKind.i64 (Int.ofNat 0), A.int IntKind.i64 (Int.ofNat k)]) ((384, O.row e 1 m (Row.cpxs FloatKind.f32 a b)) :: M) := by kernel_rfl
noncomputable def JC (e m k0 : Nat) (a b : Nat → Nat) (k : Nat) : O := .row e 1 m (.cpxs .f32 (fun j => match decide (j < k) with | true => cmark (k0 + j) | false => a j) (fun j => match decide (j < k) with | true => cone | false => b j))
noncomputable def FC (ID : Nat) : List A → O → Option (Bool × List A × O)
  | [.sl j m, .int .i64 (.ofNat k0), .int .i64 0, .int .i64 0], .row e 1 m2 (.cpxs .f32 _ _) => some (Nat.beq j ID && Nat.beq m2 m && Nat.ble m 1048577 && Nat.ble k0 1000000000, IM ID m k0 m, .row e 1 m (.cpxs .f32 (fun j => cmark (k0 + j)) (fun _ => cone)))
  | _, _ => none
theorem markHC : ∀ az o az' o', FC 384 az o = some (true, az', o') → ∃ (I : Nat → List A) (J : Nat → O) (N : Nat), az = I 0 ∧ OSim (some o) (J 0) ∧ (∀ k, (J k).isRow = true) ∧ o'.isRow = true ∧ ALe (I N) az' ∧ OSim (some (J N)) o' ∧
      ∀ k, k ≤ N → ∀ lo nx M, ((exec cfgN (fun _ => true) (fun _ => none) 0 1000 (loopOf Try.f37 0) (stM Try.f37.ntmps lo nx [0, 1, 4, 5] (I k) 384 (J k) M)).rm [0, 1, 4, 5]).Ok fun x az mem => match x with
        | .normal => k < N ∧ az = I (k + 1) ∧ SimMem mem 384 M (J (k + 1))
        | .exit i => i = 0 ∧ k = N ∧ az = I N ∧ SimMem mem 384 M (J N)
        | .ret => False := by
  intro az o az' o' hF
  unfold FC at hF
  split at hF
  · rename_i j m k0 e m2 a b
    simp only [Option.some.injEq, Prod.mk.injEq, Bool.and_eq_true, Nat.beq_eq, Nat.ble_eq] at hF
    obtain ⟨⟨⟨⟨hj, hm2⟩, hm⟩, hk0⟩, rfl, rfl⟩ := hF
    subst hj hm2
    refine ⟨IM 384 m2 k0, JC e m2 k0 a b, m2, rfl, ⟨e, _, rfl, .inr rfl, fun i _ => rfl⟩, fun _ => rfl, rfl, ALe.self _, ⟨e, _, rfl, .inr rfl, fun i hi => ?_⟩, fun k hk lo nx M => ?_⟩
    · simp [Row.at, hi]
    · unfold JC
      rw [roundC384]
      by_cases hkm : k < m2
      · refine condT (lt_dec hkm) ?_
        refine condT (by rw [ofInt_ok (by omega), one_ok]; rfl) ?_
        refine condT (lt_dec hkm) ?_
        refine ⟨hkm, ?_, fun j' hj' => ?_, ?_⟩
        · rw [wrap_succ (by omega), wrap_succ (by omega), Nat.add_assoc]; rfl
        · rw [look_cons_other _ _ hj', look_cons_other _ _ hj']
        · rw [look_cons_same]
          refine ⟨e, _, rfl, .inr rfl, fun i hi => cpx_at ?_ ?_⟩
          · by_cases hik : i = k
            · subst hik; simp [cmark]
            · have : (i < k) = (i < k + 1) := by simp; omega
              simp [hik, this]
          · by_cases hik : i = k
            · subst hik; simp [cone]
            · have : (i < k) = (i < k + 1) := by simp; omega
              simp [hik, this]
      · refine condE (ge_dec (by omega)) ?_
        obtain rfl : k = m2 := by omega
        refine ⟨rfl, rfl, rfl, fun j' hj' => ?_, ?_⟩
        · rw [look_cons_other _ _ hj']
        · rw [look_cons_same]
          exact ⟨e, _, rfl, .inr rfl, fun _ _ => rfl⟩
  · cases hF
theorem loopC384 : CodeOK Try.prog (fun _ σ => sumM Try.f37.ntmps [0, 1, 4, 5] 384 (FC 384) σ) (.block 0 (.loop (loopOf Try.f37 0))) :=
  sumM_ok (own := fun _ => true) (lp := fun _ => none) (un := 0) (fuel := 1000) cfgN_ok (lp_none _) markHC
noncomputable def mkI : List (Nat × (St → T)) := [(304, sumM Try.f69.ntmps [0, 1, 4, 5] 304 (FM 304)), (305, sumM Try.f69.ntmps [0, 1, 4, 5] 305 (FM 305)), (306, sumM Try.f69.ntmps [0, 1, 4, 5] 306 (FM 306))]
theorem mkI_ok (p : Nat × (St → T)) (h : p ∈ mkI) : CodeOK Try.prog (fun _ σ => p.2 σ) (.block 0 (.loop (loopOf Try.f69 0))) := by
  simp only [mkI, List.mem_cons, List.not_mem_nil, or_false] at h
  rcases h with rfl | rfl | rfl
  · exact loopM304
  · exact loopM305
  · exact loopM306
noncomputable def lpI : List (Nat × (St → T)) := [(0, sumD 0 mkI)]
theorem lpI_ok : LpOK Try.prog (look lpI) (bodyOf Try.f69) := lp_loops (by kernel_rfl) (by kernel_rfl) fun p hp => by
  rw [List.mem_singleton.1 hp]
  exact sumD_ok mkI_ok
noncomputable def lpC : List (Nat × (St → T)) := [(0, sumM Try.f37.ntmps [0, 1, 4, 5] 384 (FC 384))]
theorem lpC_ok : LpOK Try.prog (look lpC) (bodyOf Try.f37) := lp_loops (by kernel_rfl) (by kernel_rfl) fun p hp => by
  rw [List.mem_singleton.1 hp]
  exact loopC384
noncomputable def markI (σ : St) : T := exec cfgN (fun _ => true) (look lpI) 0 1000 (bodyOf Try.f69) σ
theorem markI_ok : CodeOK Try.prog (fun _ σ => markI σ) (bodyOf Try.f69) := fun σ L hok => codeOK_exec cfgN_ok lpI_ok σ L hok
/-- 'markComplex64S', walked in place. -/
noncomputable def markC (σ : St) : T := match σ.get 0 with
  | .emp => exec cfgN (fun _ => true) (fun _ => none) 1 1000 (bodyOf Try.f37) σ
  | _ => exec cfgN (fun _ => true) (look lpC) 0 1000 (bodyOf Try.f37) σ
theorem markC_ok : CodeOK Try.prog (fun _ σ => markC σ) (bodyOf Try.f37) := by
  intro σ L hok
  replace hok : (markC σ).Ok Try.prog L := hok
  unfold markC at hok
  split at hok
  · exact codeOK_exec cfgN_ok (lp_none _) σ L hok
  · exact codeOK_exec cfgN_ok lpC_ok σ L hok
noncomputable def ftsI : List (Nat × Func) := [(32, Try.f32), (69, Try.f69), (37, Try.f37)]
theorem ftsI_ok (f : Nat) (fn : Func) (h : (f, fn) ∈ ftsI) : Try.prog.funcs[f]? = some fn ∧ (fn.name == "runtime.NumGoroutine") = false := by
  simp only [ftsI, List.mem_cons, Prod.mk.injEq, List.not_mem_nil, or_false] at h
  rcases h with ⟨rfl, rfl⟩ | ⟨rfl, rfl⟩ | ⟨rfl, rfl⟩
  · exact ⟨Try.func32, by kernel_rfl⟩
  · exact ⟨Try.func69, by kernel_rfl⟩
  · exact ⟨Try.func37, by kernel_rfl⟩
noncomputable def fxI : List (Nat × (St → T)) := [(69, markI), (37, markC)]
theorem fxI_ok (g : Nat) (s : St → T) (fn : Func) (body : Code) (h1 : (g, s) ∈ fxI) (h2 : (g, fn) ∈ ftsI) (h3 : fn.body = some body) : CodeOK Try.prog (fun _ σ => s σ) body := by
  simp only [fxI, List.mem_cons, Prod.mk.injEq, List.not_mem_nil, or_false] at h1
  simp only [ftsI, List.mem_cons, Prod.mk.injEq, List.not_mem_nil, or_false] at h2
  rcases h1 with ⟨rfl, rfl⟩ | ⟨rfl, rfl⟩
  · rcases h2 with ⟨h2, _⟩ | ⟨_, rfl⟩ | ⟨h2, _⟩
    · omega
    · have e : bodyOf Try.f69 = body := by unfold bodyOf; rw [h3]
      rw [← e]
      exact markI_ok
    · omega
  · rcases h2 with ⟨h2, _⟩ | ⟨h2, _⟩ | ⟨_, rfl⟩
    · omega
    · omega
    · have e : bodyOf Try.f37 = body := by unfold bodyOf; rw [h3]
      rw [← e]
      exact markC_ok
noncomputable def cfgI (env : List (Nat × (List A → Option (Bool × A)))) : Cfg := mkCfgX tab ftsI xts (look env) fxI
theorem cfgI_ok {env : List (Nat × (List A → Option (Bool × A)))} (h : EnvOK Try.prog (look env)) : CfgOK Try.prog (cfgI env) := cfgX_ok tab_eq ftsI_ok xts_ok h mixed fxI_ok
theorem auto36e : autoN cfg26 1 Try.f36 [.emp, .emp] = some (true, .bool true) := by kernel_rfl
noncomputable def s36e : List A → Option (Bool × A)
  | [.emp, .emp] => some (true, .bool true)
  | ds => s36 ds
theorem s36e_at : EnvAt Try.prog 36 s36e := by
  refine ⟨s36_at.1, fun ds c r h hc => ?_⟩
  unfold s36e at h
  split at h
  · simp only [Option.some.injEq, Prod.mk.injEq] at h
    obtain ⟨rfl, rfl⟩ := h
    exact (autoN_at cfg26_ok (un := 1) Try.func36 (by kernel_rfl) (by kernel_rfl)).2 _ _ _ auto36e rfl
  · exact s36_at.2 _ _ _ h hc
theorem auto38e (k : Int) : autoN cfg26 1 Try.f38 [.emp, .int .i64 k] = some (true, .int .i64 k) := by kernel_rfl
noncomputable def s38e : List A → Option (Bool × A)
  | [.emp, .int .i64 k] => some (true, .int .i64 k)
  | ds => s38 ds
theorem s38e_at : EnvAt Try.prog 38 s38e := by
  refine ⟨s38_at.1, fun ds c r h hc => ?_⟩
  unfold s38e at h
  split at h
  · simp only [Option.some.injEq, Prod.mk.injEq] at h
    obtain ⟨rfl, rfl⟩ := h
    exact (autoN_at cfg26_ok (un := 1) Try.func38 (by kernel_rfl) (by kernel_rfl)).2 _ _ _ (auto38e _) rfl
  · exact s38_at.2 _ _ _ h hc
noncomputable def envImT : List (Nat × (List A → Option (Bool × A))) := (34, s34T) :: (35, s35T) :: (36, s36e) :: (38, s38e) :: (19, auto cfg24 Try.f19) :: env24
noncomputable def envImF : List (Nat × (List A → Option (Bool × A))) := (34, s34F) :: (35, s35F) :: (36, s36e) :: (38, s38e) :: (19, auto cfg24 Try.f19) :: env24
theorem envImT_ok : EnvOK Try.prog (look envImT) := env_cons s34T_at (env_cons s35T_at (env_cons s36e_at (env_cons s38e_at (env_cons (auto_at cfg24_ok Try.func19 (by kernel_rfl) (by kernel_rfl)) env24_ok))))
theorem envImF_ok : EnvOK Try.prog (look envImF) := env_cons s34F_at (env_cons s35F_at (env_cons s36e_at (env_cons s38e_at (env_cons (auto_at cfg24_ok Try.func19 (by kernel_rfl) (by kernel_rfl)) env24_ok))))
theorem imT (n gn cn w : Nat) (r g c : Nat → Nat) : autoLp (cfgI envImT) (fun _ => none) Try.f8 [.agg [.ro 1 n (.flts .f32 r), .ro 1 gn (.flts .f32 g), .ro 1 cn (.flts .f32 c)], .flt .f32 w] =
    some (bif decide (szC n gn cn 1048576 < 0) then true else n.ble 1073741824 && (gn.ble 1073741824 && (cn.ble 1073741824 && true)) && (impOk n gn cn r g c w && (n.ble 1073741824 && (gn.ble 1073741824 && (cn.ble 1073741824 && true)) && (impOk n gn cn r g c w && ((n * n).beq (n * n) && (n * n).ble 4611686018427387000 && allUpTo (sameC (zR n r) (zI n g c w) (zR n r) (zI n g c w)) (n * n) && (n.ble 1073741824 && (gn.ble 1073741824 && (cn.ble 1073741824 && true)) && true && ((n.ble 4611686018427387904 && bif !eqL n n r r then true else gn.ble 4611686018427387904 && bif !eqL gn gn g g then true else cn.ble 4611686018427387904 && bif !eqL cn cn c c then true else true) && bif !bif !eqL n n r r then false else bif !eqL gn gn g g then false else bif !eqL cn cn c c then false else true then true else n.beq n && n.ble 1048577 && true && (gn.beq gn && gn.ble 1048577 && (1 + n).ble 1000000000 && (cn.beq cn && cn.ble 1048577 && (1 + n + gn).ble 1000000000 && (((n * n).beq (n * n) && (n * n).ble 4611686018427387000 && allUpTo (sameC (zR n r) (zI n g c w) (zR n r) (zI n g c w)) (n * n) || false) && ((n * n).beq (n * n) && (n * n).ble 1048577 && true && ((n * n).ble 1048577 && true && allUpTo (fun k => !heldC (fun j => cmark (1 + j)) (fun x => cone) 1 k) (n * n) && bif Int.ofNat (1 + n * n) != Int.ofNat (1 + n * n) then true else n.ble 1073741824 && (gn.ble 1073741824 && (cn.ble 1073741824 && true)) && (impOk n gn cn r g c w && ((n * n).beq (n * n) && (n * n).ble 4611686018427387000 && allUpTo (sameC (zR n r) (zI n g c w) (zR n r) (zI n g c w)) (n * n) && ((n * n).ble 1048577 && true && allUpTo (fun k => !heldC (fun j => cmark (1 + j)) (fun x => cone) 1 k) (n * n) && bif Int.ofNat (1 + n * n) != Int.ofNat (1 + n * n) then true else true)))))))))))))), A.bool (bif decide (szC n gn cn 1048576 < 0) then true else bif !bif !eqL n n r r then false else bif !eqL gn gn g g then false else bif !eqL cn cn c c then false else true then false else bif Int.ofNat (1 + n * n) != Int.ofNat (1 + n * n) then false else bif Int.ofNat (1 + n * n) != Int.ofNat (1 + n * n) then false else true)) := by kernel_rfl
theorem imF (n gn cn w : Nat) (r g c : Nat → Nat) : autoLp (cfgI envImF) (fun _ => none) Try.f8 [.agg [.ro 1 n (.flts .f32 r), .ro 1 gn (.flts .f32 g), .ro 1 cn (.flts .f32 c)], .flt .f32 w] =
    some (bif decide (szC n gn cn 1048576 < 0) then true else n.ble 1073741824 && (gn.ble 1073741824 && (cn.ble 1073741824 && true)) && (!impOk n gn cn r g c w && (n.ble 1073741824 && (gn.ble 1073741824 && (cn.ble 1073741824 && true)) && (!impOk n gn cn r g c w && (n.ble 1073741824 && (gn.ble 1073741824 && (cn.ble 1073741824 && true)) && true && ((n.ble 4611686018427387904 && bif !eqL n n r r then true else gn.ble 4611686018427387904 && bif !eqL gn gn g g then true else cn.ble 4611686018427387904 && bif !eqL cn cn c c then true else true) && bif !bif !eqL n n r r then false else bif !eqL gn gn g g then false else bif !eqL cn cn c c then false else true then true else n.beq n && n.ble 1048577 && true && (gn.beq gn && gn.ble 1048577 && (1 + n).ble 1000000000 && (cn.beq cn && cn.ble 1048577 && (1 + n + gn).ble 1000000000 && (n.ble 1073741824 && (gn.ble 1073741824 && (cn.ble 1073741824 && true)) && (!impOk n gn cn r g c w && true))))))))), A.bool (bif decide (szC n gn cn 1048576 < 0) then true else bif !bif !eqL n n r r then false else bif !eqL gn gn g g then false else bif !eqL cn cn c c then false else true then false else true)) := by kernel_rfl
end Go.Fw.C1

/-
  The law of impedances, closed.
-/
namespace Go.Fw.C1
open Go.Proofs
theorem heldC_mark (k0 m : Nat) : allUpTo (fun k => !heldC (fun j => cmark (k0 + j)) (fun _ => cone) k0 k) m = true := allUpTo_all (fun k => by
  have h1 : forder .f32 (cmark (k0 + k)) (cmark (k0 + k)) = some .eq := forder_self (notNaN_down (notNaN_ofInt _ _))
  have h2 : forder .f32 cone cone = some .eq := forder_self (by decide +kernel)
  show (!!(forder .f32 (cmark (k0 + k)) (cmark (k0 + k)) == some .eq && forder .f32 cone cone == some .eq)) = true
  rw [h1, h2]; rfl) m
theorem sameC_self (a b : Nat → Nat) (m : Nat) : allUpTo (sameC a b a b) m = true := allUpTo_all (fun k => by
  unfold sameC
  rw [sameF_self, sameF_self]; rfl) m
theorem law8 {a b : A} (ha : CircA a) (hb : FltA b) : PureCall Try.prog 8 [a, b] (.bool true) := by
  obtain ⟨n, gn, cn, r, g, c, hs, _, rfl⟩ := ha
  obtain ⟨w, _, rfl⟩ := hb
  have keyT := (auto_at (cfgI_ok envImT_ok) Try.func8 (by kernel_rfl) (by kernel_rfl)).2 _ _ _ (imT n gn cn w r g c)
  have keyF := (auto_at (cfgI_ok envImF_ok) Try.func8 (by kernel_rfl) (by kernel_rfl)).2 _ _ _ (imF n gn cn w r g c)
  rcases szC_le (left := 1048576) (by omega) (by omega) hs.1 hs.2.1 hs.2.2 with e | ⟨e0, e⟩
  · rw [e] at keyF; exact keyF rfl
  have b1 : n ≤ 1048576 := by omega
  have b2 : gn ≤ 1048576 := by omega
  have b3 : cn ≤ 1048576 := by omega
  rw [decide_eq_false (p := szC n gn cn 1048576 < 0) (by omega)] at keyT keyF
  clear e e0
  cases ho : impOk n gn cn r g c w
  · simp only [ho, eqL_self, beq_self_eq_true, Bool.not_true, Bool.not_false, cond_false, cond_true, Bool.and_true, Bool.true_and, Bool.or_false, Nat.beq_refl,
      ble_of (Nat.le_trans b1 (show 1048576 ≤ 1073741824 by omega)), ble_of (Nat.le_trans b2 (show 1048576 ≤ 1073741824 by omega)), ble_of (Nat.le_trans b3 (show 1048576 ≤ 1073741824 by omega)),
      ble_of (Nat.le_trans b1 (show 1048576 ≤ 4611686018427387904 by omega)), ble_of (Nat.le_trans b2 (show 1048576 ≤ 4611686018427387904 by omega)), ble_of (Nat.le_trans b3 (show 1048576 ≤ 4611686018427387904 by omega)),
      ble_of (Nat.le_trans b1 (show 1048576 ≤ 1048577 by omega)), ble_of (Nat.le_trans b2 (show 1048576 ≤ 1048577 by omega)), ble_of (Nat.le_trans b3 (show 1048576 ≤ 1048577 by omega)),
      ble_of (show 1 + n ≤ 1000000000 by omega), ble_of (show 1 + n + gn ≤ 1000000000 by omega)] at keyF
    exact keyF trivial
  · have hv : valid n gn cn r g c = true := by
      unfold impOk at ho
      exact (Bool.and_eq_true_iff.1 ho).1
    obtain ⟨_, h6, _, _⟩ := valid_sizes hv
    have hq := sq_le h6
    simp only [ho, heldC_mark, sameC_self, eqL_self, beq_self_eq_true, bne_self_eq_false, Bool.not_true, Bool.not_false, cond_false, cond_true, Bool.and_true, Bool.true_and, Bool.or_false, Nat.beq_refl,
      ble_of (Nat.le_trans hq (show 36 ≤ 4611686018427387000 by omega)), ble_of (Nat.le_trans hq (show 36 ≤ 1048577 by omega)),
      ble_of (Nat.le_trans b1 (show 1048576 ≤ 1073741824 by omega)), ble_of (Nat.le_trans b2 (show 1048576 ≤ 1073741824 by omega)), ble_of (Nat.le_trans b3 (show 1048576 ≤ 1073741824 by omega)),
      ble_of (Nat.le_trans b1 (show 1048576 ≤ 4611686018427387904 by omega)), ble_of (Nat.le_trans b2 (show 1048576 ≤ 4611686018427387904 by omega)), ble_of (Nat.le_trans b3 (show 1048576 ≤ 4611686018427387904 by omega)),
      ble_of (Nat.le_trans b1 (show 1048576 ≤ 1048577 by omega)), ble_of (Nat.le_trans b2 (show 1048576 ≤ 1048577 by omega)), ble_of (Nat.le_trans b3 (show 1048576 ≤ 1048577 by omega)),
      ble_of (show 1 + n ≤ 1000000000 by omega), ble_of (show 1 + n + gn ≤ 1000000000 by omega)] at keyT
    exact keyT trivial
end Go.Fw.C1

/-
  Tables whose zero circuit's slices are nil.
-/
namespace Go.Fw.C1
open Go.Proofs

noncomputable def cfgD : Cfg := mkCfg (nilTab tab) fts68 xts (look env25)
theorem cfgD_ok : CfgOK Try.prog cfgD := cfgN_ok' tab_eq fts68_ok xts_ok env25_ok mixed
end Go.Fw.C1

/-
  A loop dropped: the reference's rows.
-/
namespace Go.Fw.C1
open Go.Proofs

/-- How many of the first k places are left without place a; which one place p then is. -/
def dn (a k : Nat) : Nat := match Nat.blt a k with | true => k - 1 | false => k
def up (a p : Nat) : Nat := match Nat.blt p a with | true => p | false => p + 1
theorem blt_t {a b : Nat} (h : a < b) : Nat.blt a b = true := by simp [Nat.blt_eq, h]
theorem blt_f {a b : Nat} (h : b ≤ a) : Nat.blt a b = false := by
  cases hb : Nat.blt a b
  · rfl
  · have := blt_lt' hb; omega
theorem dn_skip (a : Nat) : dn a (a + 1) = dn a a := by
  unfold dn
  rw [blt_t (by omega), blt_f (Nat.le_refl a)]; rfl
theorem dn_step {a k : Nat} (h : k ≠ a) : dn a (k + 1) = dn a k + 1 := by
  unfold dn
  rcases Nat.lt_or_ge a k with h1 | h1
  · rw [blt_t (by omega), blt_t h1]; simp only; omega
  · rw [blt_f (by omega), blt_f h1]
theorem dn_end {a n : Nat} (h : a < n) : dn a n = n - 1 := by unfold dn; rw [blt_t h]
theorem dn_le (a k : Nat) : dn a k ≤ k := by unfold dn; split <;> omega
theorem up_dn {a k : Nat} (h : k ≠ a) : up a (dn a k) = k := by
  unfold up dn
  rcases Nat.lt_or_ge a k with h1 | h1
  · rw [blt_t h1]
    show (match Nat.blt (k - 1) a with | true => k - 1 | false => k - 1 + 1) = k
    rw [blt_f (by omega)]
    show k - 1 + 1 = k
    omega
  · rw [blt_f h1]
    show (match Nat.blt k a with | true => k | false => k + 1) = k
    rw [blt_t (by omega)]
def jn (l : Nat) (u v : Nat → Nat) (p : Nat) : Nat := match decide (p < l) with | true => u p | false => v (p - l)
theorem jn_app {l k : Nat} {u v : Nat → Nat} {x p : Nat} (hx : x = v k) (hp : p < l + k + 1) : (match decide (p < l + k) with | true => jn l u v p | false => [x].getD (p - (l + k)) 0) = jn l u v p := by
  by_cases h : p < l + k
  · rw [decide_eq_true h]
  · rw [decide_eq_false h]
    obtain rfl : p = l + k := by omega
    unfold jn
    rw [decide_eq_false (by omega), Nat.sub_self, show l + k - l = k by omega, hx]; rfl
theorem app1 {k : Nat} {u : Nat → Nat} {x p : Nat} (hx : x = u k) (hp : p < k + 1) : (match decide (p < k) with | true => u p | false => [x].getD (p - k) 0) = u p := by
  by_cases h : p < k
  · rw [decide_eq_true h]
  · rw [decide_eq_false h]
    obtain rfl : p = k := by omega
    rw [Nat.sub_self, hx]; rfl
theorem flt_at {k : FloatKind} {f g : Nat → Nat} {p : Nat} (h : f p = g p) : (Row.flts k f : Row A).at p = (Row.flts k g : Row A).at p := by simp only [Row.at, h]
/-- Row k without place a. -/
def cut (a n : Nat) (c : Nat → Nat) (k p : Nat) : Nat := c (k * n + up a p)

noncomputable def I39j (n gn cn k0 d d2 q : Nat) (r g c u v w : Nat → Nat) (i : Int) (k : Nat) : List A := [.int .i64 i, .ptr 0 0, .int .i64 (Int.ofNat n), .int .i64 (Int.ofNat k0), .ptr 304 0, .ptr 16 0, .bool false, .int .i64 (Int.ofNat k)]
noncomputable def J39j (n gn cn k0 d d2 q : Nat) (r g c u v w : Nat → Nat) (i : Int) (k : Nat) : List O := [.var [.sl 352 d, .sl 368 d2, .sl 384 (q + dn i.toNat k)], .row 41 1 d (.flts .f32 u), .row 41 1 d2 (.flts .f32 v), .row 41 1 (q + dn i.toNat k) (.flts .f32 (jn q w (cut i.toNat n c k0))), .var [.ro 1 n (.flts .f32 r), .ro 1 gn (.flts .f32 g), .ro 1 cn (.flts .f32 c)], .var [.nils, .nils, .nils]]
theorem round39j (n gn cn k0 d d2 q : Nat) (r g c u v w : Nat → Nat) (i : Int) (k : Nat) (L : XK → List A → List (Option O) → Prop) :
    ((exec cfgD (fun _ => true) (fun _ => none) 0 1000 (loopOf Try.f39 2) (litSt Try.f39.ntmps 864 [1, 2, 6, 8, 7, 4, 5, 9] [304, 352, 368, 384, 0, 16] (I39j n gn cn k0 d d2 q r g c u v w i k) (J39j n gn cn k0 d d2 q r g c u v w i k))).rt [1, 2, 6, 8, 7, 4, 5, 9] [304, 352, 368, 384, 0, 16]).Ok L =
    bif decide (Int.ofNat k < Int.ofNat n) then
      bif Int.ofNat k != i then
        bif decide (0 ≤ IntKind.i64.wrap (IntKind.i64.wrap (Int.ofNat k0 * Int.ofNat n) + Int.ofNat k)) && decide (IntKind.i64.wrap (IntKind.i64.wrap (Int.ofNat k0 * Int.ofNat n) + Int.ofNat k) < Int.ofNat cn) && true then
          bif decide (q + dn i.toNat k + 1 ≤ 1073741824) then
            L (XK.normal) ([A.int IntKind.i64 i, A.ptr 0 0, A.int IntKind.i64 (Int.ofNat n), A.int IntKind.i64 (Int.ofNat k0), A.ptr 304 0, A.ptr 16 0, A.bool false, A.int IntKind.i64 (IntKind.i64.wrap (Int.ofNat k + Int.ofNat 1))]) ([some (O.var [A.sl 352 d, A.sl 368 d2, A.sl 384 (q + dn i.toNat k + 1)]), some (O.row 41 1 d (Row.flts FloatKind.f32 u)), some (O.row 41 1 d2 (Row.flts FloatKind.f32 v)),   some     (O.row 41 1 (q + dn i.toNat k + 1)       (Row.flts FloatKind.f32 fun j =>         match decide (j < q + dn i.toNat k) with         | true => jn q w (cut i.toNat n c k0) j         | false => [c (IntKind.i64.wrap (IntKind.i64.wrap (Int.ofNat k0 * Int.ofNat n) + Int.ofNat k)).toNat].getD (j - (q + dn i.toNat k)) 0)),   some (O.var [A.ro 1 n (Row.flts FloatKind.f32 r), A.ro 1 gn (Row.flts FloatKind.f32 g), A.ro 1 cn (Row.flts FloatKind.f32 c)]), some (O.var [A.nils, A.nils, A.nils])])
          else
            False
        else
          False
      else
        L (XK.normal) ([A.int IntKind.i64 i, A.ptr 0 0, A.int IntKind.i64 (Int.ofNat n), A.int IntKind.i64 (Int.ofNat k0), A.ptr 304 0, A.ptr 16 0, A.bool false, A.int IntKind.i64 (IntKind.i64.wrap (Int.ofNat k + Int.ofNat 1))]) ([some (O.var [A.sl 352 d, A.sl 368 d2, A.sl 384 (q + dn i.toNat k)]), some (O.row 41 1 d (Row.flts FloatKind.f32 u)), some (O.row 41 1 d2 (Row.flts FloatKind.f32 v)), some (O.row 41 1 (q + dn i.toNat k) (Row.flts FloatKind.f32 fun p => jn q w (cut i.toNat n c k0) p)), some (O.var [A.ro 1 n (Row.flts FloatKind.f32 r), A.ro 1 gn (Row.flts FloatKind.f32 g), A.ro 1 cn (Row.flts FloatKind.f32 c)]), some (O.var [A.nils, A.nils, A.nils])])
    else
      L (XK.exit 2) ([A.int IntKind.i64 i, A.ptr 0 0, A.int IntKind.i64 (Int.ofNat n), A.int IntKind.i64 (Int.ofNat k0), A.ptr 304 0, A.ptr 16 0, A.bool false, A.int IntKind.i64 (Int.ofNat k)]) ([some (O.var [A.sl 352 d, A.sl 368 d2, A.sl 384 (q + dn i.toNat k)]), some (O.row 41 1 d (Row.flts FloatKind.f32 u)), some (O.row 41 1 d2 (Row.flts FloatKind.f32 v)), some (O.row 41 1 (q + dn i.toNat k) (Row.flts FloatKind.f32 fun p => jn q w (cut i.toNat n c k0) p)), some (O.var [A.ro 1 n (Row.flts FloatKind.f32 r), A.ro 1 gn (Row.flts FloatKind.f32 g), A.ro 1 cn (Row.flts FloatKind.f32 c)]), some (O.var [A.nils, A.nils, A.nils])]) := by kernel_rfl
noncomputable def F39j : List A → List (Option O) → Option R3
  | [.int .i64 i, .ptr 0 0, .int .i64 m, .int .i64 (.ofNat k0), .ptr 304 0, .ptr 16 0, .bool false, .int .i64 0], [some (.var [.sl 352 d, .sl 368 d2, .sl 384 q]), some (.row 41 1 d3 (.flts .f32 u)), some (.row 41 1 d4 (.flts .f32 v)), some (.row 41 1 q2 (.flts .f32 w)), some (.var [.ro 1 n (.flts .f32 r), .ro 1 gn (.flts .f32 g), .ro 1 cn (.flts .f32 c)]), some (.var [.nils, .nils, .nils])] => some (.ite (decide (m = Int.ofNat n) && Nat.beq d d3 && Nat.beq d2 d4 && Nat.beq q q2 && Nat.ble q 36 && Nat.ble n 6 && Nat.blt k0 n && Nat.beq cn (n * n) && decide (0 ≤ i)) (.leaf .normal (I39j n gn cn k0 d d2 q r g c u v w i (n)) (J39j n gn cn k0 d d2 q r g c u v w i (n))) .fail)
  | _, _ => none
theorem loop39j : CodeOK Try.prog (fun _ σ => sumAt Try.f39.ntmps 864 [1, 2, 6, 8, 7, 4, 5, 9] [304, 352, 368, 384, 0, 16] F39j σ) (.block 2 (.loop (loopOf Try.f39 2))) := by
  refine block_ok (own := fun _ => true) (lp := (fun _ => none)) (un := 0) (fuel := 1000) cfgD_ok (lp_none _) fun az os R hF hok => ?_
  unfold F39j at hF
  split at hF
  · rename_i i m k0 d d2 q d3 u d4 v q2 w n r gn g cn c
    injection hF with hF
    subst hF
    have hg := hok.guard
    have hg' := hg
    simp only [Bool.and_eq_true, Nat.ble_eq, Nat.beq_eq, decide_eq_true_eq] at hg'
    obtain ⟨⟨⟨⟨⟨⟨⟨⟨rfl, rfl⟩, rfl⟩, rfl⟩, hq⟩, hn⟩, hk0⟩, hcn⟩, hi⟩ := hg'
    have hk0 := blt_lt' hk0
    refine for_fact (ids := [304, 352, 368, 384, 0, 16]) (fun _ => true) (n) (I39j n gn cn k0 d d2 q r g c u v w i) (J39j n gn cn k0 d d2 q r g c u v w i) _ (.ret) (I39j n gn cn k0 d d2 q r g c u v w i) (I39j n gn cn k0 d d2 q r g c u v w i) (I39j n gn cn k0 d d2 q r g c u v w i (n)) (J39j n gn cn k0 d d2 q r g c u v w i (n)) rfl (by unfold J39j; exact ⟨by rw [show dn i.toNat 0 = 0 by unfold dn; rw [blt_f (Nat.zero_le _)]]; rfl, ⟨41, _, rfl, .inr rfl, fun _ _ => rfl⟩, ⟨41, _, rfl, .inr rfl, fun _ _ => rfl⟩, by rw [show dn i.toNat 0 = 0 by unfold dn; rw [blt_f (Nat.zero_le _)]]; exact ⟨41, _, rfl, .inr rfl, fun p hp => flt_at (by unfold jn; rw [decide_eq_true (show p < q from hp)])⟩, rfl, rfl, trivial⟩) (fun _ => rfl) (fun _ => rfl) (fun _ => ALe.self _) (fun _ => rfl) (ALe.self _) (OSims.self _) rfl (fun h => by cases h) (fun k hk L h1 h2 h3 => ?_) fun L hL => ?_
    · rw [round39j]

      by_cases hkm : k < n
      · refine condT (lt_dec hkm) ?_
        have hia : Int.ofNat i.toNat = i := Int.toNat_of_nonneg hi
        have hx := ix_lt hk0 hkm hn
        have hx2 := sq_le hn
        rw [wrap_ix hk0 hkm hn, wrap_succ (by omega)]
        have hd := dn_le i.toNat k
        by_cases hki : k = i.toNat
        · have e2 : dn i.toNat (k + 1) = dn i.toNat k := by rw [hki]; exact dn_skip _
          refine condE (by rw [hki, hia]; simp) ?_
          exact h1 hkm rfl _ (by unfold J39j; rw [e2]; exact OSims.self [_, _, _, _, _, _])
        · refine condT (by simp only [bne_iff_ne, ne_eq]; exact fun h => hki (by rw [← h]; rfl)) ?_
          refine condT (by rw [hcn, dec0, lt_dec hx]; rfl) ?_
          refine condT (decide_eq_true (by omega)) ?_
          exact h1 hkm rfl _ (by
            unfold J39j; rw [dn_step hki, ← Nat.add_assoc]
            exact ⟨rfl, ⟨41, _, rfl, .inr rfl, fun _ _ => rfl⟩, ⟨41, _, rfl, .inr rfl, fun _ _ => rfl⟩, ⟨41, _, rfl, .inr rfl, fun p hp => flt_at (jn_app (by show _ = c (k0 * n + up i.toNat (dn i.toNat k)); rw [up_dn hki]; rfl) hp)⟩, rfl, rfl, trivial⟩)
      · refine condE (ge_dec (by omega)) ?_
        obtain rfl : k = n := by omega
        exact h3 rfl
    · exact ⟨fun _ => hL.1 hg, fun N _ h => by cases h⟩
  · cases hF

end Go.Fw.C1

/-
  A loop dropped: the program's rows.
-/
namespace Go.Fw.C1
open Go.Proofs
noncomputable def I40j (n gn cn k0 d d2 q : Nat) (p1 p2 : Int) (r g c u v w : Nat → Nat) (i : Int) (k : Nat) : List A := [.int .i64 i, .ptr 0 0, .int .i64 p1, .int .i64 p2, .ptr 128 0, .ptr 16 0, .bool false, .int .i64 (Int.ofNat k0), .int .i64 (Int.ofNat n), .int .i64 (Int.ofNat k)]
noncomputable def J40j (n gn cn k0 d d2 q : Nat) (p1 p2 : Int) (r g c u v w : Nat → Nat) (i : Int) (k : Nat) : List O := [.var [.sl 208 d, .sl 224 d2, .sl 240 (q + dn i.toNat k)], .row 41 1 d (.flts .f32 u), .row 41 1 d2 (.flts .f32 v), .row 41 1 (q + dn i.toNat k) (.flts .f32 (jn q w (cut i.toNat n c k0))), .var [.ro 1 n (.flts .f32 r), .ro 1 gn (.flts .f32 g), .ro 1 cn (.flts .f32 c)], .var [.nils, .nils, .nils]]
theorem round40j (n gn cn k0 d d2 q : Nat) (p1 p2 : Int) (r g c u v w : Nat → Nat) (i : Int) (k : Nat) (L : XK → List A → List (Option O) → Prop) :
    ((exec cfgD (fun _ => true) (fun _ => none) 0 1000 (loopOf Try.f40 2) (litSt Try.f40.ntmps 752 [1, 2, 16, 17, 6, 4, 5, 7, 44, 45] [128, 208, 224, 240, 0, 16] (I40j n gn cn k0 d d2 q p1 p2 r g c u v w i k) (J40j n gn cn k0 d d2 q p1 p2 r g c u v w i k))).rt [1, 2, 16, 17, 6, 4, 5, 7, 44, 45] [128, 208, 224, 240, 0, 16]).Ok L =
    bif decide (Int.ofNat k < Int.ofNat n) then
      bif Int.ofNat k != i then
        bif decide (0 ≤ IntKind.i64.wrap (IntKind.i64.wrap (Int.ofNat k0 * Int.ofNat n) + Int.ofNat k)) && decide (IntKind.i64.wrap (IntKind.i64.wrap (Int.ofNat k0 * Int.ofNat n) + Int.ofNat k) < Int.ofNat cn) && true && true then
          bif decide (q + dn i.toNat k + 1 ≤ 1073741824) then
            L (XK.normal) ([A.int IntKind.i64 i, A.ptr 0 0, A.int IntKind.i64 p1, A.int IntKind.i64 p2, A.ptr 128 0, A.ptr 16 0, A.bool false, A.int IntKind.i64 (Int.ofNat k0), A.int IntKind.i64 (Int.ofNat n), A.int IntKind.i64 (IntKind.i64.wrap (Int.ofNat k + Int.ofNat 1))]) ([some (O.var [A.sl 208 d, A.sl 224 d2, A.sl 240 (q + dn i.toNat k + 1)]), some (O.row 41 1 d (Row.flts FloatKind.f32 u)), some (O.row 41 1 d2 (Row.flts FloatKind.f32 v)),   some     (O.row 41 1 (q + dn i.toNat k + 1)       (Row.flts FloatKind.f32 fun j =>         match decide (j < q + dn i.toNat k) with         | true => jn q w (cut i.toNat n c k0) j         | false => [c (IntKind.i64.wrap (IntKind.i64.wrap (Int.ofNat k0 * Int.ofNat n) + Int.ofNat k)).toNat].getD (j - (q + dn i.toNat k)) 0)),   some (O.var [A.ro 1 n (Row.flts FloatKind.f32 r), A.ro 1 gn (Row.flts FloatKind.f32 g), A.ro 1 cn (Row.flts FloatKind.f32 c)]), some (O.var [A.nils, A.nils, A.nils])])
          else
            False
        else
          False
      else
        L (XK.normal) ([A.int IntKind.i64 i, A.ptr 0 0, A.int IntKind.i64 p1, A.int IntKind.i64 p2, A.ptr 128 0, A.ptr 16 0, A.bool false, A.int IntKind.i64 (Int.ofNat k0), A.int IntKind.i64 (Int.ofNat n), A.int IntKind.i64 (IntKind.i64.wrap (Int.ofNat k + Int.ofNat 1))]) ([some (O.var [A.sl 208 d, A.sl 224 d2, A.sl 240 (q + dn i.toNat k)]), some (O.row 41 1 d (Row.flts FloatKind.f32 u)), some (O.row 41 1 d2 (Row.flts FloatKind.f32 v)), some (O.row 41 1 (q + dn i.toNat k) (Row.flts FloatKind.f32 fun p => jn q w (cut i.toNat n c k0) p)), some (O.var [A.ro 1 n (Row.flts FloatKind.f32 r), A.ro 1 gn (Row.flts FloatKind.f32 g), A.ro 1 cn (Row.flts FloatKind.f32 c)]), some (O.var [A.nils, A.nils, A.nils])])
    else
      L (XK.exit 2) ([A.int IntKind.i64 i, A.ptr 0 0, A.int IntKind.i64 p1, A.int IntKind.i64 p2, A.ptr 128 0, A.ptr 16 0, A.bool false, A.int IntKind.i64 (Int.ofNat k0), A.int IntKind.i64 (Int.ofNat n), A.int IntKind.i64 (Int.ofNat k)]) ([some (O.var [A.sl 208 d, A.sl 224 d2, A.sl 240 (q + dn i.toNat k)]), some (O.row 41 1 d (Row.flts FloatKind.f32 u)), some (O.row 41 1 d2 (Row.flts FloatKind.f32 v)), some (O.row 41 1 (q + dn i.toNat k) (Row.flts FloatKind.f32 fun p => jn q w (cut i.toNat n c k0) p)), some (O.var [A.ro 1 n (Row.flts FloatKind.f32 r), A.ro 1 gn (Row.flts FloatKind.f32 g), A.ro 1 cn (Row.flts FloatKind.f32 c)]), some (O.var [A.nils, A.nils, A.nils])]) := by kernel_rfl
noncomputable def F40j : List A → List (Option O) → Option R3
  | [.int .i64 i, .ptr 0 0, .int .i64 p1, .int .i64 p2, .ptr 128 0, .ptr 16 0, .bool false, .int .i64 (.ofNat k0), .int .i64 m, .int .i64 0], [some (.var [.sl 208 d, .sl 224 d2, .sl 240 q]), some (.row 41 1 d3 (.flts .f32 u)), some (.row 41 1 d4 (.flts .f32 v)), some (.row 41 1 q2 (.flts .f32 w)), some (.var [.ro 1 n (.flts .f32 r), .ro 1 gn (.flts .f32 g), .ro 1 cn (.flts .f32 c)]), some (.var [.nils, .nils, .nils])] => some (.ite (decide (m = Int.ofNat n) && Nat.beq d d3 && Nat.beq d2 d4 && Nat.beq q q2 && Nat.ble q 36 && Nat.ble n 6 && Nat.blt k0 n && Nat.beq cn (n * n) && decide (0 ≤ i)) (.leaf .normal (I40j n gn cn k0 d d2 q p1 p2 r g c u v w i (n)) (J40j n gn cn k0 d d2 q p1 p2 r g c u v w i (n))) .fail)
  | _, _ => none
theorem loop40j : CodeOK Try.prog (fun _ σ => sumAt Try.f40.ntmps 752 [1, 2, 16, 17, 6, 4, 5, 7, 44, 45] [128, 208, 224, 240, 0, 16] F40j σ) (.block 2 (.loop (loopOf Try.f40 2))) := by
  refine block_ok (own := fun _ => true) (lp := (fun _ => none)) (un := 0) (fuel := 1000) cfgD_ok (lp_none _) fun az os R hF hok => ?_
  unfold F40j at hF
  split at hF
  · rename_i i p1 p2 k0 m d d2 q d3 u d4 v q2 w n r gn g cn c
    injection hF with hF
    subst hF
    have hg := hok.guard
    have hg' := hg
    simp only [Bool.and_eq_true, Nat.ble_eq, Nat.beq_eq, decide_eq_true_eq] at hg'
    obtain ⟨⟨⟨⟨⟨⟨⟨⟨rfl, rfl⟩, rfl⟩, rfl⟩, hq⟩, hn⟩, hk0⟩, hcn⟩, hi⟩ := hg'
    have hk0 := blt_lt' hk0
    refine for_fact (ids := [128, 208, 224, 240, 0, 16]) (fun _ => true) (n) (I40j n gn cn k0 d d2 q p1 p2 r g c u v w i) (J40j n gn cn k0 d d2 q p1 p2 r g c u v w i) _ (.ret) (I40j n gn cn k0 d d2 q p1 p2 r g c u v w i) (I40j n gn cn k0 d d2 q p1 p2 r g c u v w i) (I40j n gn cn k0 d d2 q p1 p2 r g c u v w i (n)) (J40j n gn cn k0 d d2 q p1 p2 r g c u v w i (n)) rfl (by unfold J40j; exact ⟨by rw [show dn i.toNat 0 = 0 by unfold dn; rw [blt_f (Nat.zero_le _)]]; rfl, ⟨41, _, rfl, .inr rfl, fun _ _ => rfl⟩, ⟨41, _, rfl, .inr rfl, fun _ _ => rfl⟩, by rw [show dn i.toNat 0 = 0 by unfold dn; rw [blt_f (Nat.zero_le _)]]; exact ⟨41, _, rfl, .inr rfl, fun p hp => flt_at (by unfold jn; rw [decide_eq_true (show p < q from hp)])⟩, rfl, rfl, trivial⟩) (fun _ => rfl) (fun _ => rfl) (fun _ => ALe.self _) (fun _ => rfl) (ALe.self _) (OSims.self _) rfl (fun h => by cases h) (fun k hk L h1 h2 h3 => ?_) fun L hL => ?_
    · rw [round40j]

      by_cases hkm : k < n
      · refine condT (lt_dec hkm) ?_
        have hia : Int.ofNat i.toNat = i := Int.toNat_of_nonneg hi
        have hx := ix_lt hk0 hkm hn
        have hx2 := sq_le hn
        rw [wrap_ix hk0 hkm hn, wrap_succ (by omega)]
        have hd := dn_le i.toNat k
        by_cases hki : k = i.toNat
        · have e2 : dn i.toNat (k + 1) = dn i.toNat k := by rw [hki]; exact dn_skip _
          refine condE (by rw [hki, hia]; simp) ?_
          exact h1 hkm rfl _ (by unfold J40j; rw [e2]; exact OSims.self [_, _, _, _, _, _])
        · refine condT (by simp only [bne_iff_ne, ne_eq]; exact fun h => hki (by rw [← h]; rfl)) ?_
          refine condT (by rw [hcn, dec0, lt_dec hx]; rfl) ?_
          refine condT (decide_eq_true (by omega)) ?_
          exact h1 hkm rfl _ (by
            unfold J40j; rw [dn_step hki, ← Nat.add_assoc]
            exact ⟨rfl, ⟨41, _, rfl, .inr rfl, fun _ _ => rfl⟩, ⟨41, _, rfl, .inr rfl, fun _ _ => rfl⟩, ⟨41, _, rfl, .inr rfl, fun p hp => flt_at (jn_app (by show _ = c (k0 * n + up i.toNat (dn i.toNat k)); rw [up_dn hki]; rfl) hp)⟩, rfl, rfl, trivial⟩)
      · refine condE (ge_dec (by omega)) ?_
        obtain rfl : k = n := by omega
        exact h3 rfl
    · exact ⟨fun _ => hL.1 hg, fun N _ h => by cases h⟩
  · cases hF

end Go.Fw.C1

/-
  A loop dropped: the outer loops.
-/
namespace Go.Fw.C1
open Go.Proofs

def dropR (a : Nat) (r : Nat → Nat) (p : Nat) : Nat := r (up a p)
def dropC (a n : Nat) (c : Nat → Nat) (p : Nat) : Nat := c (up a (p / (n - 1)) * n + up a (p % (n - 1)))

theorem dn_zero (a : Nat) : dn a 0 = 0 := by unfold dn; rw [blt_f (Nat.zero_le _)]
theorem dropC_step {a k n : Nat} {c : Nat → Nat} (h : k ≠ a) {p : Nat} (hp : p < dn a k * (n - 1) + (n - 1)) : jn (dn a k * (n - 1)) (dropC a n c) (cut a n c k) p = dropC a n c p := by
  unfold jn
  rcases Nat.lt_or_ge p (dn a k * (n - 1)) with h1 | h1
  · rw [decide_eq_true h1]
  · rw [decide_eq_false (by omega)]
    obtain ⟨s, rfl⟩ : ∃ s, p = dn a k * (n - 1) + s := ⟨p - dn a k * (n - 1), by omega⟩
    have hs : s < n - 1 := by omega
    show cut a n c k (dn a k * (n - 1) + s - dn a k * (n - 1)) = _
    unfold cut dropC
    rw [ix_div hs, ix_mod hs, up_dn h, show dn a k * (n - 1) + s - dn a k * (n - 1) = s by omega]
theorem dn_mul {a k n : Nat} (hk : k ≤ n) (hn : n ≤ 6) : dn a k * (n - 1) ≤ 36 := by
  have h1 := dn_le a k
  have h2 : dn a k * (n - 1) ≤ 6 * 6 := Nat.mul_le_mul (by omega) (by omega)
  omega
noncomputable def lpi39i : List (Nat × (St → T)) := [(2, sumAt Try.f39.ntmps 864 [1, 2, 6, 8, 7, 4, 5, 9] [304, 352, 368, 384, 0, 16] F39j)]
theorem lpi39i_ok : LpOK Try.prog (look lpi39i) (loopOf Try.f39 0) := lp_in (lp_loops (by kernel_rfl) (by kernel_rfl) fun p hp => by
  simp only [lpi39i, List.mem_cons, List.not_mem_nil, or_false] at hp
  rcases hp with rfl
  · exact loop39j) _
noncomputable def I39i (n gn cn : Nat) (r g c : Nat → Nat) (i : Int) (k : Nat) : List A := [.int .i64 i, .ptr 0 0, .int .i64 (Int.ofNat n), .int .i64 (Int.ofNat k), .ptr 304 0, .ptr 16 0, .bool false]
noncomputable def J39i (n gn cn : Nat) (r g c : Nat → Nat) (i : Int) (k : Nat) : List O := [.var [.sl 352 (dn i.toNat k), .sl 368 (dn i.toNat k), .sl 384 (dn i.toNat k * (n - 1))], .row 41 1 (dn i.toNat k) (.flts .f32 (dropR i.toNat r)), .row 41 1 (dn i.toNat k) (.flts .f32 (dropR i.toNat g)), .row 41 1 (dn i.toNat k * (n - 1)) (.flts .f32 (dropC i.toNat n c)), .var [.ro 1 n (.flts .f32 r), .ro 1 gn (.flts .f32 g), .ro 1 cn (.flts .f32 c)], .var [.nils, .nils, .nils]]
theorem round39i (n gn cn : Nat) (r g c : Nat → Nat) (i : Int) (k : Nat) (L : XK → List A → List (Option O) → Prop) :
    ((exec cfgD (fun _ => true) (look lpi39i) 0 1000 (loopOf Try.f39 0) (litSt Try.f39.ntmps 400 [1, 2, 6, 8, 7, 4, 5] [304, 352, 368, 384, 0, 16] (I39i n gn cn r g c i k) (J39i n gn cn r g c i k))).rt [1, 2, 6, 8, 7, 4, 5] [304, 352, 368, 384, 0, 16]).Ok L =
    bif decide (Int.ofNat k < Int.ofNat n) then
      bif Int.ofNat k == i then
        L (XK.normal) ([A.int IntKind.i64 i, A.ptr 0 0, A.int IntKind.i64 (Int.ofNat n), A.int IntKind.i64 (IntKind.i64.wrap (Int.ofNat k + Int.ofNat 1)), A.ptr 304 0, A.ptr 16 0, A.bool false]) ([some (O.var [A.sl 352 (dn i.toNat k), A.sl 368 (dn i.toNat k), A.sl 384 (dn i.toNat k * (n - 1))]), some (O.row 41 1 (dn i.toNat k) (Row.flts FloatKind.f32 fun p => dropR i.toNat r p)), some (O.row 41 1 (dn i.toNat k) (Row.flts FloatKind.f32 fun p => dropR i.toNat g p)), some (O.row 41 1 (dn i.toNat k * (n - 1)) (Row.flts FloatKind.f32 fun p => dropC i.toNat n c p)), some (O.var [A.ro 1 n (Row.flts FloatKind.f32 r), A.ro 1 gn (Row.flts FloatKind.f32 g), A.ro 1 cn (Row.flts FloatKind.f32 c)]), some (O.var [A.nils, A.nils, A.nils])])
      else
        bif decide (Int.ofNat k < Int.ofNat n) && true then
          bif decide (dn i.toNat k + 1 ≤ 1073741824) then
            bif decide (Int.ofNat k < Int.ofNat gn) && true then
              bif decide (dn i.toNat k + 1 ≤ 1073741824) then
                bif decide (Int.ofNat n = Int.ofNat n) && (dn i.toNat k + 1).beq (dn i.toNat k + 1) && (dn i.toNat k + 1).beq (dn i.toNat k + 1) && (dn i.toNat k * (n - 1)).beq (dn i.toNat k * (n - 1)) && (dn i.toNat k * (n - 1)).ble 36 && n.ble 6 && k.blt n && cn.beq (n * n) && decide (0 ≤ i) then
                  L (XK.normal) ([A.int IntKind.i64 i, A.ptr 0 0, A.int IntKind.i64 (Int.ofNat n), A.int IntKind.i64 (IntKind.i64.wrap (Int.ofNat k + Int.ofNat 1)), A.ptr 304 0, A.ptr 16 0, A.bool false]) ([some (O.var [A.sl 352 (dn i.toNat k + 1), A.sl 368 (dn i.toNat k + 1), A.sl 384 (dn i.toNat k * (n - 1) + dn i.toNat n)]),   some     (O.row 41 1 (dn i.toNat k + 1)       (Row.flts FloatKind.f32 fun j =>         match decide (j < dn i.toNat k) with         | true => dropR i.toNat r j         | false => [r k].getD (j - dn i.toNat k) 0)),   some     (O.row 41 1 (dn i.toNat k + 1)       (Row.flts FloatKind.f32 fun j =>         match decide (j < dn i.toNat k) with         | true => dropR i.toNat g j         | false => [g k].getD (j - dn i.toNat k) 0)),   some (O.row 41 1 (dn i.toNat k * (n - 1) + dn i.toNat n) (Row.flts FloatKind.f32 fun p => jn (dn i.toNat k * (n - 1)) (dropC i.toNat n c) (cut i.toNat n c k) p)), some (O.var [A.ro 1 n (Row.flts FloatKind.f32 r), A.ro 1 gn (Row.flts FloatKind.f32 g), A.ro 1 cn (Row.flts FloatKind.f32 c)]), some (O.var [A.nils, A.nils, A.nils])])
                else
                  False
              else
                False
            else
              False
          else
            False
        else
          False
    else
      L (XK.exit 0) ([A.int IntKind.i64 i, A.ptr 0 0, A.int IntKind.i64 (Int.ofNat n), A.int IntKind.i64 (Int.ofNat k), A.ptr 304 0, A.ptr 16 0, A.bool false]) ([some (O.var [A.sl 352 (dn i.toNat k), A.sl 368 (dn i.toNat k), A.sl 384 (dn i.toNat k * (n - 1))]), some (O.row 41 1 (dn i.toNat k) (Row.flts FloatKind.f32 fun p => dropR i.toNat r p)), some (O.row 41 1 (dn i.toNat k) (Row.flts FloatKind.f32 fun p => dropR i.toNat g p)), some (O.row 41 1 (dn i.toNat k * (n - 1)) (Row.flts FloatKind.f32 fun p => dropC i.toNat n c p)), some (O.var [A.ro 1 n (Row.flts FloatKind.f32 r), A.ro 1 gn (Row.flts FloatKind.f32 g), A.ro 1 cn (Row.flts FloatKind.f32 c)]), some (O.var [A.nils, A.nils, A.nils])]) := by kernel_rfl
noncomputable def F39i : List A → List (Option O) → Option R3
  | [.int .i64 i, .ptr 0 0, .int .i64 m, .int .i64 0, .ptr 304 0, .ptr 16 0, .bool false], [some (.var [.sl 352 0, .sl 368 0, .sl 384 0]), some (.row 41 1 0 g1), some (.row 41 1 0 g2), some (.row 41 1 0 g3), some (.var [.ro 1 n (.flts .f32 r), .ro 1 gn (.flts .f32 g), .ro 1 cn (.flts .f32 c)]), some (.var [.nils, .nils, .nils])] => some (.ite (decide (m = Int.ofNat n) && Nat.beq gn n && Nat.ble n 6 && Nat.beq cn (n * n) && decide (0 ≤ i) && Nat.blt i.toNat n) (.leaf .normal (I39i n gn cn r g c i (n)) (J39i n gn cn r g c i (n))) .fail)
  | _, _ => none
theorem loop39i : CodeOK Try.prog (fun _ σ => sumAt Try.f39.ntmps 400 [1, 2, 6, 8, 7, 4, 5] [304, 352, 368, 384, 0, 16] F39i σ) (.block 0 (.loop (loopOf Try.f39 0))) := by
  refine block_ok (own := fun _ => true) (lp := (look lpi39i)) (un := 0) (fuel := 1000) cfgD_ok lpi39i_ok fun az os R hF hok => ?_
  unfold F39i at hF
  split at hF
  · rename_i i m g1 g2 g3 n r gn g cn c
    injection hF with hF
    subst hF
    have hg := hok.guard
    have hg' := hg
    simp only [Bool.and_eq_true, Nat.ble_eq, Nat.beq_eq, decide_eq_true_eq] at hg'
    obtain ⟨⟨⟨⟨⟨rfl, hgn⟩, hn⟩, hcn⟩, hi⟩, hin⟩ := hg'
    have hin := blt_lt' hin
    refine for_fact (ids := [304, 352, 368, 384, 0, 16]) (fun _ => true) (n) (I39i n gn cn r g c i) (J39i n gn cn r g c i) _ (.ret) (I39i n gn cn r g c i) (I39i n gn cn r g c i) (I39i n gn cn r g c i (n)) (J39i n gn cn r g c i (n)) rfl (by unfold J39i; exact by rw [dn_zero, Nat.zero_mul]; exact ⟨rfl, ⟨41, _, rfl, .inr rfl, fun p hp => absurd hp (by omega)⟩, ⟨41, _, rfl, .inr rfl, fun p hp => absurd hp (by omega)⟩, ⟨41, _, rfl, .inr rfl, fun p hp => absurd hp (by omega)⟩, rfl, rfl, trivial⟩) (fun _ => rfl) (fun _ => rfl) (fun _ => ALe.self _) (fun _ => rfl) (ALe.self _) (OSims.self _) rfl (fun h => by cases h) (fun k hk L h1 h2 h3 => ?_) fun L hL => ?_
    · rw [round39i]

      by_cases hkm : k < n
      · refine condT (lt_dec hkm) ?_
        have hia : Int.ofNat i.toNat = i := Int.toNat_of_nonneg hi
        have hd := dn_le i.toNat k
        have hm := dn_mul (a := i.toNat) (k := k) (n := n) (by omega) hn
        rw [wrap_succ (by omega)]
        by_cases hki : k = i.toNat
        · have e2 : dn i.toNat (k + 1) = dn i.toNat k := by rw [hki]; exact dn_skip _
          refine condT (by rw [hki, hia]; simp) ?_
          exact h1 hkm rfl _ (by unfold J39i; rw [e2]; exact OSims.self [_, _, _, _, _, _])
        · refine condE (by simp only [beq_eq_false_iff_ne, ne_eq]; exact fun h => hki (by rw [← h]; rfl)) ?_
          refine condT (by rw [lt_dec hkm]; rfl) ?_
          refine condT (decide_eq_true (by omega)) ?_
          refine condT (by rw [hgn, lt_dec hkm]; rfl) ?_
          refine condT (decide_eq_true (by omega)) ?_
          refine condT (by rw [hcn, Nat.beq_refl, Nat.beq_refl, Nat.beq_refl, ble_of hm, ble_of hn, blt_t hkm, decide_eq_true rfl, decide_eq_true hi]; rfl) ?_
          exact h1 hkm rfl _ (by
            unfold J39i; rw [dn_step hki, Nat.add_mul, Nat.one_mul, dn_end hin]
            exact ⟨rfl, ⟨41, _, rfl, .inr rfl, fun p hp => flt_at (app1 (by show r k = r (up i.toNat (dn i.toNat k)); rw [up_dn hki]) hp)⟩, ⟨41, _, rfl, .inr rfl, fun p hp => flt_at (app1 (by show g k = g (up i.toNat (dn i.toNat k)); rw [up_dn hki]) hp)⟩, ⟨41, _, rfl, .inr rfl, fun p hp => flt_at (dropC_step hki hp)⟩, rfl, rfl, trivial⟩)
      · refine condE (ge_dec (by omega)) ?_
        obtain rfl : k = n := by omega
        exact h3 rfl
    · exact ⟨fun _ => hL.1 hg, fun N _ h => by cases h⟩
  · cases hF

noncomputable def lpi40i : List (Nat × (St → T)) := [(2, sumAt Try.f40.ntmps 752 [1, 2, 16, 17, 6, 4, 5, 7, 44, 45] [128, 208, 224, 240, 0, 16] F40j)]
theorem lpi40i_ok : LpOK Try.prog (look lpi40i) (loopOf Try.f40 0) := lp_in (lp_loops (by kernel_rfl) (by kernel_rfl) fun p hp => by
  simp only [lpi40i, List.mem_cons, List.not_mem_nil, or_false] at hp
  rcases hp with rfl
  · exact loop40j) _
noncomputable def I40i (n gn cn : Nat) (r g c : Nat → Nat) (i : Int) (k : Nat) : List A := [.int .i64 i, .ptr 0 0, .int .i64 (Int.ofNat n), .int .i64 (Int.ofNat k), .ptr 128 0, .ptr 16 0, .bool false]
noncomputable def J40i (n gn cn : Nat) (r g c : Nat → Nat) (i : Int) (k : Nat) : List O := [.var [.sl 208 (dn i.toNat k), .sl 224 (dn i.toNat k), .sl 240 (dn i.toNat k * (n - 1))], .row 41 1 (dn i.toNat k) (.flts .f32 (dropR i.toNat r)), .row 41 1 (dn i.toNat k) (.flts .f32 (dropR i.toNat g)), .row 41 1 (dn i.toNat k * (n - 1)) (.flts .f32 (dropC i.toNat n c)), .var [.ro 1 n (.flts .f32 r), .ro 1 gn (.flts .f32 g), .ro 1 cn (.flts .f32 c)], .var [.nils, .nils, .nils]]
theorem round40i (n gn cn : Nat) (r g c : Nat → Nat) (i : Int) (k : Nat) (L : XK → List A → List (Option O) → Prop) :
    ((exec cfgD (fun _ => true) (look lpi40i) 0 1000 (loopOf Try.f40 0) (litSt Try.f40.ntmps 256 [1, 2, 16, 17, 6, 4, 5] [128, 208, 224, 240, 0, 16] (I40i n gn cn r g c i k) (J40i n gn cn r g c i k))).rt [1, 2, 16, 17, 6, 4, 5] [128, 208, 224, 240, 0, 16]).Ok L =
    bif decide (Int.ofNat k < Int.ofNat n) then
      bif Int.ofNat k == i then
        L (XK.normal) ([A.int IntKind.i64 i, A.ptr 0 0, A.int IntKind.i64 (Int.ofNat n), A.int IntKind.i64 (IntKind.i64.wrap (Int.ofNat k + Int.ofNat 1)), A.ptr 128 0, A.ptr 16 0, A.bool false]) ([some (O.var [A.sl 208 (dn i.toNat k), A.sl 224 (dn i.toNat k), A.sl 240 (dn i.toNat k * (n - 1))]), some (O.row 41 1 (dn i.toNat k) (Row.flts FloatKind.f32 fun p => dropR i.toNat r p)), some (O.row 41 1 (dn i.toNat k) (Row.flts FloatKind.f32 fun p => dropR i.toNat g p)), some (O.row 41 1 (dn i.toNat k * (n - 1)) (Row.flts FloatKind.f32 fun p => dropC i.toNat n c p)), some (O.var [A.ro 1 n (Row.flts FloatKind.f32 r), A.ro 1 gn (Row.flts FloatKind.f32 g), A.ro 1 cn (Row.flts FloatKind.f32 c)]), some (O.var [A.nils, A.nils, A.nils])])
      else
        bif decide (Int.ofNat k < Int.ofNat n) && true then
          bif decide (dn i.toNat k + 1 ≤ 1073741824) then
            bif decide (Int.ofNat k < Int.ofNat gn) && true then
              bif decide (dn i.toNat k + 1 ≤ 1073741824) then
                bif decide (Int.ofNat n = Int.ofNat n) && (dn i.toNat k + 1).beq (dn i.toNat k + 1) && (dn i.toNat k + 1).beq (dn i.toNat k + 1) && (dn i.toNat k * (n - 1)).beq (dn i.toNat k * (n - 1)) && (dn i.toNat k * (n - 1)).ble 36 && n.ble 6 && k.blt n && cn.beq (n * n) && decide (0 ≤ i) then
                  L (XK.normal) ([A.int IntKind.i64 i, A.ptr 0 0, A.int IntKind.i64 (Int.ofNat n), A.int IntKind.i64 (IntKind.i64.wrap (Int.ofNat k + Int.ofNat 1)), A.ptr 128 0, A.ptr 16 0, A.bool false]) ([some (O.var [A.sl 208 (dn i.toNat k + 1), A.sl 224 (dn i.toNat k + 1), A.sl 240 (dn i.toNat k * (n - 1) + dn i.toNat n)]),   some     (O.row 41 1 (dn i.toNat k + 1)       (Row.flts FloatKind.f32 fun j =>         match decide (j < dn i.toNat k) with         | true => dropR i.toNat r j         | false => [r k].getD (j - dn i.toNat k) 0)),   some     (O.row 41 1 (dn i.toNat k + 1)       (Row.flts FloatKind.f32 fun j =>         match decide (j < dn i.toNat k) with         | true => dropR i.toNat g j         | false => [g k].getD (j - dn i.toNat k) 0)),   some (O.row 41 1 (dn i.toNat k * (n - 1) + dn i.toNat n) (Row.flts FloatKind.f32 fun p => jn (dn i.toNat k * (n - 1)) (dropC i.toNat n c) (cut i.toNat n c k) p)), some (O.var [A.ro 1 n (Row.flts FloatKind.f32 r), A.ro 1 gn (Row.flts FloatKind.f32 g), A.ro 1 cn (Row.flts FloatKind.f32 c)]), some (O.var [A.nils, A.nils, A.nils])])
                else
                  False
              else
                False
            else
              False
          else
            False
        else
          False
    else
      L (XK.exit 0) ([A.int IntKind.i64 i, A.ptr 0 0, A.int IntKind.i64 (Int.ofNat n), A.int IntKind.i64 (Int.ofNat k), A.ptr 128 0, A.ptr 16 0, A.bool false]) ([some (O.var [A.sl 208 (dn i.toNat k), A.sl 224 (dn i.toNat k), A.sl 240 (dn i.toNat k * (n - 1))]), some (O.row 41 1 (dn i.toNat k) (Row.flts FloatKind.f32 fun p => dropR i.toNat r p)), some (O.row 41 1 (dn i.toNat k) (Row.flts FloatKind.f32 fun p => dropR i.toNat g p)), some (O.row 41 1 (dn i.toNat k * (n - 1)) (Row.flts FloatKind.f32 fun p => dropC i.toNat n c p)), some (O.var [A.ro 1 n (Row.flts FloatKind.f32 r), A.ro 1 gn (Row.flts FloatKind.f32 g), A.ro 1 cn (Row.flts FloatKind.f32 c)]), some (O.var [A.nils, A.nils, A.nils])]) := by kernel_rfl
noncomputable def F40i : List A → List (Option O) → Option R3
  | [.int .i64 i, .ptr 0 0, .int .i64 m, .int .i64 0, .ptr 128 0, .ptr 16 0, .bool false], [some (.var [.sl 208 0, .sl 224 0, .sl 240 0]), some (.row 41 1 0 g1), some (.row 41 1 0 g2), some (.row 41 1 0 g3), some (.var [.ro 1 n (.flts .f32 r), .ro 1 gn (.flts .f32 g), .ro 1 cn (.flts .f32 c)]), some (.var [.nils, .nils, .nils])] => some (.ite (decide (m = Int.ofNat n) && Nat.beq gn n && Nat.ble n 6 && Nat.beq cn (n * n) && decide (0 ≤ i) && Nat.blt i.toNat n) (.leaf .normal (I40i n gn cn r g c i (n)) (J40i n gn cn r g c i (n))) .fail)
  | _, _ => none
theorem loop40i : CodeOK Try.prog (fun _ σ => sumAt Try.f40.ntmps 256 [1, 2, 16, 17, 6, 4, 5] [128, 208, 224, 240, 0, 16] F40i σ) (.block 0 (.loop (loopOf Try.f40 0))) := by
  refine block_ok (own := fun _ => true) (lp := (look lpi40i)) (un := 0) (fuel := 1000) cfgD_ok lpi40i_ok fun az os R hF hok => ?_
  unfold F40i at hF
  split at hF
  · rename_i i m g1 g2 g3 n r gn g cn c
    injection hF with hF
    subst hF
    have hg := hok.guard
    have hg' := hg
    simp only [Bool.and_eq_true, Nat.ble_eq, Nat.beq_eq, decide_eq_true_eq] at hg'
    obtain ⟨⟨⟨⟨⟨rfl, hgn⟩, hn⟩, hcn⟩, hi⟩, hin⟩ := hg'
    have hin := blt_lt' hin
    refine for_fact (ids := [128, 208, 224, 240, 0, 16]) (fun _ => true) (n) (I40i n gn cn r g c i) (J40i n gn cn r g c i) _ (.ret) (I40i n gn cn r g c i) (I40i n gn cn r g c i) (I40i n gn cn r g c i (n)) (J40i n gn cn r g c i (n)) rfl (by unfold J40i; exact by rw [dn_zero, Nat.zero_mul]; exact ⟨rfl, ⟨41, _, rfl, .inr rfl, fun p hp => absurd hp (by omega)⟩, ⟨41, _, rfl, .inr rfl, fun p hp => absurd hp (by omega)⟩, ⟨41, _, rfl, .inr rfl, fun p hp => absurd hp (by omega)⟩, rfl, rfl, trivial⟩) (fun _ => rfl) (fun _ => rfl) (fun _ => ALe.self _) (fun _ => rfl) (ALe.self _) (OSims.self _) rfl (fun h => by cases h) (fun k hk L h1 h2 h3 => ?_) fun L hL => ?_
    · rw [round40i]

      by_cases hkm : k < n
      · refine condT (lt_dec hkm) ?_
        have hia : Int.ofNat i.toNat = i := Int.toNat_of_nonneg hi
        have hd := dn_le i.toNat k
        have hm := dn_mul (a := i.toNat) (k := k) (n := n) (by omega) hn
        rw [wrap_succ (by omega)]
        by_cases hki : k = i.toNat
        · have e2 : dn i.toNat (k + 1) = dn i.toNat k := by rw [hki]; exact dn_skip _
          refine condT (by rw [hki, hia]; simp) ?_
          exact h1 hkm rfl _ (by unfold J40i; rw [e2]; exact OSims.self [_, _, _, _, _, _])
        · refine condE (by simp only [beq_eq_false_iff_ne, ne_eq]; exact fun h => hki (by rw [← h]; rfl)) ?_
          refine condT (by rw [lt_dec hkm]; rfl) ?_
          refine condT (decide_eq_true (by omega)) ?_
          refine condT (by rw [hgn, lt_dec hkm]; rfl) ?_
          refine condT (decide_eq_true (by omega)) ?_
          refine condT (by rw [hcn, Nat.beq_refl, Nat.beq_refl, Nat.beq_refl, ble_of hm, ble_of hn, blt_t hkm, decide_eq_true rfl, decide_eq_true hi]; rfl) ?_
          exact h1 hkm rfl _ (by
            unfold J40i; rw [dn_step hki, Nat.add_mul, Nat.one_mul, dn_end hin]
            exact ⟨rfl, ⟨41, _, rfl, .inr rfl, fun p hp => flt_at (app1 (by show r k = r (up i.toNat (dn i.toNat k)); rw [up_dn hki]) hp)⟩, ⟨41, _, rfl, .inr rfl, fun p hp => flt_at (app1 (by show g k = g (up i.toNat (dn i.toNat k)); rw [up_dn hki]) hp)⟩, ⟨41, _, rfl, .inr rfl, fun p hp => flt_at (dropC_step hki hp)⟩, rfl, rfl, trivial⟩)
      · refine condE (ge_dec (by omega)) ?_
        obtain rfl : k = n := by omega
        exact h3 rfl
    · exact ⟨fun _ => hL.1 hg, fun N _ h => by cases h⟩
  · cases hF

noncomputable def N39 : St → T := nilW 304 0 41 1 (nilW 304 1 41 1 (nilW 304 2 41 1 (sumAt Try.f39.ntmps 400 [1, 2, 6, 8, 7, 4, 5] [304, 352, 368, 384, 0, 16] F39i)))
theorem loopN39 : CodeOK Try.prog (fun _ σ => N39 σ) (.block 0 (.loop (loopOf Try.f39 0))) := nilW_ok (nilW_ok (nilW_ok loop39i))
noncomputable def N40 : St → T := nilW 128 0 41 1 (nilW 128 1 41 1 (nilW 128 2 41 1 (sumAt Try.f40.ntmps 256 [1, 2, 16, 17, 6, 4, 5] [128, 208, 224, 240, 0, 16] F40i)))
theorem loopN40 : CodeOK Try.prog (fun _ σ => N40 σ) (.block 0 (.loop (loopOf Try.f40 0))) := nilW_ok (nilW_ok (nilW_ok loop40i))

end Go.Fw.C1

/-
  A loop dropped: contracts.
-/
namespace Go.Fw.C1
open Go.Proofs

noncomputable def dropNo (n gn cn : Nat) (r g c : Nat → Nat) (i : Int) : Bool := bif bif !valid n gn cn r g c then true else !inn n i then true else decide (Int.ofNat n < 2)
theorem drop_ok {n gn cn : Nat} {r g c : Nat → Nat} {i : Int} (h : dropNo n gn cn r g c i = false) : valid n gn cn r g c = true ∧ inn n i = true ∧ 0 ≤ i ∧ i.toNat < n ∧ 2 ≤ n ∧ n ≤ 6 ∧ gn = n ∧ cn = n * n := by
  unfold dropNo at h
  cases hv : valid n gn cn r g c
  · rw [hv] at h; cases h
  cases hi : inn n i
  · rw [hv, hi] at h; cases h
  rw [hv, hi] at h
  obtain ⟨h1, h2, h3, h4⟩ := valid_sizes hv
  obtain ⟨a, rfl, ha⟩ := inn_spec h1 h2 hi
  have h5 : ¬ (Int.ofNat n < 2) := of_decide_eq_false h
  exact ⟨rfl, rfl, by simp, ha, by simp at h5; omega, h2, h3, h4⟩
theorem up_lt {a p n : Nat} (h : p < n - 1) : up a p < n := by unfold up; split <;> omega
theorem dropC_at {a n i j : Nat} {c : Nat → Nat} (hj : j < n - 1) : dropC a n c (i * (n - 1) + j) = c (up a i * n + up a j) := by
  unfold dropC; rw [ix_div hj, ix_mod hj]
theorem valid_drop {n gn cn a : Nat} {r g c : Nat → Nat} (hv : valid n gn cn r g c = true) (ha : a < n) (h2 : 2 ≤ n) : valid (dn a n) (dn a n) (dn a n * (n - 1)) (dropR a r) (dropR a g) (dropC a n c) = true := by
  have hs := valid_sizes hv
  rw [dn_end ha]
  unfold valid at hv ⊢
  simp only [Bool.and_eq_true, allUpTo_iff, Bool.not_eq_true'] at hv ⊢
  refine ⟨decide_eq_true ⟨by omega, by omega, rfl, rfl⟩, fun i hi => ?_⟩
  have hu := hv.2 (up a i) (up_lt hi)
  refine ⟨?_, fun j hj => ?_⟩
  · have e : badrow (dropR a r) (dropR a g) (dropC a n c) (n - 1) i = badrow r g c n (up a i) := by
      unfold badrow; rw [dropC_at hi]; rfl
    rw [e]; exact hu.1
  · have e : badsym (dropC a n c) (n - 1) i j = badsym c n (up a i) (up a j) := by
      unfold badsym; rw [dropC_at hj, dropC_at hi]
    rw [e]; exact hu.2 (up a j) (up_lt hj)
theorem valid_drop1 {n a : Nat} {r g c : Nat → Nat} (ha : a < n) (h2 : n < 2) : valid (dn a n) (dn a n) (dn a n * (n - 1)) (dropR a r) (dropR a g) (dropC a n c) = false := by
  rw [dn_end ha]
  unfold valid
  rw [show sizes (n - 1) (n - 1) ((n - 1) * (n - 1)) = false by simp only [sizes]; exact decide_eq_false (by omega)]; rfl
noncomputable def lp39T : List (Nat × (St → T)) := [(0, N39)]
theorem lp39T_ok : LpOK Try.prog (look lp39T) (bodyOf Try.f39) := lp_loops (by kernel_rfl) (by kernel_rfl) fun p hp => by
  simp only [lp39T, List.mem_cons, List.not_mem_nil, or_false] at hp
  rcases hp with rfl
  · exact loopN39
theorem auto39T (n gn cn : Nat) (r g c : Nat → Nat) (i : Int) : autoS cfgD (look lp39T) false Try.f39 [.agg [.ro 1 n (.flts .f32 r), .ro 1 gn (.flts .f32 g), .ro 1 cn (.flts .f32 c)], .int .i64 i] =
    some ((!bif bif !valid n gn cn r g c then true else !bif decide (i ≥ 0) then decide (i ≤ IntKind.i64.wrap (Int.ofNat n - 1)) else false then true else decide (Int.ofNat n < 2)) && (decide (Int.ofNat n = Int.ofNat n) && gn.beq n && n.ble 6 && cn.beq (n * n) && decide (0 ≤ i) && i.toNat.blt n && true), A.tup [A.agg [A.ro 1 (dn i.toNat n) (Row.flts FloatKind.f32 fun p => dropR i.toNat r p), A.ro 1 (dn i.toNat n) (Row.flts FloatKind.f32 fun p => dropR i.toNat g p), A.ro 1 (dn i.toNat n * (n - 1)) (Row.flts FloatKind.f32 fun p => dropC i.toNat n c p)], A.bool true]) := by kernel_rfl
noncomputable def s39T : List A → Option (Bool × A)
  | [.agg [.ro 1 n (.flts .f32 r), .ro 1 gn (.flts .f32 g), .ro 1 cn (.flts .f32 c)], .int .i64 i] => some (!dropNo n gn cn r g c i, .tup [.agg [.ro 1 (dn i.toNat n) (.flts .f32 (dropR i.toNat r)), .ro 1 (dn i.toNat n) (.flts .f32 (dropR i.toNat g)), .ro 1 (dn i.toNat n * (n - 1)) (.flts .f32 (dropC i.toNat n c))], .bool true])
  | _ => none
theorem s39T_at : EnvAt Try.prog 39 s39T := of_autoS cfgD_ok lp39T_ok Try.func39 (by kernel_rfl) (by kernel_rfl) fun ds cc rr h hc => by
  unfold s39T at h
  split at h
  · rename_i n r gn g cn c i
    simp only [Option.some.injEq, Prod.mk.injEq] at h
    obtain ⟨rfl, rfl⟩ := h
    refine auto_fit (auto39T n gn cn r g c i) ?_ ?_
    · rfl
    · obtain ⟨hv, hinn, hi, hin, h2, h6, hgn, hcn⟩ := drop_ok (by simpa using hc)
      show ((!dropNo n gn cn r g c i) && (decide (Int.ofNat n = Int.ofNat n) && gn.beq n && n.ble 6 && cn.beq (n * n) && decide (0 ≤ i) && i.toNat.blt n && true)) = true
      rw [hc, hgn, hcn, Nat.beq_refl, Nat.beq_refl, ble_of h6, blt_t hin, decide_eq_true hi, decide_eq_true rfl]; rfl
  · cases h

theorem auto39F (n gn cn : Nat) (r g c : Nat → Nat) (i : Int) : autoS cfg25 (fun _ => none) true Try.f39 [.agg [.ro 1 n (.flts .f32 r), .ro 1 gn (.flts .f32 g), .ro 1 cn (.flts .f32 c)], .int .i64 i] =
    some ((bif bif !valid n gn cn r g c then true else !bif decide (i ≥ 0) then decide (i ≤ IntKind.i64.wrap (Int.ofNat n - 1)) else false then true else decide (Int.ofNat n < 2)) && true, A.tup [A.agg [A.emp, A.emp, A.emp], A.bool false]) := by kernel_rfl
noncomputable def s39F : List A → Option (Bool × A)
  | [.agg [.ro 1 n (.flts .f32 r), .ro 1 gn (.flts .f32 g), .ro 1 cn (.flts .f32 c)], .int .i64 i] => some (dropNo n gn cn r g c i, .tup [.agg [.emp, .emp, .emp], .bool false])
  | _ => none
theorem s39F_at : EnvAt Try.prog 39 s39F := of_autoS cfg25_ok (lp_none _) Try.func39 (by kernel_rfl) (by kernel_rfl) fun ds cc rr h hc => by
  unfold s39F at h
  split at h
  · rename_i n r gn g cn c i
    simp only [Option.some.injEq, Prod.mk.injEq] at h
    obtain ⟨rfl, rfl⟩ := h
    refine auto_fit (auto39F n gn cn r g c i) ?_ ?_
    · rfl
    · show (dropNo n gn cn r g c i && true) = true
      rw [hc]; rfl
  · cases h

noncomputable def lp40T : List (Nat × (St → T)) := [(0, N40)]
theorem lp40T_ok : LpOK Try.prog (look lp40T) (bodyOf Try.f40) := lp_loops (by kernel_rfl) (by kernel_rfl) fun p hp => by
  simp only [lp40T, List.mem_cons, List.not_mem_nil, or_false] at hp
  rcases hp with rfl
  · exact loopN40
theorem auto40T (n gn cn : Nat) (r g c : Nat → Nat) (i : Int) : autoS cfgD (look lp40T) false Try.f40 [.agg [.ro 1 n (.flts .f32 r), .ro 1 gn (.flts .f32 g), .ro 1 cn (.flts .f32 c)], .int .i64 i] =
    some ((!!bif valid n gn cn r g c then bif decide (i ≥ 0) then decide (i ≤ IntKind.i64.wrap (Int.ofNat n - 1)) else false else false) && (decide (Int.ofNat n = Int.ofNat n) && gn.beq n && n.ble 6 && cn.beq (n * n) && decide (0 ≤ i) && i.toNat.blt n && (!!valid (dn i.toNat n) (dn i.toNat n) (dn i.toNat n * (n - 1)) (dropR i.toNat r) (dropR i.toNat g) (dropC i.toNat n c) && true)), A.tup [A.agg [A.ro 1 (dn i.toNat n) (Row.flts FloatKind.f32 fun p => dropR i.toNat r p), A.ro 1 (dn i.toNat n) (Row.flts FloatKind.f32 fun p => dropR i.toNat g p), A.ro 1 (dn i.toNat n * (n - 1)) (Row.flts FloatKind.f32 fun p => dropC i.toNat n c p)], A.bool true]) := by kernel_rfl
noncomputable def s40T : List A → Option (Bool × A)
  | [.agg [.ro 1 n (.flts .f32 r), .ro 1 gn (.flts .f32 g), .ro 1 cn (.flts .f32 c)], .int .i64 i] => some (!dropNo n gn cn r g c i, .tup [.agg [.ro 1 (dn i.toNat n) (.flts .f32 (dropR i.toNat r)), .ro 1 (dn i.toNat n) (.flts .f32 (dropR i.toNat g)), .ro 1 (dn i.toNat n * (n - 1)) (.flts .f32 (dropC i.toNat n c))], .bool true])
  | _ => none
theorem s40T_at : EnvAt Try.prog 40 s40T := of_autoS cfgD_ok lp40T_ok Try.func40 (by kernel_rfl) (by kernel_rfl) fun ds cc rr h hc => by
  unfold s40T at h
  split at h
  · rename_i n r gn g cn c i
    simp only [Option.some.injEq, Prod.mk.injEq] at h
    obtain ⟨rfl, rfl⟩ := h
    refine auto_fit (auto40T n gn cn r g c i) ?_ ?_
    · rfl
    · obtain ⟨hv, hinn, hi, hin, h2, h6, hgn, hcn⟩ := drop_ok (by simpa using hc)
      show ((!!bif valid n gn cn r g c then inn n i else false) && (decide (Int.ofNat n = Int.ofNat n) && gn.beq n && n.ble 6 && cn.beq (n * n) && decide (0 ≤ i) && i.toNat.blt n && (!!valid (dn i.toNat n) (dn i.toNat n) (dn i.toNat n * (n - 1)) (dropR i.toNat r) (dropR i.toNat g) (dropC i.toNat n c) && true))) = true
      rw [hv, hinn, valid_drop hv hin h2, hgn, hcn, Nat.beq_refl, Nat.beq_refl, ble_of h6, blt_t hin, decide_eq_true hi, decide_eq_true rfl]; rfl
  · cases h

noncomputable def lp40N : List (Nat × (St → T)) := [(0, N40)]
theorem lp40N_ok : LpOK Try.prog (look lp40N) (bodyOf Try.f40) := lp_loops (by kernel_rfl) (by kernel_rfl) fun p hp => by
  simp only [lp40N, List.mem_cons, List.not_mem_nil, or_false] at hp
  rcases hp with rfl
  · exact loopN40
theorem auto40N (n gn cn : Nat) (r g c : Nat → Nat) (i : Int) : autoS cfgD (look lp40N) true Try.f40 [.agg [.ro 1 n (.flts .f32 r), .ro 1 gn (.flts .f32 g), .ro 1 cn (.flts .f32 c)], .int .i64 i] =
    some (bif !bif valid n gn cn r g c then bif decide (i ≥ 0) then decide (i ≤ IntKind.i64.wrap (Int.ofNat n - 1)) else false else false then true else decide (Int.ofNat n = Int.ofNat n) && gn.beq n && n.ble 6 && cn.beq (n * n) && decide (0 ≤ i) && i.toNat.blt n && (!valid (dn i.toNat n) (dn i.toNat n) (dn i.toNat n * (n - 1)) (dropR i.toNat r) (dropR i.toNat g) (dropC i.toNat n c) && true), A.tup [A.agg [A.nils, A.nils, A.nils], A.bool (bif !bif valid n gn cn r g c then bif decide (i ≥ 0) then decide (i ≤ IntKind.i64.wrap (Int.ofNat n - 1)) else false else false then false else false)]) := by kernel_rfl
noncomputable def s40N : List A → Option (Bool × A)
  | [.agg [.ro 1 n (.flts .f32 r), .ro 1 gn (.flts .f32 g), .ro 1 cn (.flts .f32 c)], .int .i64 i] => some (dropNo n gn cn r g c i, .tup [.agg [.nils, .nils, .nils], .bool false])
  | _ => none
theorem s40N_at : EnvAt Try.prog 40 s40N := of_autoS cfgD_ok lp40N_ok Try.func40 (by kernel_rfl) (by kernel_rfl) fun ds cc rr h hc => by
  unfold s40N at h
  split at h
  · rename_i n r gn g cn c i
    simp only [Option.some.injEq, Prod.mk.injEq] at h
    obtain ⟨rfl, rfl⟩ := h
    refine auto_fit (auto40N n gn cn r g c i) ?_ ?_
    · rw [Bool.cond_self]
    · show (bif !bif valid n gn cn r g c then inn n i else false then true else decide (Int.ofNat n = Int.ofNat n) && gn.beq n && n.ble 6 && cn.beq (n * n) && decide (0 ≤ i) && i.toNat.blt n && (!valid (dn i.toNat n) (dn i.toNat n) (dn i.toNat n * (n - 1)) (dropR i.toNat r) (dropR i.toNat g) (dropC i.toNat n c) && true)) = true
      cases hv : valid n gn cn r g c
      · rfl
      · cases hinn : inn n i
        · rfl
        · obtain ⟨h1, h6, hgn, hcn⟩ := valid_sizes hv
          obtain ⟨a, rfl, ha⟩ := inn_spec h1 h6 hinn
          have h2 : n < 2 := by
            unfold dropNo at hc
            rw [hv, hinn] at hc
            have h3 : Int.ofNat n < 2 := of_decide_eq_true hc
            simp at h3; omega
          have e : valid (dn (Int.ofNat a).toNat n) (dn (Int.ofNat a).toNat n) (dn (Int.ofNat a).toNat n * (n - 1)) (dropR (Int.ofNat a).toNat r) (dropR (Int.ofNat a).toNat g) (dropC (Int.ofNat a).toNat n c) = false := valid_drop1 ha h2
          have e2 : (Int.ofNat a).toNat.blt n = true := blt_t ha
          rw [e, e2, hgn, hcn, Nat.beq_refl, Nat.beq_refl, ble_of h6, dec0, decide_eq_true rfl]; rfl
  · cases h

noncomputable def s40F : List A → Option (Bool × A)
  | [.agg [.ro 1 n (.flts .f32 r), .ro 1 gn (.flts .f32 g), .ro 1 cn (.flts .f32 c)], .int .i64 i] => some (dropNo n gn cn r g c i, .tup [.agg [.emp, .emp, .emp], .bool false])
  | _ => none
theorem s40F_at : EnvAt Try.prog 40 s40F := by
  refine ⟨s40N_at.1, fun ds c r h hc => ?_⟩
  unfold s40F at h
  split at h
  · rename_i n r gn g cn cc i
    simp only [Option.some.injEq, Prod.mk.injEq] at h
    obtain ⟨rfl, rfl⟩ := h
    exact (s40N_at.2 [.agg [.ro 1 n (.flts .f32 r), .ro 1 gn (.flts .f32 g), .ro 1 cn (.flts .f32 cc)], .int .i64 i] _ _ rfl hc).emp_of
  · cases h
end Go.Fw.C1

/-
  The law of a loop dropped.
-/
namespace Go.Fw.C1
open Go.Proofs

noncomputable def envDropT : List (Nat × (List A → Option (Bool × A))) := (39, s39T) :: (40, s40T) :: (19, auto cfg24 Try.f19) :: env24
noncomputable def envDropF : List (Nat × (List A → Option (Bool × A))) := (39, s39F) :: (40, s40F) :: (19, auto cfg24 Try.f19) :: env24
theorem envDropT_ok : EnvOK Try.prog (look envDropT) := env_cons s39T_at (env_cons s40T_at (env_cons (auto_at cfg24_ok Try.func19 (by kernel_rfl) (by kernel_rfl)) env24_ok))
theorem envDropF_ok : EnvOK Try.prog (look envDropF) := env_cons s39F_at (env_cons s40F_at (env_cons (auto_at cfg24_ok Try.func19 (by kernel_rfl) (by kernel_rfl)) env24_ok))
theorem dropT (n gn cn : Nat) (r g c : Nat → Nat) (i : Int) : autoLp (cfgM envDropT) (fun _ => none) Try.f9 [.agg [.ro 1 n (.flts .f32 r), .ro 1 gn (.flts .f32 g), .ro 1 cn (.flts .f32 c)], .int .i64 i] =
    some (bif decide (szC n gn cn 1048576 < 0) then true else n.ble 1073741824 && (gn.ble 1073741824 && (cn.ble 1073741824 && true)) && (!dropNo n gn cn r g c i && (n.ble 1073741824 && (gn.ble 1073741824 && (cn.ble 1073741824 && true)) && (!dropNo n gn cn r g c i && (((dn i.toNat n).ble 4611686018427387904 && bif !eqL (dn i.toNat n) (dn i.toNat n) (dropR i.toNat r) (dropR i.toNat r) then true else (dn i.toNat n).ble 4611686018427387904 && bif !eqL (dn i.toNat n) (dn i.toNat n) (dropR i.toNat g) (dropR i.toNat g) then true else (dn i.toNat n * (n - 1)).ble 4611686018427387904 && bif !eqL (dn i.toNat n * (n - 1)) (dn i.toNat n * (n - 1)) (dropC i.toNat n c) (dropC i.toNat n c) then true else true) && bif bif !bif !eqL (dn i.toNat n) (dn i.toNat n) (dropR i.toNat r) (dropR i.toNat r) then false else bif !eqL (dn i.toNat n) (dn i.toNat n) (dropR i.toNat g) (dropR i.toNat g) then false else bif !eqL (dn i.toNat n * (n - 1)) (dn i.toNat n * (n - 1)) (dropC i.toNat n c) (dropC i.toNat n c) then false else true then true else false then true else n.ble 1073741824 && (gn.ble 1073741824 && (cn.ble 1073741824 && true)) && true && ((n.ble 4611686018427387904 && bif !eqL n n r r then true else gn.ble 4611686018427387904 && bif !eqL gn gn g g then true else cn.ble 4611686018427387904 && bif !eqL cn cn c c then true else true) && bif !bif !eqL n n r r then false else bif !eqL gn gn g g then false else bif !eqL cn cn c c then false else true then true else n.beq n && n.ble 1048577 && true && (gn.beq gn && gn.ble 1048577 && (1 + n).ble 1000000000 && (cn.beq cn && cn.ble 1048577 && (1 + n + gn).ble 1000000000 && ((((dn i.toNat n).ble 4611686018427387904 && bif !eqL (dn i.toNat n) (dn i.toNat n) (dropR i.toNat r) (dropR i.toNat r) then true else (dn i.toNat n).ble 4611686018427387904 && bif !eqL (dn i.toNat n) (dn i.toNat n) (dropR i.toNat g) (dropR i.toNat g) then true else (dn i.toNat n * (n - 1)).ble 4611686018427387904 && bif !eqL (dn i.toNat n * (n - 1)) (dn i.toNat n * (n - 1)) (dropC i.toNat n c) (dropC i.toNat n c) then true else true) || false) && bif bif !bif !eqL (dn i.toNat n) (dn i.toNat n) (dropR i.toNat r) (dropR i.toNat r) then false else bif !eqL (dn i.toNat n) (dn i.toNat n) (dropR i.toNat g) (dropR i.toNat g) then false else bif !eqL (dn i.toNat n * (n - 1)) (dn i.toNat n * (n - 1)) (dropC i.toNat n c) (dropC i.toNat n c) then false else true then true else false then true else (dn i.toNat n).beq (dn i.toNat n) && (dn i.toNat n).ble 1048577 && true && ((dn i.toNat n).beq (dn i.toNat n) && (dn i.toNat n).ble 1048577 && (1 + dn i.toNat n).ble 1000000000 && ((dn i.toNat n * (n - 1)).beq (dn i.toNat n * (n - 1)) && (dn i.toNat n * (n - 1)).ble 1048577 && (1 + dn i.toNat n + dn i.toNat n).ble 1000000000 && ((dn i.toNat n).ble 1048577 && true && allUpTo (fun k => !heldAt (markF 1) 1 k) (dn i.toNat n) && ((dn i.toNat n).ble 1048577 && (1 + dn i.toNat n).ble 1000000000 && allUpTo (fun k => !heldAt (markF (1 + dn i.toNat n)) (1 + dn i.toNat n) k) (dn i.toNat n)) && ((dn i.toNat n * (n - 1)).ble 1048577 && (1 + dn i.toNat n + dn i.toNat n).ble 1000000000 && allUpTo (fun k => !heldAt (markF (1 + dn i.toNat n + dn i.toNat n)) (1 + dn i.toNat n + dn i.toNat n) k) (dn i.toNat n * (n - 1))) && bif Int.ofNat (1 + dn i.toNat n + dn i.toNat n + dn i.toNat n * (n - 1)) != Int.ofNat (1 + dn i.toNat n + dn i.toNat n + dn i.toNat n * (n - 1)) then true else n.ble 1073741824 && (gn.ble 1073741824 && (cn.ble 1073741824 && true)) && (!dropNo n gn cn r g c i && (((dn i.toNat n).ble 4611686018427387904 && bif !eqL (dn i.toNat n) (dn i.toNat n) (dropR i.toNat r) (dropR i.toNat r) then true else (dn i.toNat n).ble 4611686018427387904 && bif !eqL (dn i.toNat n) (dn i.toNat n) (dropR i.toNat g) (dropR i.toNat g) then true else (dn i.toNat n * (n - 1)).ble 4611686018427387904 && bif !eqL (dn i.toNat n * (n - 1)) (dn i.toNat n * (n - 1)) (dropC i.toNat n c) (dropC i.toNat n c) then true else true) && bif bif !bif !eqL (dn i.toNat n) (dn i.toNat n) (dropR i.toNat r) (dropR i.toNat r) then false else bif !eqL (dn i.toNat n) (dn i.toNat n) (dropR i.toNat g) (dropR i.toNat g) then false else bif !eqL (dn i.toNat n * (n - 1)) (dn i.toNat n * (n - 1)) (dropC i.toNat n c) (dropC i.toNat n c) then false else true then true else false then true else (dn i.toNat n).ble 1048577 && true && allUpTo (fun k => !heldAt (markF 1) 1 k) (dn i.toNat n) && ((dn i.toNat n).ble 1048577 && (1 + dn i.toNat n).ble 1000000000 && allUpTo (fun k => !heldAt (markF (1 + dn i.toNat n)) (1 + dn i.toNat n) k) (dn i.toNat n)) && ((dn i.toNat n * (n - 1)).ble 1048577 && (1 + dn i.toNat n + dn i.toNat n).ble 1000000000 && allUpTo (fun k => !heldAt (markF (1 + dn i.toNat n + dn i.toNat n)) (1 + dn i.toNat n + dn i.toNat n) k) (dn i.toNat n * (n - 1))) && bif Int.ofNat (1 + dn i.toNat n + dn i.toNat n + dn i.toNat n * (n - 1)) != Int.ofNat (1 + dn i.toNat n + dn i.toNat n + dn i.toNat n * (n - 1)) then true else true))))))))))))), A.bool (bif decide (szC n gn cn 1048576 < 0) then true else bif bif !bif !eqL (dn i.toNat n) (dn i.toNat n) (dropR i.toNat r) (dropR i.toNat r) then false else bif !eqL (dn i.toNat n) (dn i.toNat n) (dropR i.toNat g) (dropR i.toNat g) then false else bif !eqL (dn i.toNat n * (n - 1)) (dn i.toNat n * (n - 1)) (dropC i.toNat n c) (dropC i.toNat n c) then false else true then true else false then false else bif !bif !eqL n n r r then false else bif !eqL gn gn g g then false else bif !eqL cn cn c c then false else true then false else bif bif !bif !eqL (dn i.toNat n) (dn i.toNat n) (dropR i.toNat r) (dropR i.toNat r) then false else bif !eqL (dn i.toNat n) (dn i.toNat n) (dropR i.toNat g) (dropR i.toNat g) then false else bif !eqL (dn i.toNat n * (n - 1)) (dn i.toNat n * (n - 1)) (dropC i.toNat n c) (dropC i.toNat n c) then false else true then true else false then false else bif Int.ofNat (1 + dn i.toNat n + dn i.toNat n + dn i.toNat n * (n - 1)) != Int.ofNat (1 + dn i.toNat n + dn i.toNat n + dn i.toNat n * (n - 1)) then false else bif bif !bif !eqL (dn i.toNat n) (dn i.toNat n) (dropR i.toNat r) (dropR i.toNat r) then false else bif !eqL (dn i.toNat n) (dn i.toNat n) (dropR i.toNat g) (dropR i.toNat g) then false else bif !eqL (dn i.toNat n * (n - 1)) (dn i.toNat n * (n - 1)) (dropC i.toNat n c) (dropC i.toNat n c) then false else true then true else false then false else bif Int.ofNat (1 + dn i.toNat n + dn i.toNat n + dn i.toNat n * (n - 1)) != Int.ofNat (1 + dn i.toNat n + dn i.toNat n + dn i.toNat n * (n - 1)) then false else true)) := by kernel_rfl
theorem dropF (n gn cn : Nat) (r g c : Nat → Nat) (i : Int) : autoLp (cfgM envDropF) (fun _ => none) Try.f9 [.agg [.ro 1 n (.flts .f32 r), .ro 1 gn (.flts .f32 g), .ro 1 cn (.flts .f32 c)], .int .i64 i] =
    some (bif decide (szC n gn cn 1048576 < 0) then true else n.ble 1073741824 && (gn.ble 1073741824 && (cn.ble 1073741824 && true)) && (dropNo n gn cn r g c i && (n.ble 1073741824 && (gn.ble 1073741824 && (cn.ble 1073741824 && true)) && (dropNo n gn cn r g c i && bif bif !true then true else false then true else n.ble 1073741824 && (gn.ble 1073741824 && (cn.ble 1073741824 && true)) && true && ((n.ble 4611686018427387904 && bif !eqL n n r r then true else gn.ble 4611686018427387904 && bif !eqL gn gn g g then true else cn.ble 4611686018427387904 && bif !eqL cn cn c c then true else true) && bif !bif !eqL n n r r then false else bif !eqL gn gn g g then false else bif !eqL cn cn c c then false else true then true else n.beq n && n.ble 1048577 && true && (gn.beq gn && gn.ble 1048577 && (1 + n).ble 1000000000 && (cn.beq cn && cn.ble 1048577 && (1 + n + gn).ble 1000000000 && ((true || false) && bif bif !true then true else false then true else n.ble 1073741824 && (gn.ble 1073741824 && (cn.ble 1073741824 && true)) && (dropNo n gn cn r g c i && bif bif !true then true else false then true else true)))))))), A.bool (bif decide (szC n gn cn 1048576 < 0) then true else bif bif !true then true else false then false else bif !bif !eqL n n r r then false else bif !eqL gn gn g g then false else bif !eqL cn cn c c then false else true then false else bif bif !true then true else false then false else bif bif !true then true else false then false else true)) := by kernel_rfl
theorem law9 {a : A} {i : Int} (ha : CircA a) (_hi : IntA i) : PureCall Try.prog 9 [a, .int .i64 i] (.bool true) := by
  obtain ⟨n, gn, cn, r, g, c, hs, _, rfl⟩ := ha
  have keyT := (auto_at (cfgM_ok envDropT_ok) Try.func9 (by kernel_rfl) (by kernel_rfl)).2 _ _ _ (dropT n gn cn r g c i)
  have keyF := (auto_at (cfgM_ok envDropF_ok) Try.func9 (by kernel_rfl) (by kernel_rfl)).2 _ _ _ (dropF n gn cn r g c i)
  rcases szC_le (left := 1048576) (by omega) (by omega) hs.1 hs.2.1 hs.2.2 with e | ⟨e0, e⟩
  · rw [e] at keyF; exact keyF rfl
  have b1 : n ≤ 1048576 := by omega
  have b2 : gn ≤ 1048576 := by omega
  have b3 : cn ≤ 1048576 := by omega
  rw [decide_eq_false (p := szC n gn cn 1048576 < 0) (by omega)] at keyT keyF
  clear e e0
  cases ho : dropNo n gn cn r g c i
  · obtain ⟨_, _, _, hin, h2, h6, hgn, hcn⟩ := drop_ok ho
    have d1 := dn_le i.toNat n
    have d2 := dn_mul (a := i.toNat) (k := n) (n := n) (Nat.le_refl _) h6
    clear keyF
    simp only [ho, held_mark, eqL_self, beq_self_eq_true, bne_self_eq_false, Bool.cond_self, Bool.not_true, Bool.not_false, cond_false, cond_true, Bool.and_true, Bool.true_and, Bool.or_false, Bool.true_or, Nat.beq_refl, ble_of (show n ≤ 1073741824 by omega), ble_of (show n ≤ 4611686018427387904 by omega), ble_of (show n ≤ 1048577 by omega), ble_of (show gn ≤ 1073741824 by omega), ble_of (show gn ≤ 4611686018427387904 by omega), ble_of (show gn ≤ 1048577 by omega), ble_of (show cn ≤ 1073741824 by omega), ble_of (show cn ≤ 4611686018427387904 by omega), ble_of (show cn ≤ 1048577 by omega), ble_of (show dn i.toNat n ≤ 1073741824 by omega), ble_of (show dn i.toNat n ≤ 4611686018427387904 by omega), ble_of (show dn i.toNat n ≤ 1048577 by omega), ble_of (show dn i.toNat n * (n - 1) ≤ 1073741824 by omega), ble_of (show dn i.toNat n * (n - 1) ≤ 4611686018427387904 by omega), ble_of (show dn i.toNat n * (n - 1) ≤ 1048577 by omega), ble_of (show 1 + n ≤ 1000000000 by omega), ble_of (show 1 + n + gn ≤ 1000000000 by omega), ble_of (show 1 + dn i.toNat n ≤ 1000000000 by omega), ble_of (show 1 + dn i.toNat n + dn i.toNat n ≤ 1000000000 by omega)] at keyT
    exact keyT trivial
  · clear keyT
    simp only [ho, held_mark, eqL_self, beq_self_eq_true, bne_self_eq_false, Bool.cond_self, Bool.not_true, Bool.not_false, cond_false, cond_true, Bool.and_true, Bool.true_and, Bool.or_false, Bool.true_or, Nat.beq_refl, ble_of (show n ≤ 1073741824 by omega), ble_of (show n ≤ 4611686018427387904 by omega), ble_of (show n ≤ 1048577 by omega), ble_of (show gn ≤ 1073741824 by omega), ble_of (show gn ≤ 4611686018427387904 by omega), ble_of (show gn ≤ 1048577 by omega), ble_of (show cn ≤ 1073741824 by omega), ble_of (show cn ≤ 4611686018427387904 by omega), ble_of (show cn ≤ 1048577 by omega), ble_of (show 1 + n ≤ 1000000000 by omega), ble_of (show 1 + n + gn ≤ 1000000000 by omega)] at keyF
    exact keyF trivial
end Go.Fw.C1

/-
  Slices joined: a contract.
-/
namespace Go.Fw.C1
open Go.Proofs
noncomputable def ftsC : List (Nat × Func) := [(94, Try.f94)]
theorem ftsC_ok (f : Nat) (fn : Func) (h : (f, fn) ∈ ftsC) : Try.prog.funcs[f]? = some fn ∧ (fn.name == "runtime.NumGoroutine") = false := by
  simp only [ftsC, List.mem_cons, Prod.mk.injEq, List.not_mem_nil, or_false] at h
  obtain ⟨rfl, rfl⟩ := h
  exact ⟨Try.func94, by kernel_rfl⟩
noncomputable def cfgC : Cfg := mkCfg tab ftsC xts (look [])
theorem cfgC_ok : CfgOK Try.prog cfgC := cfg_ok tab_eq ftsC_ok xts_ok env_nil mixed
def two (n m : Nat) (x y : Nat → Nat) : Row A := .gen fun i => match i with | 0 => .ro 1 n (.flts .f32 x) | _ => .ro 1 m (.flts .f32 y)
/-- What a function gives, its loops run in place, 'un' rounds at most; where two answers have no common form, 'sel' says which to take. -/
def autoNS (cfg : Cfg) (un : Nat) (sel : Bool) (fn : Func) (ds : List A) : Option (Bool × A) :=
  match Nat.ble ds.length fn.ntmps with
  | false => none
  | true => match (exec cfg (fun _ => true) (fun _ => none) un 1000 (bodyOf fn) (St.enter fn ds [] 0)).valS cfg fn sel with
    | some (c, r) => some (c, r)
    | none => none
theorem autoNS_at {P : Program} {cfg : Cfg} (hc : CfgOK P cfg) {f : Nat} {fn : Func} {un : Nat} {sel : Bool} (hf : P.funcs[f]? = some fn) (hb : fn.body.isSome = true) (hn : (fn.name == "runtime.NumGoroutine") = false) : EnvAt P f (autoNS cfg un sel fn) := by
  refine ⟨⟨fn, hf, hb, hn⟩, fun ds c r h hct => ?_⟩
  unfold autoNS at h
  split at h
  · cases h
  · rename_i hle
    split at h
    · rename_i c' r' hv
      simp only [Option.some.injEq, Prod.mk.injEq] at h
      obtain ⟨rfl, rfl⟩ := h
      have hb' : fn.body = some (bodyOf fn) := by
        unfold bodyOf
        cases h : fn.body
        · rw [h] at hb; cases hb
        · rfl
      exact pure_of_tree hc hf hb' (Nat.le_of_ble_eq_true hle) (lp_none _) (T.valS_ok hv hct)
    · cases h
theorem auto79 (n m : Nat) (x y : Nat → Nat) : autoNS cfgC 3 true Try.f79 [.ro 1 2 (two n m x y)] =
    some   (!decide (IntKind.i64.wrap (0 + Int.ofNat n) < 0) && (decide (IntKind.i64.wrap (0 + 1) < Int.ofNat 2) && (decide (0 ≤ IntKind.i64.wrap (0 + 1)) && decide (IntKind.i64.wrap (0 + 1) < Int.ofNat 2) && (!decide (IntKind.i64.wrap (IntKind.i64.wrap (0 + Int.ofNat n) + Int.ofNat m) < 0) && (!decide (IntKind.i64.wrap (IntKind.i64.wrap (0 + 1) + 1) < Int.ofNat 2) && (!decide (IntKind.i64.wrap (IntKind.i64.wrap (0 + Int.ofNat n) + Int.ofNat m) < 0) && (decide (IntKind.i64.wrap (IntKind.i64.wrap (IntKind.i64.wrap (0 + Int.ofNat n) + Int.ofNat m) - IntKind.i64.wrap (0 - 0)) > 0) && (decide (0 < IntKind.i64.wrap (IntKind.i64.wrap (IntKind.i64.wrap (0 + Int.ofNat n) + Int.ofNat m) - IntKind.i64.wrap (0 - 0))) && decide (IntKind.i64.wrap (IntKind.i64.wrap (IntKind.i64.wrap (0 + Int.ofNat n) + Int.ofNat m) - IntKind.i64.wrap (0 - 0)) ≤ 1073741824) && (decide (Int.toNat 0 + n ≤ 1073741824) && (decide (IntKind.i64.wrap (0 + 1) < Int.ofNat 2) && (decide (0 ≤ IntKind.i64.wrap (0 + 1)) && decide (IntKind.i64.wrap (0 + 1) < Int.ofNat 2) && (decide (Int.toNat 0 + n + m ≤ 1073741824) && (!decide (IntKind.i64.wrap (IntKind.i64.wrap (0 + 1) + 1) < Int.ofNat 2) && true)))))))))))),     A.ro 1 (0 + n + m)       (Row.flts FloatKind.f32 fun j =>         match decide (j < Int.toNat 0 + n) with         | true =>           (x (j - 0)         )| false => y (j - (0 + n)))) := by kernel_rfl
theorem PureCall.row_congr {P : Program} {f esz len : Nat} {g g' : Row A} {r : A} (h : PureCall P f [.ro esz len g'] r) (hg : ∀ i, i < len → g i = g' i) : PureCall P f [.ro esz len g] r :=
  fun w vs T hT hs hr => h w vs T hT hs fun i hi => by
    match i, hi with
    | 0, _ => exact RelD.row_congr (hr 0 (Nat.succ_pos 0)) hg
    | i + 1, hi => exact absurd (show i + 1 < 1 from hi) (by omega)
noncomputable def s79 : List A → Option (Bool × A)
  | [.ro 1 2 g] => match g.at 0, g.at 1 with
    | .ro 1 n (.flts .f32 x), .ro 1 m (.flts .f32 y) => some (Nat.ble 1 n && Nat.ble (n + m) 1000, .ro 1 (n + m) (.flts .f32 (jn n x y)))
    | _, _ => none
  | _ => none
theorem s79_at : EnvAt Try.prog 79 s79 := by
  have h0 := autoNS_at (un := 3) (sel := true) cfgC_ok Try.func79 (by kernel_rfl) (by kernel_rfl)
  refine ⟨h0.1, fun ds c r h hc => ?_⟩
  unfold s79 at h
  split at h
  · rename_i g
    split at h
    · rename_i n x m y e0 e1
      simp only [Option.some.injEq, Prod.mk.injEq] at h
      obtain ⟨hcc, rfl⟩ := h
      rw [← hcc] at hc
      simp only [Bool.and_eq_true, Nat.ble_eq] at hc
      obtain ⟨h1, h2⟩ := hc
      refine PureCall.row_congr (g' := two n m x y) ?_ fun i hi => ?_
      · have w1 : IntKind.i64.wrap (0 + Int.ofNat n) = Int.ofNat n := by rw [Int.zero_add]; exact wrap_nat (by omega)
        have w2 : IntKind.i64.wrap (Int.ofNat n + Int.ofNat m) = Int.ofNat (n + m) := wrap_nat (x := n + m) (by omega)
        have w3 : IntKind.i64.wrap (0 - 0) = 0 := by decide +kernel
        have w4 : IntKind.i64.wrap (Int.ofNat (n + m) - 0) = Int.ofNat (n + m) := by rw [Int.sub_zero]; exact wrap_nat (by omega)
        have w5 : IntKind.i64.wrap (0 + 1) = 1 := by decide +kernel
        have w6 : IntKind.i64.wrap (1 + 1) = 2 := by decide +kernel
        have key := h0.2 _ _ _ (auto79 n m x y) (by
          simp only [w1, w2, w3, w4, w5, w6]
          simp
          omega)
        have e : (.ro 1 (0 + n + m) (.flts .f32 fun j => match decide (j < Int.toNat 0 + n) with | true => x (j - 0) | false => y (j - (0 + n))) : A) = .ro 1 (n + m) (.flts .f32 (jn n x y)) := by
          rw [Nat.zero_add]
          congr 2
          funext j
          have h0 : ∀ q r, q = n → r = n → (match decide (j < q) with | true => x j | false => y (j - r)) = jn n x y j := fun q r hq hr => by subst hq; subst hr; rfl
          exact h0 _ _ (by first | rfl | exact Nat.zero_add n) (by first | rfl | exact Nat.zero_add n)
        rw [e] at key
        exact key
      · match i, hi with
        | 0, _ => exact e0
        | 1, _ => exact e1
        | i + 2, hi => exact absurd hi (by omega)
    · cases h
  · cases h
end Go.Fw.C1

/-
  Circuits joined: tables.
-/
namespace Go.Fw.C1
open Go.Proofs
noncomputable def fts64 : List (Nat × Func) := [(64, Try.f64)]
theorem fts64_ok (f : Nat) (fn : Func) (h : (f, fn) ∈ fts64) : Try.prog.funcs[f]? = some fn ∧ (fn.name == "runtime.NumGoroutine") = false := by
  simp only [fts64, List.mem_cons, Prod.mk.injEq, List.not_mem_nil, or_false] at h
  obtain ⟨rfl, rfl⟩ := h
  exact ⟨Try.func64, by kernel_rfl⟩
noncomputable def cfgE : Cfg := mkCfg tab fts64 xts (look env25)
theorem cfgE_ok : CfgOK Try.prog cfgE := cfg_ok tab_eq fts64_ok xts_ok env25_ok mixed
noncomputable def env26j : List (Nat × (List A → Option (Bool × A))) := (79, s79) :: env25
theorem env26j_ok : EnvOK Try.prog (look env26j) := (env_cons s79_at env25_ok)
noncomputable def cfg26j : Cfg := mkCfg tab [] xts (look env26j)
theorem cfg26j_ok : CfgOK Try.prog cfg26j := cfg_ok tab_eq (no_fts _) xts_ok env26j_ok mixed
noncomputable def cfgDJ : Cfg := mkCfg (nilTab tab) fts68 xts (look env26j)
theorem cfgDJ_ok : CfgOK Try.prog cfgDJ := cfgN_ok' tab_eq fts68_ok xts_ok env26j_ok mixed
end Go.Fw.C1

/-
  Circuits joined: the program's rows.
-/
namespace Go.Fw.C1
open Go.Proofs
noncomputable def jv (n m : Nat) (c w : Nat → Nat) (i j : Nat) : Nat := bif decide (i < n) && decide (j < n) then c (i * n + j) else bif decide (n ≤ i) && decide (n ≤ j) then w ((i - n) * m + (j - n)) else can .f32 0
noncomputable def I50j (n gn cn m gm cm i q : Nat) (r g c u v w s1 s2 s3 : Nat → Nat) (k : Nat) : List A := [.ptr 0 0, .ptr 16 0, .int .i64 (Int.ofNat i), .int .i64 (Int.ofNat n), .int .i64 (Int.ofNat (n + m)), .int .i64 (Int.ofNat k), .int .i64 (Int.ofNat i), .int .i64 (Int.ofNat (n + m)), .ptr 400 0, .ptr 32 0, .bool false]
noncomputable def J50j (n gn cn m gm cm i q : Nat) (r g c u v w s1 s2 s3 : Nat → Nat) (k : Nat) : List O := [.var [.sl 272 (n + m), .sl 368 (gn + gm), .sl 528 (q + k)], .row 0 1 (n + m) (.flts .f32 s1), .row 0 1 (gn + gm) (.flts .f32 s2), .row 41 1 (q + k) (.flts .f32 (jn q s3 (jv n m c w i))), .var [.ro 1 n (.flts .f32 r), .ro 1 gn (.flts .f32 g), .ro 1 cn (.flts .f32 c)], .var [.ro 1 m (.flts .f32 u), .ro 1 gm (.flts .f32 v), .ro 1 cm (.flts .f32 w)], .var [.nils, .nils, .nils]]
theorem round50j (n gn cn m gm cm i q : Nat) (r g c u v w s1 s2 s3 : Nat → Nat) (k : Nat) (L : XK → List A → List (Option O) → Prop) :
    ((exec cfgDJ (fun _ => true) (fun _ => none) 0 1000 (loopOf Try.f50 2) (litSt Try.f50.ntmps 640 [2, 3, 8, 7, 41, 42, 37, 36, 6, 4, 5] [400, 272, 368, 528, 0, 16, 32] (I50j n gn cn m gm cm i q r g c u v w s1 s2 s3 k) (J50j n gn cn m gm cm i q r g c u v w s1 s2 s3 k))).rt [2, 3, 8, 7, 41, 42, 37, 36, 6, 4, 5] [400, 272, 368, 528, 0, 16, 32]).Ok L =
    bif decide (Int.ofNat k < Int.ofNat (n + m)) then 
       bif bif decide (Int.ofNat i < Int.ofNat n) then decide (Int.ofNat k < Int.ofNat n) else false then 
         bif decide (0 ≤ IntKind.i64.wrap (IntKind.i64.wrap (Int.ofNat i * Int.ofNat n) + Int.ofNat k)) && decide (IntKind.i64.wrap (IntKind.i64.wrap (Int.ofNat i * Int.ofNat n) + Int.ofNat k) < Int.ofNat cn) && true then 
           bif decide (q + k + 1 ≤ 1073741824) then 
             L (XK.normal) ([A.ptr 0 0, A.ptr 16 0, A.int IntKind.i64 (Int.ofNat i), A.int IntKind.i64 (Int.ofNat n), A.int IntKind.i64 (Int.ofNat (n + m)), A.int IntKind.i64 (IntKind.i64.wrap (Int.ofNat k + Int.ofNat 1)), A.int IntKind.i64 (Int.ofNat i), A.int IntKind.i64 (Int.ofNat (n + m)), A.ptr 400 0, A.ptr 32 0, A.bool false]) ([some (O.var [A.sl 272 (n + m), A.sl 368 (gn + gm), A.sl 528 (q + k + 1)]), some (O.row 0 1 (n + m) (Row.flts FloatKind.f32 s1)), some (O.row 0 1 (gn + gm) (Row.flts FloatKind.f32 s2)),   some     (O.row 41 1 (q + k + 1)       (Row.flts FloatKind.f32 fun j =>         (match decide (j < q + k) with | true => jn q s3 (jv n m c w i) j | false => [c (IntKind.i64.wrap (IntKind.i64.wrap (Int.ofNat i * Int.ofNat n) + Int.ofNat k)).toNat].getD (j - (q + k)) 0))),   some (O.var [A.ro 1 n (Row.flts FloatKind.f32 r), A.ro 1 gn (Row.flts FloatKind.f32 g), A.ro 1 cn (Row.flts FloatKind.f32 c)]), some (O.var [A.ro 1 m (Row.flts FloatKind.f32 u), A.ro 1 gm (Row.flts FloatKind.f32 v), A.ro 1 cm (Row.flts FloatKind.f32 w)]), some (O.var [A.nils, A.nils, A.nils])]) 
           else 
             False 
         else 
           False 
       else 
         bif bif decide (Int.ofNat i ≥ Int.ofNat n) then decide (Int.ofNat k ≥ Int.ofNat n) else false then 
           bif decide (0 ≤ IntKind.i64.wrap (IntKind.i64.wrap (IntKind.i64.wrap (Int.ofNat i - Int.ofNat n) * Int.ofNat m) + IntKind.i64.wrap (Int.ofNat k - Int.ofNat n))) && decide (IntKind.i64.wrap (IntKind.i64.wrap (IntKind.i64.wrap (Int.ofNat i - Int.ofNat n) * Int.ofNat m) + IntKind.i64.wrap (Int.ofNat k - Int.ofNat n)) < Int.ofNat cm) && true then 
             bif decide (q + k + 1 ≤ 1073741824) then 
               L (XK.normal) ([A.ptr 0 0, A.ptr 16 0, A.int IntKind.i64 (Int.ofNat i), A.int IntKind.i64 (Int.ofNat n), A.int IntKind.i64 (Int.ofNat (n + m)), A.int IntKind.i64 (IntKind.i64.wrap (Int.ofNat k + Int.ofNat 1)), A.int IntKind.i64 (Int.ofNat i), A.int IntKind.i64 (Int.ofNat (n + m)), A.ptr 400 0, A.ptr 32 0, A.bool false]) ([some (O.var [A.sl 272 (n + m), A.sl 368 (gn + gm), A.sl 528 (q + k + 1)]), some (O.row 0 1 (n + m) (Row.flts FloatKind.f32 s1)), some (O.row 0 1 (gn + gm) (Row.flts FloatKind.f32 s2)),   some     (O.row 41 1 (q + k + 1)       (Row.flts FloatKind.f32 fun j =>         (match decide (j < q + k) with | true => jn q s3 (jv n m c w i) j | false => [w (IntKind.i64.wrap (IntKind.i64.wrap (IntKind.i64.wrap (Int.ofNat i - Int.ofNat n) * Int.ofNat m) + IntKind.i64.wrap (Int.ofNat k - Int.ofNat n))).toNat].getD (j - (q + k)) 0))),   some (O.var [A.ro 1 n (Row.flts FloatKind.f32 r), A.ro 1 gn (Row.flts FloatKind.f32 g), A.ro 1 cn (Row.flts FloatKind.f32 c)]), some (O.var [A.ro 1 m (Row.flts FloatKind.f32 u), A.ro 1 gm (Row.flts FloatKind.f32 v), A.ro 1 cm (Row.flts FloatKind.f32 w)]), some (O.var [A.nils, A.nils, A.nils])]) 
             else 
               False 
           else 
             False 
         else 
           bif decide (q + k + 1 ≤ 1073741824) then 
             L (XK.normal) ([A.ptr 0 0, A.ptr 16 0, A.int IntKind.i64 (Int.ofNat i), A.int IntKind.i64 (Int.ofNat n), A.int IntKind.i64 (Int.ofNat (n + m)), A.int IntKind.i64 (IntKind.i64.wrap (Int.ofNat k + Int.ofNat 1)), A.int IntKind.i64 (Int.ofNat i), A.int IntKind.i64 (Int.ofNat (n + m)), A.ptr 400 0, A.ptr 32 0, A.bool false]) ([some (O.var [A.sl 272 (n + m), A.sl 368 (gn + gm), A.sl 528 (q + k + 1)]), some (O.row 0 1 (n + m) (Row.flts FloatKind.f32 s1)), some (O.row 0 1 (gn + gm) (Row.flts FloatKind.f32 s2)),   some     (O.row 41 1 (q + k + 1)       (Row.flts FloatKind.f32 fun j =>         (match decide (j < q + k) with | true => jn q s3 (jv n m c w i) j | false => [can FloatKind.f32 0].getD (j - (q + k)) 0))),   some (O.var [A.ro 1 n (Row.flts FloatKind.f32 r), A.ro 1 gn (Row.flts FloatKind.f32 g), A.ro 1 cn (Row.flts FloatKind.f32 c)]), some (O.var [A.ro 1 m (Row.flts FloatKind.f32 u), A.ro 1 gm (Row.flts FloatKind.f32 v), A.ro 1 cm (Row.flts FloatKind.f32 w)]), some (O.var [A.nils, A.nils, A.nils])]) 
           else 
             False 
     else 
       L (XK.exit 2) ([A.ptr 0 0, A.ptr 16 0, A.int IntKind.i64 (Int.ofNat i), A.int IntKind.i64 (Int.ofNat n), A.int IntKind.i64 (Int.ofNat (n + m)), A.int IntKind.i64 (Int.ofNat k), A.int IntKind.i64 (Int.ofNat i), A.int IntKind.i64 (Int.ofNat (n + m)), A.ptr 400 0, A.ptr 32 0, A.bool false]) ([some (O.var [A.sl 272 (n + m), A.sl 368 (gn + gm), A.sl 528 (q + k)]), some (O.row 0 1 (n + m) (Row.flts FloatKind.f32 s1)), some (O.row 0 1 (gn + gm) (Row.flts FloatKind.f32 s2)), some (O.row 41 1 (q + k) (Row.flts FloatKind.f32 fun p => jn q s3 (jv n m c w i) p)), some (O.var [A.ro 1 n (Row.flts FloatKind.f32 r), A.ro 1 gn (Row.flts FloatKind.f32 g), A.ro 1 cn (Row.flts FloatKind.f32 c)]), some (O.var [A.ro 1 m (Row.flts FloatKind.f32 u), A.ro 1 gm (Row.flts FloatKind.f32 v), A.ro 1 cm (Row.flts FloatKind.f32 w)]), some (O.var [A.nils, A.nils, A.nils])]) := by kernel_rfl
noncomputable def F50j : List A → List (Option O) → Option R3
  | [.ptr 0 0, .ptr 16 0, .int .i64 (.ofNat i), .int .i64 n1, .int .i64 m1, .int .i64 0, .int .i64 i2, .int .i64 m2, .ptr 400 0, .ptr 32 0, .bool false], [some (.var [.sl 272 a1, .sl 368 a2, .sl 528 q]), some (.row 0 1 a3 (.flts .f32 s1)), some (.row 0 1 a4 (.flts .f32 s2)), some (.row 41 1 q2 (.flts .f32 s3)), some (.var [.ro 1 n (.flts .f32 r), .ro 1 gn (.flts .f32 g), .ro 1 cn (.flts .f32 c)]), some (.var [.ro 1 m (.flts .f32 u), .ro 1 gm (.flts .f32 v), .ro 1 cm (.flts .f32 w)]), some (.var [.nils, .nils, .nils])] => some (.ite (decide (n1 = Int.ofNat n) && decide (m1 = Int.ofNat (n + m)) && decide (i2 = Int.ofNat i) && decide (m2 = Int.ofNat (n + m)) && Nat.beq a1 (n + m) && Nat.beq a2 (gn + gm) && Nat.beq a3 (n + m) && Nat.beq a4 (gn + gm) && Nat.beq q q2 && Nat.ble q 144 && Nat.ble n 6 && Nat.ble m 6 && Nat.beq cn (n * n) && Nat.beq cm (m * m) && Nat.blt i (n + m)) (.leaf .normal (I50j n gn cn m gm cm i q r g c u v w s1 s2 s3 ((n + m))) (J50j n gn cn m gm cm i q r g c u v w s1 s2 s3 ((n + m)))) .fail)
  | _, _ => none
theorem loop50j : CodeOK Try.prog (fun _ σ => sumAt Try.f50.ntmps 640 [2, 3, 8, 7, 41, 42, 37, 36, 6, 4, 5] [400, 272, 368, 528, 0, 16, 32] F50j σ) (.block 2 (.loop (loopOf Try.f50 2))) := by
  refine block_ok (own := fun _ => true) (lp := (fun _ => none)) (un := 0) (fuel := 1000) cfgDJ_ok (lp_none _) fun az os R hF hok => ?_
  unfold F50j at hF
  split at hF
  · rename_i i n1 m1 i2 m2 a1 a2 q a3 s1 a4 s2 q2 s3 n r gn g cn c m u gm v cm w
    injection hF with hF
    subst hF
    have hg := hok.guard
    have hg' := hg
    simp only [Bool.and_eq_true, Nat.ble_eq, Nat.beq_eq, decide_eq_true_eq] at hg'
    obtain ⟨⟨⟨⟨⟨⟨⟨⟨⟨⟨⟨⟨⟨⟨rfl, rfl⟩, rfl⟩, rfl⟩, rfl⟩, rfl⟩, rfl⟩, rfl⟩, rfl⟩, hq⟩, hn⟩, hm⟩, hcn⟩, hcm⟩, hi⟩ := hg'
    have hi := blt_lt' hi
    refine for_fact (ids := [400, 272, 368, 528, 0, 16, 32]) (fun _ => true) ((n + m)) (I50j n gn cn m gm cm i q r g c u v w s1 s2 s3) (J50j n gn cn m gm cm i q r g c u v w s1 s2 s3) _ (.ret) (I50j n gn cn m gm cm i q r g c u v w s1 s2 s3) (I50j n gn cn m gm cm i q r g c u v w s1 s2 s3) (I50j n gn cn m gm cm i q r g c u v w s1 s2 s3 ((n + m))) (J50j n gn cn m gm cm i q r g c u v w s1 s2 s3 ((n + m))) rfl (by unfold J50j; exact ⟨rfl, ⟨0, _, rfl, .inl rfl, fun _ _ => rfl⟩, ⟨0, _, rfl, .inl rfl, fun _ _ => rfl⟩, ⟨41, _, rfl, .inr rfl, fun p hp => flt_at (by unfold jn; rw [decide_eq_true (show p < q from hp)])⟩, rfl, rfl, rfl, trivial⟩) (fun _ => rfl) (fun _ => rfl) (fun _ => ALe.self _) (fun _ => rfl) (ALe.self _) (OSims.self _) rfl (fun h => by cases h) (fun k hk L h1 h2 h3 => ?_) fun L hL => ?_
    · rw [round50j]

      by_cases hkm : k < (n + m)
      · refine condT (lt_dec hkm) ?_
        rw [wrap_succ (by omega)]
        by_cases hin : i < n
        · by_cases hkn : k < n
          · have hv : c (Int.ofNat (i * n + k)).toNat = jv n m c w i k := by unfold jv; rw [decide_eq_true hin, decide_eq_true hkn]; rfl
            rw [wrap_ix hin hkn hn]
            refine condT (by rw [lt_dec hin, lt_dec hkn]; rfl) ?_
            refine condT (by rw [hcn, dec0, lt_dec (ix_lt hin hkn hn)]; rfl) ?_
            refine condT (decide_eq_true (by omega)) ?_
            exact h1 hkm rfl _ ⟨rfl, ⟨0, _, rfl, .inl rfl, fun _ _ => rfl⟩, ⟨0, _, rfl, .inl rfl, fun _ _ => rfl⟩, ⟨41, _, rfl, .inr rfl, fun p hp => flt_at (jn_app hv hp)⟩, rfl, rfl, rfl, trivial⟩
          · have hv : can .f32 0 = jv n m c w i k := by unfold jv; rw [decide_eq_true hin, decide_eq_false hkn, decide_eq_false (show ¬ n ≤ i by omega)]; rfl
            refine condE (by rw [lt_dec hin, ge_dec (by omega)]; rfl) ?_
            refine condE (by rw [decide_eq_false (p := Int.ofNat i ≥ Int.ofNat n) (by simp; omega)]; rfl) ?_
            refine condT (decide_eq_true (by omega)) ?_
            exact h1 hkm rfl _ ⟨rfl, ⟨0, _, rfl, .inl rfl, fun _ _ => rfl⟩, ⟨0, _, rfl, .inl rfl, fun _ _ => rfl⟩, ⟨41, _, rfl, .inr rfl, fun p hp => flt_at (jn_app hv hp)⟩, rfl, rfl, rfl, trivial⟩
        · refine condE (by rw [ge_dec (by omega)]; rfl) ?_
          by_cases hkn : k < n
          · have hv : can .f32 0 = jv n m c w i k := by unfold jv; rw [decide_eq_false hin, decide_eq_true (show n ≤ i by omega), decide_eq_false (show ¬ n ≤ k by omega)]; rfl
            refine condE (by rw [decide_eq_true (p := Int.ofNat i ≥ Int.ofNat n) (by simp; omega), decide_eq_false (p := Int.ofNat k ≥ Int.ofNat n) (by simp; omega)]; rfl) ?_
            refine condT (decide_eq_true (by omega)) ?_
            exact h1 hkm rfl _ ⟨rfl, ⟨0, _, rfl, .inl rfl, fun _ _ => rfl⟩, ⟨0, _, rfl, .inl rfl, fun _ _ => rfl⟩, ⟨41, _, rfl, .inr rfl, fun p hp => flt_at (jn_app hv hp)⟩, rfl, rfl, rfl, trivial⟩
          · have hv : w (Int.ofNat ((i - n) * m + (k - n))).toNat = jv n m c w i k := by unfold jv; rw [decide_eq_false hin, decide_eq_true (show n ≤ i by omega), decide_eq_true (show n ≤ k by omega)]; rfl
            have e1 : IntKind.i64.wrap (Int.ofNat i - Int.ofNat n) = Int.ofNat (i - n) := by
              rw [show Int.ofNat i - Int.ofNat n = Int.ofNat (i - n) by simp; omega]; exact wrap_nat (by omega)
            have e2 : IntKind.i64.wrap (Int.ofNat k - Int.ofNat n) = Int.ofNat (k - n) := by
              rw [show Int.ofNat k - Int.ofNat n = Int.ofNat (k - n) by simp; omega]; exact wrap_nat (by omega)
            have h2' : i - n < m := by omega
            have h3' : k - n < m := by omega
            rw [e1, e2, wrap_ix h2' h3' hm]
            refine condT (by rw [decide_eq_true (p := Int.ofNat i ≥ Int.ofNat n) (by simp; omega), decide_eq_true (p := Int.ofNat k ≥ Int.ofNat n) (by simp; omega)]; rfl) ?_
            refine condT (by rw [hcm, dec0, lt_dec (ix_lt h2' h3' hm)]; rfl) ?_
            refine condT (decide_eq_true (by omega)) ?_
            exact h1 hkm rfl _ ⟨rfl, ⟨0, _, rfl, .inl rfl, fun _ _ => rfl⟩, ⟨0, _, rfl, .inl rfl, fun _ _ => rfl⟩, ⟨41, _, rfl, .inr rfl, fun p hp => flt_at (jn_app hv hp)⟩, rfl, rfl, rfl, trivial⟩
      · refine condE (ge_dec (by omega)) ?_
        obtain rfl : k = (n + m) := by omega
        exact h3 rfl
    · exact ⟨fun _ => hL.1 hg, fun N _ h => by cases h⟩
  · cases hF

end Go.Fw.C1

/-
  Circuits joined: the program's loops.
-/
namespace Go.Fw.C1
open Go.Proofs
noncomputable def joinC (n m : Nat) (c w : Nat → Nat) (p : Nat) : Nat := jv n m c w (p / (n + m)) (p % (n + m))
theorem joinC_step {n m k p : Nat} {c w : Nat → Nat} (hp : p < k * (n + m) + (n + m)) : jn (k * (n + m)) (joinC n m c w) (jv n m c w k) p = joinC n m c w p := by
  unfold jn
  rcases Nat.lt_or_ge p (k * (n + m)) with h1 | h1
  · rw [decide_eq_true h1]
  · rw [decide_eq_false (by omega)]
    obtain ⟨s, rfl⟩ : ∃ s, p = k * (n + m) + s := ⟨p - k * (n + m), by omega⟩
    have hs : s < n + m := by omega
    show jv n m c w k (k * (n + m) + s - k * (n + m)) = _
    unfold joinC
    rw [ix_div hs, ix_mod hs, show k * (n + m) + s - k * (n + m) = s by omega]
theorem join_le {n m k : Nat} (hn : n ≤ 6) (hm : m ≤ 6) (hk : k ≤ n + m) : k * (n + m) ≤ 144 := Nat.le_trans (Nat.mul_le_mul (show k ≤ 12 by omega) (show n + m ≤ 12 by omega)) (by omega)
noncomputable def lpi50i : List (Nat × (St → T)) := [(2, sumAt Try.f50.ntmps 640 [2, 3, 8, 7, 41, 42, 37, 36, 6, 4, 5] [400, 272, 368, 528, 0, 16, 32] F50j)]
theorem lpi50i_ok : LpOK Try.prog (look lpi50i) (loopOf Try.f50 0) := lp_in (lp_loops (by kernel_rfl) (by kernel_rfl) fun p hp => by
  simp only [lpi50i, List.mem_cons, List.not_mem_nil, or_false] at hp
  rcases hp with rfl
  · exact loop50j) _
noncomputable def I50i (n gn cn m gm cm : Nat) (r g c u v w s1 s2 : Nat → Nat) (k : Nat) : List A := [.ptr 0 0, .ptr 16 0, .int .i64 (Int.ofNat n), .int .i64 (Int.ofNat (n + m)), .int .i64 (Int.ofNat k), .ptr 400 0, .ptr 32 0, .bool false]
noncomputable def J50i (n gn cn m gm cm : Nat) (r g c u v w s1 s2 : Nat → Nat) (k : Nat) : List O := [.var [.sl 272 (n + m), .sl 368 (gn + gm), .sl 528 (k * (n + m))], .row 0 1 (n + m) (.flts .f32 s1), .row 0 1 (gn + gm) (.flts .f32 s2), .row 41 1 (k * (n + m)) (.flts .f32 (joinC n m c w)), .var [.ro 1 n (.flts .f32 r), .ro 1 gn (.flts .f32 g), .ro 1 cn (.flts .f32 c)], .var [.ro 1 m (.flts .f32 u), .ro 1 gm (.flts .f32 v), .ro 1 cm (.flts .f32 w)], .var [.nils, .nils, .nils]]
theorem round50i (n gn cn m gm cm : Nat) (r g c u v w s1 s2 : Nat → Nat) (k : Nat) (L : XK → List A → List (Option O) → Prop) :
    ((exec cfgDJ (fun _ => true) (look lpi50i) 0 1000 (loopOf Try.f50 0) (litSt Try.f50.ntmps 544 [2, 3, 7, 36, 37, 6, 4, 5] [400, 272, 368, 528, 0, 16, 32] (I50i n gn cn m gm cm r g c u v w s1 s2 k) (J50i n gn cn m gm cm r g c u v w s1 s2 k))).rt [2, 3, 7, 36, 37, 6, 4, 5] [400, 272, 368, 528, 0, 16, 32]).Ok L =
    bif decide (Int.ofNat k < Int.ofNat (n + m)) then
      bif decide (Int.ofNat n = Int.ofNat n) && decide (Int.ofNat (n + m) = Int.ofNat (n + m)) && decide (Int.ofNat k = Int.ofNat k) && decide (Int.ofNat (n + m) = Int.ofNat (n + m)) && (n + m).beq (n + m) && (gn + gm).beq (gn + gm) && (n + m).beq (n + m) && (gn + gm).beq (gn + gm) && (k * (n + m)).beq (k * (n + m)) && (k * (n + m)).ble 144 && n.ble 6 && m.ble 6 && cn.beq (n * n) && cm.beq (m * m) && k.blt (n + m) then
        L (XK.normal) ([A.ptr 0 0, A.ptr 16 0, A.int IntKind.i64 (Int.ofNat n), A.int IntKind.i64 (Int.ofNat (n + m)), A.int IntKind.i64 (IntKind.i64.wrap (Int.ofNat k + Int.ofNat 1)), A.ptr 400 0, A.ptr 32 0, A.bool false]) ([some (O.var [A.sl 272 (n + m), A.sl 368 (gn + gm), A.sl 528 (k * (n + m) + (n + m))]), some (O.row 0 1 (n + m) (Row.flts FloatKind.f32 s1)), some (O.row 0 1 (gn + gm) (Row.flts FloatKind.f32 s2)), some (O.row 41 1 (k * (n + m) + (n + m)) (Row.flts FloatKind.f32 fun p => jn (k * (n + m)) (joinC n m c w) (jv n m c w k) p)), some (O.var [A.ro 1 n (Row.flts FloatKind.f32 r), A.ro 1 gn (Row.flts FloatKind.f32 g), A.ro 1 cn (Row.flts FloatKind.f32 c)]), some (O.var [A.ro 1 m (Row.flts FloatKind.f32 u), A.ro 1 gm (Row.flts FloatKind.f32 v), A.ro 1 cm (Row.flts FloatKind.f32 w)]), some (O.var [A.nils, A.nils, A.nils])])
      else
        False
    else
      L (XK.exit 0) ([A.ptr 0 0, A.ptr 16 0, A.int IntKind.i64 (Int.ofNat n), A.int IntKind.i64 (Int.ofNat (n + m)), A.int IntKind.i64 (Int.ofNat k), A.ptr 400 0, A.ptr 32 0, A.bool false]) ([some (O.var [A.sl 272 (n + m), A.sl 368 (gn + gm), A.sl 528 (k * (n + m))]), some (O.row 0 1 (n + m) (Row.flts FloatKind.f32 s1)), some (O.row 0 1 (gn + gm) (Row.flts FloatKind.f32 s2)), some (O.row 41 1 (k * (n + m)) (Row.flts FloatKind.f32 fun p => joinC n m c w p)), some (O.var [A.ro 1 n (Row.flts FloatKind.f32 r), A.ro 1 gn (Row.flts FloatKind.f32 g), A.ro 1 cn (Row.flts FloatKind.f32 c)]), some (O.var [A.ro 1 m (Row.flts FloatKind.f32 u), A.ro 1 gm (Row.flts FloatKind.f32 v), A.ro 1 cm (Row.flts FloatKind.f32 w)]), some (O.var [A.nils, A.nils, A.nils])]) := by kernel_rfl
noncomputable def F50i : List A → List (Option O) → Option R3
  | [.ptr 0 0, .ptr 16 0, .int .i64 n1, .int .i64 m1, .int .i64 0, .ptr 400 0, .ptr 32 0, .bool false], [some (.var [.sl 272 a1, .sl 368 a2, .sl 528 0]), some (.row 0 1 a3 (.flts .f32 s1)), some (.row 0 1 a4 (.flts .f32 s2)), some (.row 41 1 0 g3), some (.var [.ro 1 n (.flts .f32 r), .ro 1 gn (.flts .f32 g), .ro 1 cn (.flts .f32 c)]), some (.var [.ro 1 m (.flts .f32 u), .ro 1 gm (.flts .f32 v), .ro 1 cm (.flts .f32 w)]), some (.var [.nils, .nils, .nils])] => some (.ite (decide (n1 = Int.ofNat n) && decide (m1 = Int.ofNat (n + m)) && Nat.beq a1 (n + m) && Nat.beq a2 (gn + gm) && Nat.beq a3 (n + m) && Nat.beq a4 (gn + gm) && Nat.ble n 6 && Nat.ble m 6 && Nat.beq cn (n * n) && Nat.beq cm (m * m)) (.leaf .normal (I50i n gn cn m gm cm r g c u v w s1 s2 ((n + m))) (J50i n gn cn m gm cm r g c u v w s1 s2 ((n + m)))) .fail)
  | _, _ => none
theorem loop50i : CodeOK Try.prog (fun _ σ => sumAt Try.f50.ntmps 544 [2, 3, 7, 36, 37, 6, 4, 5] [400, 272, 368, 528, 0, 16, 32] F50i σ) (.block 0 (.loop (loopOf Try.f50 0))) := by
  refine block_ok (own := fun _ => true) (lp := (look lpi50i)) (un := 0) (fuel := 1000) cfgDJ_ok lpi50i_ok fun az os R hF hok => ?_
  unfold F50i at hF
  split at hF
  · rename_i n1 m1 a1 a2 a3 s1 a4 s2 g3 n r gn g cn c m u gm v cm w
    injection hF with hF
    subst hF
    have hg := hok.guard
    have hg' := hg
    simp only [Bool.and_eq_true, Nat.ble_eq, Nat.beq_eq, decide_eq_true_eq] at hg'
    obtain ⟨⟨⟨⟨⟨⟨⟨⟨⟨rfl, rfl⟩, rfl⟩, rfl⟩, rfl⟩, rfl⟩, hn⟩, hm⟩, hcn⟩, hcm⟩ := hg'
    refine for_fact (ids := [400, 272, 368, 528, 0, 16, 32]) (fun _ => true) ((n + m)) (I50i n gn cn m gm cm r g c u v w s1 s2) (J50i n gn cn m gm cm r g c u v w s1 s2) _ (.ret) (I50i n gn cn m gm cm r g c u v w s1 s2) (I50i n gn cn m gm cm r g c u v w s1 s2) (I50i n gn cn m gm cm r g c u v w s1 s2 ((n + m))) (J50i n gn cn m gm cm r g c u v w s1 s2 ((n + m))) rfl (by unfold J50i; exact ⟨by rw [Nat.zero_mul]; rfl, ⟨0, _, rfl, .inl rfl, fun _ _ => rfl⟩, ⟨0, _, rfl, .inl rfl, fun _ _ => rfl⟩, by rw [Nat.zero_mul]; exact ⟨41, _, rfl, .inr rfl, fun p hp => absurd hp (by omega)⟩, rfl, rfl, rfl, trivial⟩) (fun _ => rfl) (fun _ => rfl) (fun _ => ALe.self _) (fun _ => rfl) (ALe.self _) (OSims.self _) rfl (fun h => by cases h) (fun k hk L h1 h2 h3 => ?_) fun L hL => ?_
    · rw [round50i]

      by_cases hkm : k < (n + m)
      · refine condT (lt_dec hkm) ?_
        have hq := join_le hn hm (show k ≤ n + m by omega)
        rw [wrap_succ (by omega)]
        refine condT (by (repeat rw [decide_eq_true rfl]); rw [Nat.beq_refl, Nat.beq_refl, Nat.beq_refl, ble_of hq, ble_of hn, ble_of hm, hcn, hcm, Nat.beq_refl, Nat.beq_refl, blt_t hkm]; rfl) ?_
        exact h1 hkm rfl _ (by
          unfold J50i
          rw [Nat.succ_mul]
          exact ⟨rfl, ⟨0, _, rfl, .inl rfl, fun _ _ => rfl⟩, ⟨0, _, rfl, .inl rfl, fun _ _ => rfl⟩, ⟨41, _, rfl, .inr rfl, fun p hp => flt_at (joinC_step hp)⟩, rfl, rfl, rfl, trivial⟩)
      · refine condE (ge_dec (by omega)) ?_
        obtain rfl : k = (n + m) := by omega
        exact h3 rfl
    · exact ⟨fun _ => hL.1 hg, fun N _ h => by cases h⟩
  · cases hF

noncomputable def N50 : St → T := nilW 400 2 41 1 (sumAt Try.f50.ntmps 544 [2, 3, 7, 36, 37, 6, 4, 5] [400, 272, 368, 528, 0, 16, 32] F50i)
theorem loopN50 : CodeOK Try.prog (fun _ σ => N50 σ) (.block 0 (.loop (loopOf Try.f50 0))) := nilW_ok loop50i
end Go.Fw.C1

/-
  Circuits joined: the program.
-/
namespace Go.Fw.C1
open Go.Proofs
theorem joinC_at {n m i j : Nat} {c w : Nat → Nat} (hj : j < n + m) : joinC n m c w (i * (n + m) + j) = jv n m c w i j := by
  unfold joinC; rw [ix_div hj, ix_mod hj]
theorem jv_lo {n m i j : Nat} {c w : Nat → Nat} (hi : i < n) (hj : j < n) : jv n m c w i j = c (i * n + j) := by
  unfold jv; rw [decide_eq_true hi, decide_eq_true hj]; rfl
theorem jv_hi {n m i j : Nat} {c w : Nat → Nat} (hi : n ≤ i) (hj : n ≤ j) : jv n m c w i j = w ((i - n) * m + (j - n)) := by
  unfold jv; rw [decide_eq_false (show ¬ i < n by omega), decide_eq_true hi, decide_eq_true hj]; rfl
theorem jv_mix {n m i j : Nat} {c w : Nat → Nat} (h : (i < n ∧ n ≤ j) ∨ (n ≤ i ∧ j < n)) : jv n m c w i j = can .f32 0 := by
  unfold jv
  rcases h with ⟨h1, h2⟩ | ⟨h1, h2⟩
  · rw [decide_eq_true h1, decide_eq_false (show ¬ j < n by omega), decide_eq_false (show ¬ n ≤ i by omega)]; rfl
  · rw [decide_eq_false (show ¬ i < n by omega), decide_eq_true h1, decide_eq_false (show ¬ n ≤ j by omega)]; rfl
theorem jn_lo {n p : Nat} {r u : Nat → Nat} (h : p < n) : jn n r u p = r p := by unfold jn; rw [decide_eq_true h]
theorem jn_hi {n p : Nat} {r u : Nat → Nat} (h : n ≤ p) : jn n r u p = u (p - n) := by unfold jn; rw [decide_eq_false (by omega)]
theorem valid_join {n gn cn m gm cm : Nat} {r g c u v w : Nat → Nat} (ha : valid n gn cn r g c = true) (hb : valid m gm cm u v w = true) (h6 : n + m ≤ 6) : valid (n + m) (gn + gm) ((n + m) * (n + m)) (jn n r u) (jn gn g v) (joinC n m c w) = true := by
  obtain ⟨a1, a2, a3, a4⟩ := valid_sizes ha
  obtain ⟨b1, b2, b3, b4⟩ := valid_sizes hb
  unfold valid at ha hb ⊢
  simp only [Bool.and_eq_true, allUpTo_iff, Bool.not_eq_true'] at ha hb ⊢
  subst a3 b3
  refine ⟨decide_eq_true ⟨by omega, by omega, rfl, rfl⟩, fun i hi => ?_⟩
  by_cases hin : i < gn
  · have hu := ha.2 i hin
    refine ⟨?_, fun j hj => ?_⟩
    · have e : badrow (jn gn r u) (jn gn g v) (joinC gn gm c w) (gn + gm) i = badrow r g c gn i := by
        unfold badrow; rw [joinC_at hi, jv_lo hin hin, jn_lo hin, jn_lo hin]
      rw [e]; exact hu.1
    · by_cases hjn : j < gn
      · have e : badsym (joinC gn gm c w) (gn + gm) i j = badsym c gn i j := by
          unfold badsym; rw [joinC_at hj, joinC_at hi, jv_lo hin hjn, jv_lo hjn hin]
        rw [e]; exact hu.2 j hjn
      · unfold badsym
        rw [joinC_at hj, joinC_at hi, jv_mix (.inl ⟨hin, by omega⟩), jv_mix (.inr ⟨by omega, hin⟩)]
        decide +kernel
  · have hin' : i - gn < gm := by omega
    have hu := hb.2 (i - gn) hin'
    refine ⟨?_, fun j hj => ?_⟩
    · have e : badrow (jn gn r u) (jn gn g v) (joinC gn gm c w) (gn + gm) i = badrow u v w gm (i - gn) := by
        unfold badrow; rw [joinC_at hi, jv_hi (by omega) (by omega), jn_hi (by omega), jn_hi (by omega)]
      rw [e]; exact hu.1
    · by_cases hjn : j < gn
      · unfold badsym
        rw [joinC_at hj, joinC_at hi, jv_mix (.inr ⟨by omega, hjn⟩), jv_mix (.inl ⟨hjn, by omega⟩)]
        decide +kernel
      · have e : badsym (joinC gn gm c w) (gn + gm) i j = badsym w gm (i - gn) (j - gn) := by
          unfold badsym; rw [joinC_at hj, joinC_at hi, jv_hi (by omega) (by omega), jv_hi (by omega) (by omega)]
        rw [e]; exact hu.2 (j - gn) (by omega)
theorem valid_big {n gn cn : Nat} {r g c : Nat → Nat} (h : ¬ n ≤ 6) : valid n gn cn r g c = false := by
  unfold valid
  rw [show sizes n gn cn = false by simp only [sizes]; exact decide_eq_false (by omega)]; rfl
noncomputable def joinOk (n gn cn m gm cm : Nat) (r g c u v w : Nat → Nat) : Bool := bif bif valid n gn cn r g c then valid m gm cm u v w else false then decide (n + m ≤ 6) else false
theorem join_ok {n gn cn m gm cm : Nat} {r g c u v w : Nat → Nat} (h : joinOk n gn cn m gm cm r g c u v w = true) : valid n gn cn r g c = true ∧ valid m gm cm u v w = true ∧ n + m ≤ 6 := by
  unfold joinOk at h
  revert h
  cases valid n gn cn r g c <;> cases valid m gm cm u v w <;> simp
noncomputable def lp50T : List (Nat × (St → T)) := [(0, N50)]
theorem lp50T_ok : LpOK Try.prog (look lp50T) (bodyOf Try.f50) := lp_loops (by kernel_rfl) (by kernel_rfl) fun p hp => by
  simp only [lp50T, List.mem_cons, List.not_mem_nil, or_false] at hp
  rcases hp with rfl
  · exact loopN50
theorem auto50T (n gn cn m gm cm : Nat) (r g c u v w : Nat → Nat) : autoS cfgDJ (look lp50T) false Try.f50 [.agg [.ro 1 n (.flts .f32 r), .ro 1 gn (.flts .f32 g), .ro 1 cn (.flts .f32 c)], .agg [.ro 1 m (.flts .f32 u), .ro 1 gm (.flts .f32 v), .ro 1 cm (.flts .f32 w)]] =
    some ((!bif !valid n gn cn r g c then true else !valid m gm cm u v w) && (Nat.ble 1 gn && (gn + gm).ble 1000 && (Nat.ble 1 n && (n + m).ble 1000 && true) && (decide (Int.ofNat n = Int.ofNat n) && decide (Int.ofNat (n + m) = Int.ofNat (n + m)) && (n + m).beq (n + m) && (gn + gm).beq (gn + gm) && (n + m).beq (n + m) && (gn + gm).beq (gn + gm) && n.ble 6 && m.ble 6 && cn.beq (n * n) && cm.beq (m * m) && (!!valid (n + m) (gn + gm) ((n + m) * (n + m)) (jn n r u) (jn gn g v) (joinC n m c w) && true))), A.tup [A.agg [A.ro 1 (n + m) (Row.flts FloatKind.f32 fun p => jn n r u p), A.ro 1 (gn + gm) (Row.flts FloatKind.f32 fun p => jn gn g v p), A.ro 1 ((n + m) * (n + m)) (Row.flts FloatKind.f32 fun p => joinC n m c w p)], A.bool true]) := by kernel_rfl
noncomputable def s50T : List A → Option (Bool × A)
  | [.agg [.ro 1 n (.flts .f32 r), .ro 1 gn (.flts .f32 g), .ro 1 cn (.flts .f32 c)], .agg [.ro 1 m (.flts .f32 u), .ro 1 gm (.flts .f32 v), .ro 1 cm (.flts .f32 w)]] => some (joinOk n gn cn m gm cm r g c u v w, .tup [.agg [.ro 1 (n + m) (.flts .f32 (jn n r u)), .ro 1 (gn + gm) (.flts .f32 (jn gn g v)), .ro 1 ((n + m) * (n + m)) (.flts .f32 (joinC n m c w))], .bool true])
  | _ => none
theorem s50T_at : EnvAt Try.prog 50 s50T := of_autoS cfgDJ_ok lp50T_ok Try.func50 (by kernel_rfl) (by kernel_rfl) fun ds cc rr h hc => by
  unfold s50T at h
  split at h
  · rename_i n r gn g cn c m u gm v cm w
    simp only [Option.some.injEq, Prod.mk.injEq] at h
    obtain ⟨rfl, rfl⟩ := h
    refine auto_fit (auto50T n gn cn m gm cm r g c u v w) ?_ ?_
    · rfl
    · obtain ⟨ha, hb, h6⟩ := join_ok hc
      obtain ⟨a1, a2, a3, a4⟩ := valid_sizes ha
      obtain ⟨b1, b2, b3, b4⟩ := valid_sizes hb
      rw [ha, hb, valid_join ha hb h6]
      repeat rw [decide_eq_true rfl]
      rw [ble_of (show 1 ≤ gn by omega), ble_of (show gn + gm ≤ 1000 by omega), ble_of (show 1 ≤ n by omega), ble_of (show n + m ≤ 1000 by omega), Nat.beq_refl, Nat.beq_refl, ble_of a2, ble_of b2, a4, b4, Nat.beq_refl, Nat.beq_refl]; rfl
  · cases h

noncomputable def lp50N : List (Nat × (St → T)) := [(0, N50)]
theorem lp50N_ok : LpOK Try.prog (look lp50N) (bodyOf Try.f50) := lp_loops (by kernel_rfl) (by kernel_rfl) fun p hp => by
  simp only [lp50N, List.mem_cons, List.not_mem_nil, or_false] at hp
  rcases hp with rfl
  · exact loopN50
theorem auto50N (n gn cn m gm cm : Nat) (r g c u v w : Nat → Nat) : autoS cfgDJ (look lp50N) true Try.f50 [.agg [.ro 1 n (.flts .f32 r), .ro 1 gn (.flts .f32 g), .ro 1 cn (.flts .f32 c)], .agg [.ro 1 m (.flts .f32 u), .ro 1 gm (.flts .f32 v), .ro 1 cm (.flts .f32 w)]] =
    some (bif bif !valid n gn cn r g c then true else !valid m gm cm u v w then true else Nat.ble 1 gn && (gn + gm).ble 1000 && (Nat.ble 1 n && (n + m).ble 1000 && true) && (decide (Int.ofNat n = Int.ofNat n) && decide (Int.ofNat (n + m) = Int.ofNat (n + m)) && (n + m).beq (n + m) && (gn + gm).beq (gn + gm) && (n + m).beq (n + m) && (gn + gm).beq (gn + gm) && n.ble 6 && m.ble 6 && cn.beq (n * n) && cm.beq (m * m) && (!valid (n + m) (gn + gm) ((n + m) * (n + m)) (jn n r u) (jn gn g v) (joinC n m c w) && true)), A.tup [A.agg [A.nils, A.nils, A.nils], A.bool (bif bif !valid n gn cn r g c then true else !valid m gm cm u v w then false else false)]) := by kernel_rfl
noncomputable def s50N : List A → Option (Bool × A)
  | [.agg [.ro 1 n (.flts .f32 r), .ro 1 gn (.flts .f32 g), .ro 1 cn (.flts .f32 c)], .agg [.ro 1 m (.flts .f32 u), .ro 1 gm (.flts .f32 v), .ro 1 cm (.flts .f32 w)]] => some (!joinOk n gn cn m gm cm r g c u v w, .tup [.agg [.nils, .nils, .nils], .bool false])
  | _ => none
theorem s50N_at : EnvAt Try.prog 50 s50N := of_autoS cfgDJ_ok lp50N_ok Try.func50 (by kernel_rfl) (by kernel_rfl) fun ds cc rr h hc => by
  unfold s50N at h
  split at h
  · rename_i n r gn g cn c m u gm v cm w
    simp only [Option.some.injEq, Prod.mk.injEq] at h
    obtain ⟨rfl, rfl⟩ := h
    refine auto_fit (auto50N n gn cn m gm cm r g c u v w) ?_ ?_
    · rw [Bool.cond_self]
    · cases ha : valid n gn cn r g c
      · rfl
      · cases hb : valid m gm cm u v w
        · rfl
        · obtain ⟨a1, a2, a3, a4⟩ := valid_sizes ha
          obtain ⟨b1, b2, b3, b4⟩ := valid_sizes hb
          have h6 : ¬ n + m ≤ 6 := fun h => by
            unfold joinOk at hc
            rw [ha, hb, decide_eq_true h] at hc
            cases hc
          rw [valid_big (n := n + m) h6]
          repeat rw [decide_eq_true rfl]
          rw [ble_of (show 1 ≤ gn by omega), ble_of (show gn + gm ≤ 1000 by omega), ble_of (show 1 ≤ n by omega), ble_of (show n + m ≤ 1000 by omega), Nat.beq_refl, Nat.beq_refl, ble_of a2, ble_of b2, a4, b4, Nat.beq_refl, Nat.beq_refl]; rfl
  · cases h

noncomputable def s50F : List A → Option (Bool × A)
  | [.agg [.ro 1 n (.flts .f32 r), .ro 1 gn (.flts .f32 g), .ro 1 cn (.flts .f32 c)], .agg [.ro 1 m (.flts .f32 u), .ro 1 gm (.flts .f32 v), .ro 1 cm (.flts .f32 w)]] => some (!joinOk n gn cn m gm cm r g c u v w, .tup [.agg [.emp, .emp, .emp], .bool false])
  | _ => none
theorem s50F_at : EnvAt Try.prog 50 s50F := by
  refine ⟨s50N_at.1, fun ds cc rr h hc => ?_⟩
  unfold s50F at h
  split at h
  · rename_i n r gn g cn c m u gm v cm w
    simp only [Option.some.injEq, Prod.mk.injEq] at h
    obtain ⟨rfl, rfl⟩ := h
    exact PureCall.emp_of (s50N_at.2 [.agg [.ro 1 n (.flts .f32 r), .ro 1 gn (.flts .f32 g), .ro 1 cn (.flts .f32 c)], .agg [.ro 1 m (.flts .f32 u), .ro 1 gm (.flts .f32 v), .ro 1 cm (.flts .f32 w)]] _ _ rfl hc)
  · cases h
end Go.Fw.C1

/-
  Circuits joined: the reference's tables.
-/
namespace Go.Fw.C1
open Go.Proofs
noncomputable def s64n (_ : List A) : Option (Bool × A) := none
theorem s64n_at : EnvAt Try.prog 64 s64n := ⟨⟨_, Try.func64, by kernel_rfl, by kernel_rfl⟩, fun ds c r h hc => by cases h⟩
noncomputable def env27j : List (Nat × (List A → Option (Bool × A))) := (64, s64n) :: env25
theorem env27j_ok : EnvOK Try.prog (look env27j) := (env_cons s64n_at env25_ok)
noncomputable def cfg27j : Cfg := mkCfg tab [] xts (look env27j)
theorem cfg27j_ok : CfgOK Try.prog cfg27j := cfg_ok tab_eq (no_fts _) xts_ok env27j_ok mixed
noncomputable def cfgE2 : Cfg := mkCfg tab fts64 xts (look env27j)
theorem cfgE2_ok : CfgOK Try.prog cfgE2 := cfg_ok tab_eq fts64_ok xts_ok env27j_ok mixed
end Go.Fw.C1

/-
  Circuits joined: the reference's first loops.
-/
namespace Go.Fw.C1
open Go.Proofs
noncomputable def wr1 (n m : Nat) (c : Nat → Nat) (i k : Nat) (s : Nat → Nat) (p : Nat) : Nat := bif decide (p / (n + m) = i ∧ p % (n + m) < k) then c (p / (n + m) * n + p % (n + m)) else s p
noncomputable def ot1 (n m : Nat) (c : Nat → Nat) (i : Nat) (s : Nat → Nat) (p : Nat) : Nat := bif decide (p / (n + m) < i ∧ p % (n + m) < n) then c (p / (n + m) * n + p % (n + m)) else s p
theorem wr1_put {n m i k : Nat} {c s : Nat → Nat} (hk : k < n) (j : Nat) : (match decide (j = i * (n + m) + k) with | true => c (i * n + k) | false => wr1 n m c i k s j) = wr1 n m c i (k + 1) s j := by
  have hk' : k < n + m := by omega
  by_cases h : j = i * (n + m) + k
  · subst h
    rw [decide_eq_true rfl]
    unfold wr1
    rw [ix_div hk', ix_mod hk', decide_eq_true (p := i = i ∧ k < k + 1) ⟨rfl, by omega⟩]; rfl
  · rw [decide_eq_false h]
    have hd := Nat.div_add_mod j (n + m)
    have hne : ¬ (j / (n + m) = i ∧ j % (n + m) = k) := fun ⟨h1, h2⟩ => by
      rw [h1, h2, Nat.mul_comm] at hd
      exact h hd.symm
    unfold wr1
    by_cases h1 : j / (n + m) = i ∧ j % (n + m) < k
    · rw [decide_eq_true h1, decide_eq_true (p := j / (n + m) = i ∧ j % (n + m) < k + 1) ⟨h1.1, by omega⟩]
    · rw [decide_eq_false h1, decide_eq_false (p := j / (n + m) = i ∧ j % (n + m) < k + 1) fun h2 => by
        rcases Nat.lt_or_ge (j % (n + m)) k with h3 | h3
        · exact h1 ⟨h2.1, h3⟩
        · exact hne ⟨h2.1, by omega⟩]
theorem wr1_zero {n m i : Nat} {c s : Nat → Nat} (p : Nat) : s p = wr1 n m c i 0 s p := by
  unfold wr1; rw [decide_eq_false (fun h => absurd h.2 (Nat.not_lt_zero _))]; rfl
theorem ot1_zero {n m : Nat} {c s : Nat → Nat} (p : Nat) : s p = ot1 n m c 0 s p := by
  unfold ot1; rw [decide_eq_false (fun h => absurd h.1 (Nat.not_lt_zero _))]; rfl
theorem ot1_next {n m i : Nat} {c s : Nat → Nat} (p : Nat) : wr1 n m c i n (ot1 n m c i s) p = ot1 n m c (i + 1) s p := by
  unfold wr1 ot1
  by_cases h : p / (n + m) = i ∧ p % (n + m) < n
  · rw [decide_eq_true h, decide_eq_true (p := p / (n + m) < i + 1 ∧ p % (n + m) < n) ⟨by omega, h.2⟩]; rfl
  · rw [decide_eq_false h]
    by_cases h1 : p / (n + m) < i ∧ p % (n + m) < n
    · rw [decide_eq_true h1, decide_eq_true (p := p / (n + m) < i + 1 ∧ p % (n + m) < n) ⟨by omega, h1.2⟩]; rfl
    · rw [decide_eq_false h1, decide_eq_false (p := p / (n + m) < i + 1 ∧ p % (n + m) < n) fun h2 => by
        rcases Nat.lt_or_ge (p / (n + m)) i with h3 | h3
        · exact h1 ⟨h3, h2.2⟩
        · exact h ⟨by omega, h2.2⟩]; rfl
noncomputable def I78k (n gn cn m gm cm i : Nat) (r g c u v w s1 s2 s3 : Nat → Nat) (k : Nat) : List A := [.rop (.agg [.ro 1 n (.flts .f32 r), .ro 1 gn (.flts .f32 g), .ro 1 cn (.flts .f32 c)]) 0, .rop (.agg [.ro 1 m (.flts .f32 u), .ro 1 gm (.flts .f32 v), .ro 1 cm (.flts .f32 w)]) 0, .int .i64 (Int.ofNat n), .int .i64 (Int.ofNat m), .ptr 240 0, .int .i64 (Int.ofNat i), .int .i64 (Int.ofNat k), .ptr 0 0]
noncomputable def J78k (n gn cn m gm cm i : Nat) (r g c u v w s1 s2 s3 : Nat → Nat) (k : Nat) : List O := [.var [.sl 368 (n + m), .sl 464 (gn + gm), .sl 1008 ((n + m) * (n + m))], .row 41 1 (n + m) (.flts .f32 s1), .row 41 1 (gn + gm) (.flts .f32 s2), .row 41 1 ((n + m) * (n + m)) (.flts .f32 (wr1 n m c i k s3)), .var [.emp, .emp, .emp]]
theorem round78k (n gn cn m gm cm i : Nat) (r g c u v w s1 s2 s3 : Nat → Nat) (k : Nat) (L : XK → List A → List (Option O) → Prop) :
    ((exec cfgE2 (fun _ => true) (fun _ => none) 0 1000 (loopOf Try.f78 2) (litSt Try.f78.ntmps 1136 [0, 1, 5, 6, 7, 8, 9, 4] [240, 368, 464, 1008, 0] (I78k n gn cn m gm cm i r g c u v w s1 s2 s3 k) (J78k n gn cn m gm cm i r g c u v w s1 s2 s3 k))).rt [0, 1, 5, 6, 7, 8, 9, 4] [240, 368, 464, 1008, 0]).Ok L =
    bif decide (Int.ofNat k < Int.ofNat n) then
      bif decide (0 ≤ IntKind.i64.wrap (IntKind.i64.wrap (Int.ofNat i * Int.ofNat n) + Int.ofNat k)) && decide (IntKind.i64.wrap (IntKind.i64.wrap (Int.ofNat i * Int.ofNat n) + Int.ofNat k) < Int.ofNat cn) && true then
        bif decide (0 ≤ IntKind.i64.wrap (IntKind.i64.wrap (Int.ofNat i * IntKind.i64.wrap (Int.ofNat n + Int.ofNat m)) + Int.ofNat k)) && decide (IntKind.i64.wrap (IntKind.i64.wrap (Int.ofNat i * IntKind.i64.wrap (Int.ofNat n + Int.ofNat m)) + Int.ofNat k) < Int.ofNat ((n + m) * (n + m))) then
          L (XK.normal) ([(A.agg [A.ro 1 n (Row.flts FloatKind.f32 r), A.ro 1 gn (Row.flts FloatKind.f32 g), A.ro 1 cn (Row.flts FloatKind.f32 c)]).rop 0, (A.agg [A.ro 1 m (Row.flts FloatKind.f32 u), A.ro 1 gm (Row.flts FloatKind.f32 v), A.ro 1 cm (Row.flts FloatKind.f32 w)]).rop 0, A.int IntKind.i64 (Int.ofNat n), A.int IntKind.i64 (Int.ofNat m), A.ptr 240 0, A.int IntKind.i64 (Int.ofNat i), A.int IntKind.i64 (IntKind.i64.wrap (Int.ofNat k + Int.ofNat 1)), A.ptr 0 0]) ([some (O.var [A.sl 368 (n + m), A.sl 464 (gn + gm), A.sl 1008 ((n + m) * (n + m))]), some (O.row 41 1 (n + m) (Row.flts FloatKind.f32 s1)), some (O.row 41 1 (gn + gm) (Row.flts FloatKind.f32 s2)),   some     (O.row 41 1 ((n + m) * (n + m))       (Row.flts FloatKind.f32 fun j =>         match decide (j = (IntKind.i64.wrap (IntKind.i64.wrap (Int.ofNat i * IntKind.i64.wrap (Int.ofNat n + Int.ofNat m)) + Int.ofNat k)).toNat) with         | true => c (IntKind.i64.wrap (IntKind.i64.wrap (Int.ofNat i * Int.ofNat n) + Int.ofNat k)).toNat         | false => wr1 n m c i k s3 j)),   some (O.var [A.emp, A.emp, A.emp])])
        else
          False
      else
        False
    else
      L (XK.exit 2) ([(A.agg [A.ro 1 n (Row.flts FloatKind.f32 r), A.ro 1 gn (Row.flts FloatKind.f32 g), A.ro 1 cn (Row.flts FloatKind.f32 c)]).rop 0, (A.agg [A.ro 1 m (Row.flts FloatKind.f32 u), A.ro 1 gm (Row.flts FloatKind.f32 v), A.ro 1 cm (Row.flts FloatKind.f32 w)]).rop 0, A.int IntKind.i64 (Int.ofNat n), A.int IntKind.i64 (Int.ofNat m), A.ptr 240 0, A.int IntKind.i64 (Int.ofNat i), A.int IntKind.i64 (Int.ofNat k), A.ptr 0 0]) ([some (O.var [A.sl 368 (n + m), A.sl 464 (gn + gm), A.sl 1008 ((n + m) * (n + m))]), some (O.row 41 1 (n + m) (Row.flts FloatKind.f32 s1)), some (O.row 41 1 (gn + gm) (Row.flts FloatKind.f32 s2)), some (O.row 41 1 ((n + m) * (n + m)) (Row.flts FloatKind.f32 fun p => wr1 n m c i k s3 p)), some (O.var [A.emp, A.emp, A.emp])]) := by kernel_rfl
noncomputable def F78k : List A → List (Option O) → Option R3
  | [.rop (.agg [.ro 1 n (.flts .f32 r), .ro 1 gn (.flts .f32 g), .ro 1 cn (.flts .f32 c)]) 0, .rop (.agg [.ro 1 m (.flts .f32 u), .ro 1 gm (.flts .f32 v), .ro 1 cm (.flts .f32 w)]) 0, .int .i64 n1, .int .i64 m1, .ptr 240 0, .int .i64 (.ofNat i), .int .i64 0, .ptr 0 0], [some (.var [.sl 368 a1, .sl 464 a2, .sl 1008 a3]), some (.row 41 1 b1 (.flts .f32 s1)), some (.row 41 1 b2 (.flts .f32 s2)), some (.row 41 1 b3 (.flts .f32 s3)), some (.var [.emp, .emp, .emp])] => some (.ite (decide (n1 = Int.ofNat n) && decide (m1 = Int.ofNat m) && Nat.beq a1 (n + m) && Nat.beq a2 (gn + gm) && Nat.beq a3 ((n + m) * (n + m)) && Nat.beq b1 (n + m) && Nat.beq b2 (gn + gm) && Nat.beq b3 ((n + m) * (n + m)) && Nat.ble (n + m) 6 && Nat.beq cn (n * n) && Nat.beq cm (m * m) && Nat.blt i n) (.leaf .normal (I78k n gn cn m gm cm i r g c u v w s1 s2 s3 (n)) (J78k n gn cn m gm cm i r g c u v w s1 s2 s3 (n))) .fail)
  | _, _ => none
theorem loop78k : CodeOK Try.prog (fun _ σ => sumAt Try.f78.ntmps 1136 [0, 1, 5, 6, 7, 8, 9, 4] [240, 368, 464, 1008, 0] F78k σ) (.block 2 (.loop (loopOf Try.f78 2))) := by
  refine block_ok (own := fun _ => true) (lp := (fun _ => none)) (un := 0) (fuel := 1000) cfgE2_ok (lp_none _) fun az os R hF hok => ?_
  unfold F78k at hF
  split at hF
  · rename_i n r gn g cn c m u gm v cm w n1 m1 i a1 a2 a3 b1 s1 b2 s2 b3 s3
    injection hF with hF
    subst hF
    have hg := hok.guard
    have hg' := hg
    simp only [Bool.and_eq_true, Nat.ble_eq, Nat.beq_eq, decide_eq_true_eq] at hg'
    obtain ⟨⟨⟨⟨⟨⟨⟨⟨⟨⟨⟨rfl, rfl⟩, rfl⟩, rfl⟩, rfl⟩, rfl⟩, rfl⟩, rfl⟩, h6⟩, hcn⟩, hcm⟩, hi⟩ := hg'
    have hi := blt_lt' hi
    refine for_fact (ids := [240, 368, 464, 1008, 0]) (fun _ => true) (n) (I78k n gn cn m gm cm i r g c u v w s1 s2 s3) (J78k n gn cn m gm cm i r g c u v w s1 s2 s3) _ (.ret) (I78k n gn cn m gm cm i r g c u v w s1 s2 s3) (I78k n gn cn m gm cm i r g c u v w s1 s2 s3) (I78k n gn cn m gm cm i r g c u v w s1 s2 s3 (n)) (J78k n gn cn m gm cm i r g c u v w s1 s2 s3 (n)) rfl (by unfold J78k; exact ⟨rfl, ⟨41, _, rfl, .inr rfl, fun _ _ => rfl⟩, ⟨41, _, rfl, .inr rfl, fun _ _ => rfl⟩, ⟨41, _, rfl, .inr rfl, fun p hp => flt_at (wr1_zero p)⟩, rfl, trivial⟩) (fun _ => rfl) (fun _ => rfl) (fun _ => ALe.self _) (fun _ => rfl) (ALe.self _) (OSims.self _) rfl (fun h => by cases h) (fun k hk L h1 h2 h3 => ?_) fun L hL => ?_
    · rw [round78k]

      by_cases hkm : k < n
      · refine condT (lt_dec hkm) ?_
        have e0 : IntKind.i64.wrap (Int.ofNat n + Int.ofNat m) = Int.ofNat (n + m) := wrap_nat (x := n + m) (by omega)
        have i1 : i < n + m := by omega
        have k1 : k < n + m := by omega
        rw [e0, wrap_ix i1 k1 h6, wrap_ix hi hkm (by omega), wrap_succ (by omega)]
        refine condT (by rw [hcn, dec0, lt_dec (ix_lt hi hkm (by omega))]; rfl) ?_
        refine condT (by rw [dec0, lt_dec (ix_lt i1 k1 h6)]; rfl) ?_
        exact h1 hkm rfl _ ⟨rfl, ⟨41, _, rfl, .inr rfl, fun _ _ => rfl⟩, ⟨41, _, rfl, .inr rfl, fun _ _ => rfl⟩, ⟨41, _, rfl, .inr rfl, fun p hp => flt_at (wr1_put hkm p)⟩, rfl, trivial⟩
      · refine condE (ge_dec (by omega)) ?_
        obtain rfl : k = n := by omega
        exact h3 rfl
    · exact ⟨fun _ => hL.1 hg, fun N _ h => by cases h⟩
  · cases hF

noncomputable def lpi78i : List (Nat × (St → T)) := [(2, sumAt Try.f78.ntmps 1136 [0, 1, 5, 6, 7, 8, 9, 4] [240, 368, 464, 1008, 0] F78k)]
theorem lpi78i_ok : LpOK Try.prog (look lpi78i) (loopOf Try.f78 0) := lp_in (lp_loops (by kernel_rfl) (by kernel_rfl) fun p hp => by
  simp only [lpi78i, List.mem_cons, List.not_mem_nil, or_false] at hp
  rcases hp with rfl
  · exact loop78k) _
noncomputable def I78i (n gn cn m gm cm : Nat) (r g c u v w s1 s2 s3 : Nat → Nat) (k : Nat) : List A := [.rop (.agg [.ro 1 n (.flts .f32 r), .ro 1 gn (.flts .f32 g), .ro 1 cn (.flts .f32 c)]) 0, .rop (.agg [.ro 1 m (.flts .f32 u), .ro 1 gm (.flts .f32 v), .ro 1 cm (.flts .f32 w)]) 0, .int .i64 (Int.ofNat n), .int .i64 (Int.ofNat m), .ptr 240 0, .int .i64 (Int.ofNat k), .ptr 0 0]
noncomputable def J78i (n gn cn m gm cm : Nat) (r g c u v w s1 s2 s3 : Nat → Nat) (k : Nat) : List O := [.var [.sl 368 (n + m), .sl 464 (gn + gm), .sl 1008 ((n + m) * (n + m))], .row 41 1 (n + m) (.flts .f32 s1), .row 41 1 (gn + gm) (.flts .f32 s2), .row 41 1 ((n + m) * (n + m)) (.flts .f32 (ot1 n m c k s3)), .var [.emp, .emp, .emp]]
theorem round78i (n gn cn m gm cm : Nat) (r g c u v w s1 s2 s3 : Nat → Nat) (k : Nat) (L : XK → List A → List (Option O) → Prop) :
    ((exec cfgE2 (fun _ => true) (look lpi78i) 0 1000 (loopOf Try.f78 0) (litSt Try.f78.ntmps 1072 [0, 1, 5, 6, 7, 8, 4] [240, 368, 464, 1008, 0] (I78i n gn cn m gm cm r g c u v w s1 s2 s3 k) (J78i n gn cn m gm cm r g c u v w s1 s2 s3 k))).rt [0, 1, 5, 6, 7, 8, 4] [240, 368, 464, 1008, 0]).Ok L =
    bif decide (Int.ofNat k < Int.ofNat n) then
      bif decide (Int.ofNat n = Int.ofNat n) && decide (Int.ofNat m = Int.ofNat m) && (n + m).beq (n + m) && (gn + gm).beq (gn + gm) && ((n + m) * (n + m)).beq ((n + m) * (n + m)) && (n + m).beq (n + m) && (gn + gm).beq (gn + gm) && ((n + m) * (n + m)).beq ((n + m) * (n + m)) && (n + m).ble 6 && cn.beq (n * n) && cm.beq (m * m) && k.blt n then
        L (XK.normal) ([(A.agg [A.ro 1 n (Row.flts FloatKind.f32 r), A.ro 1 gn (Row.flts FloatKind.f32 g), A.ro 1 cn (Row.flts FloatKind.f32 c)]).rop 0, (A.agg [A.ro 1 m (Row.flts FloatKind.f32 u), A.ro 1 gm (Row.flts FloatKind.f32 v), A.ro 1 cm (Row.flts FloatKind.f32 w)]).rop 0, A.int IntKind.i64 (Int.ofNat n), A.int IntKind.i64 (Int.ofNat m), A.ptr 240 0, A.int IntKind.i64 (IntKind.i64.wrap (Int.ofNat k + Int.ofNat 1)), A.ptr 0 0]) ([some (O.var [A.sl 368 (n + m), A.sl 464 (gn + gm), A.sl 1008 ((n + m) * (n + m))]), some (O.row 41 1 (n + m) (Row.flts FloatKind.f32 s1)), some (O.row 41 1 (gn + gm) (Row.flts FloatKind.f32 s2)), some (O.row 41 1 ((n + m) * (n + m)) (Row.flts FloatKind.f32 fun p => wr1 n m c k n (ot1 n m c k s3) p)), some (O.var [A.emp, A.emp, A.emp])])
      else
        False
    else
      L (XK.exit 0) ([(A.agg [A.ro 1 n (Row.flts FloatKind.f32 r), A.ro 1 gn (Row.flts FloatKind.f32 g), A.ro 1 cn (Row.flts FloatKind.f32 c)]).rop 0, (A.agg [A.ro 1 m (Row.flts FloatKind.f32 u), A.ro 1 gm (Row.flts FloatKind.f32 v), A.ro 1 cm (Row.flts FloatKind.f32 w)]).rop 0, A.int IntKind.i64 (Int.ofNat n), A.int IntKind.i64 (Int.ofNat m), A.ptr 240 0, A.int IntKind.i64 (Int.ofNat k), A.ptr 0 0]) ([some (O.var [A.sl 368 (n + m), A.sl 464 (gn + gm), A.sl 1008 ((n + m) * (n + m))]), some (O.row 41 1 (n + m) (Row.flts FloatKind.f32 s1)), some (O.row 41 1 (gn + gm) (Row.flts FloatKind.f32 s2)), some (O.row 41 1 ((n + m) * (n + m)) (Row.flts FloatKind.f32 fun p => ot1 n m c k s3 p)), some (O.var [A.emp, A.emp, A.emp])]) := by kernel_rfl
noncomputable def F78i : List A → List (Option O) → Option R3
  | [.rop (.agg [.ro 1 n (.flts .f32 r), .ro 1 gn (.flts .f32 g), .ro 1 cn (.flts .f32 c)]) 0, .rop (.agg [.ro 1 m (.flts .f32 u), .ro 1 gm (.flts .f32 v), .ro 1 cm (.flts .f32 w)]) 0, .int .i64 n1, .int .i64 m1, .ptr 240 0, .int .i64 0, .ptr 0 0], [some (.var [.sl 368 a1, .sl 464 a2, .sl 1008 a3]), some (.row 41 1 b1 (.flts .f32 s1)), some (.row 41 1 b2 (.flts .f32 s2)), some (.row 41 1 b3 (.flts .f32 s3)), some (.var [.emp, .emp, .emp])] => some (.ite (decide (n1 = Int.ofNat n) && decide (m1 = Int.ofNat m) && Nat.beq a1 (n + m) && Nat.beq a2 (gn + gm) && Nat.beq a3 ((n + m) * (n + m)) && Nat.beq b1 (n + m) && Nat.beq b2 (gn + gm) && Nat.beq b3 ((n + m) * (n + m)) && Nat.ble (n + m) 6 && Nat.beq cn (n * n) && Nat.beq cm (m * m)) (.leaf .normal (I78i n gn cn m gm cm r g c u v w s1 s2 s3 (n)) (J78i n gn cn m gm cm r g c u v w s1 s2 s3 (n))) .fail)
  | _, _ => none
theorem loop78i : CodeOK Try.prog (fun _ σ => sumAt Try.f78.ntmps 1072 [0, 1, 5, 6, 7, 8, 4] [240, 368, 464, 1008, 0] F78i σ) (.block 0 (.loop (loopOf Try.f78 0))) := by
  refine block_ok (own := fun _ => true) (lp := (look lpi78i)) (un := 0) (fuel := 1000) cfgE2_ok lpi78i_ok fun az os R hF hok => ?_
  unfold F78i at hF
  split at hF
  · rename_i n r gn g cn c m u gm v cm w n1 m1 a1 a2 a3 b1 s1 b2 s2 b3 s3
    injection hF with hF
    subst hF
    have hg := hok.guard
    have hg' := hg
    simp only [Bool.and_eq_true, Nat.ble_eq, Nat.beq_eq, decide_eq_true_eq] at hg'
    obtain ⟨⟨⟨⟨⟨⟨⟨⟨⟨⟨rfl, rfl⟩, rfl⟩, rfl⟩, rfl⟩, rfl⟩, rfl⟩, rfl⟩, h6⟩, hcn⟩, hcm⟩ := hg'
    refine for_fact (ids := [240, 368, 464, 1008, 0]) (fun _ => true) (n) (I78i n gn cn m gm cm r g c u v w s1 s2 s3) (J78i n gn cn m gm cm r g c u v w s1 s2 s3) _ (.ret) (I78i n gn cn m gm cm r g c u v w s1 s2 s3) (I78i n gn cn m gm cm r g c u v w s1 s2 s3) (I78i n gn cn m gm cm r g c u v w s1 s2 s3 (n)) (J78i n gn cn m gm cm r g c u v w s1 s2 s3 (n)) rfl (by unfold J78i; exact ⟨rfl, ⟨41, _, rfl, .inr rfl, fun _ _ => rfl⟩, ⟨41, _, rfl, .inr rfl, fun _ _ => rfl⟩, ⟨41, _, rfl, .inr rfl, fun p hp => flt_at (ot1_zero p)⟩, rfl, trivial⟩) (fun _ => rfl) (fun _ => rfl) (fun _ => ALe.self _) (fun _ => rfl) (ALe.self _) (OSims.self _) rfl (fun h => by cases h) (fun k hk L h1 h2 h3 => ?_) fun L hL => ?_
    · rw [round78i]

      by_cases hkm : k < n
      · refine condT (lt_dec hkm) ?_
        rw [wrap_succ (by omega)]
        refine condT (by (repeat rw [decide_eq_true rfl]); rw [Nat.beq_refl, Nat.beq_refl, Nat.beq_refl, ble_of h6, hcn, hcm, Nat.beq_refl, Nat.beq_refl, blt_t hkm]; rfl) ?_
        exact h1 hkm rfl _ ⟨rfl, ⟨41, _, rfl, .inr rfl, fun _ _ => rfl⟩, ⟨41, _, rfl, .inr rfl, fun _ _ => rfl⟩, ⟨41, _, rfl, .inr rfl, fun p hp => flt_at (ot1_next p)⟩, rfl, trivial⟩
      · refine condE (ge_dec (by omega)) ?_
        obtain rfl : k = n := by omega
        exact h3 rfl
    · exact ⟨fun _ => hL.1 hg, fun N _ h => by cases h⟩
  · cases hF

end Go.Fw.C1
