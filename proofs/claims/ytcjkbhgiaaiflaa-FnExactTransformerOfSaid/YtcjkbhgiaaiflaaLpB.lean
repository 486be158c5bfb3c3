/-
  Slices written into.
-/
import Derived.Test.YtcjkbhgiaaiflaaLpA

namespace Go.Fw.C1
open Go.Proofs

theorem of_autoN {cfg : Cfg} (hc : CfgOK Try.prog cfg) {f : Nat} {fn : Func} {un : Nat} (hf : Try.prog.funcs[f]? = some fn) (hb : fn.body.isSome = true) (hn : (fn.name == "runtime.NumGoroutine") = false)
    {s : List A → Option (Bool × A)} (h : ∀ ds c r, s ds = some (c, r) → c = true → ∃ c', autoN cfg un fn ds = some (c', r) ∧ c' = true) : EnvAt Try.prog f s :=
  ⟨⟨fn, hf, hb, hn⟩, fun ds c r hs hct => by
    obtain ⟨c', h1, h2⟩ := h ds c r hs hct
    exact (autoN_at hc hf hb hn).2 ds c' r h1 h2⟩

noncomputable def lp70a : List (Nat × (St → T)) := [(0, sumAt Try.f70.ntmps 32 [0, 1, 4, 5] [] F70)]
theorem lp70a_ok : LpOK Try.prog (look lp70a) (bodyOf Try.f70) := lp_loops (by kernel_rfl) (by kernel_rfl) fun p hp => by
  simp only [lp70a, List.mem_cons, List.not_mem_nil, or_false] at hp
  rcases hp with rfl
  · exact loop70
theorem auto70a (m k0 : Nat) (g : Nat → Nat) : autoLp cfg20 (look lp70a) Try.f70 [.ro 1 m (.flts .f32 g), .int .i64 (.ofNat k0)] =
    some (m.ble 1048577 && k0.ble 1000000000 && bif allUpTo (fun k => !heldAt g k0 k) m then true else true, A.int IntKind.i64 (bif allUpTo (fun k => !heldAt g k0 k) m then Int.ofNat (k0 + m) else Int.negSucc 0)) := by kernel_rfl
noncomputable def s70a : List A → Option (Bool × A)
  | [.ro 1 m (.flts .f32 g), .int .i64 (.ofNat k0)] => some (Nat.ble m 1048577 && Nat.ble k0 1000000000 && allUpTo (fun k => !heldAt g k0 k) m, .int .i64 (Int.ofNat (k0 + m)))
  | _ => none
theorem s70a_at : EnvAt Try.prog 70 s70a := of_auto cfg20_ok lp70a_ok Try.func70 (by kernel_rfl) (by kernel_rfl) fun ds cc rr h hc => by
  unfold s70a at h
  split at h
  · rename_i m g k0
    simp only [Option.some.injEq, Prod.mk.injEq] at h
    obtain ⟨rfl, rfl⟩ := h
    refine auto_fit (auto70a m k0 g) ?_ ?_
    · simp only [Bool.and_eq_true] at hc; rw [hc.2]; rfl
    · simp only [Bool.and_eq_true] at hc; rw [hc.1.1, hc.1.2]; simp
  · cases h

noncomputable def s70 : List A → Option (Bool × A)
  | [.emp, .int .i64 k] => some (true, .int .i64 k)
  | ds => s70a ds
theorem auto70e (k : Int) : autoN cfg20 1 Try.f70 [.emp, .int .i64 k] = some (true, .int .i64 k) := by kernel_rfl
theorem s70_at : EnvAt Try.prog 70 s70 := by
  refine ⟨s70a_at.1, fun ds c r h hc => ?_⟩
  unfold s70 at h
  split at h
  · simp only [Option.some.injEq, Prod.mk.injEq] at h
    obtain ⟨rfl, rfl⟩ := h
    exact (autoN_at cfg20_ok (un := 1) Try.func70 (by kernel_rfl) (by kernel_rfl)).2 _ _ _ (auto70e _) rfl
  · exact s70a_at.2 _ _ _ h hc
theorem auto55e : autoN cfg1 1 Try.f55 [.emp, .emp] = some (true, .bool true) := by kernel_rfl
noncomputable def s55e : List A → Option (Bool × A)
  | [.emp, .emp] => some (true, .bool true)
  | ds => spec55 ds
theorem s55e_at : EnvAt Try.prog 55 s55e := by
  refine ⟨spec55_at.1, fun ds c r h hc => ?_⟩
  unfold s55e at h
  split at h
  · simp only [Option.some.injEq, Prod.mk.injEq] at h
    obtain ⟨rfl, rfl⟩ := h
    exact (autoN_at cfg1_ok (un := 1) Try.func55 (by kernel_rfl) (by kernel_rfl)).2 _ _ _ auto55e rfl
  · exact spec55_at.2 _ _ _ h hc

noncomputable def env23 : List (Nat × (List A → Option (Bool × A))) := (70, s70) :: (55, s55e) :: env22
theorem env23_ok : EnvOK Try.prog (look env23) := (env_cons s70_at (env_cons s55e_at env22_ok))
noncomputable def cfg23 : Cfg := mkCfg tab [] xts (look env23)
theorem cfg23_ok : CfgOK Try.prog cfg23 := cfg_ok tab_eq (no_fts _) xts_ok env23_ok mixed
theorem auto33a (n gn cn k0 : Nat) (r g c : Nat → Nat) : autoLp cfg23 (fun _ => none) Try.f33 [.agg [.ro 1 n (.flts .f32 r), .ro 1 gn (.flts .f32 g), .ro 1 cn (.flts .f32 c)], .int .i64 (.ofNat k0)] =
    some (n.ble 1048577 && k0.ble 1000000000 && allUpTo (fun k => !heldAt r k0 k) n && (gn.ble 1048577 && (k0 + n).ble 1000000000 && allUpTo (fun k => !heldAt g (k0 + n) k) gn && (cn.ble 1048577 && (k0 + n + gn).ble 1000000000 && allUpTo (fun k => !heldAt c (k0 + n + gn) k) cn && true)), A.int IntKind.i64 (Int.ofNat (k0 + n + gn + cn))) := by kernel_rfl
noncomputable def s33a : List A → Option (Bool × A)
  | [.agg [.ro 1 n (.flts .f32 r), .ro 1 gn (.flts .f32 g), .ro 1 cn (.flts .f32 c)], .int .i64 (.ofNat k0)] => some ((Nat.ble n 1048577 && Nat.ble k0 1000000000 && allUpTo (fun k => !heldAt r k0 k) n) && (Nat.ble gn 1048577 && Nat.ble (k0 + n) 1000000000 && allUpTo (fun k => !heldAt g (k0 + n) k) gn) && (Nat.ble cn 1048577 && Nat.ble (k0 + n + gn) 1000000000 && allUpTo (fun k => !heldAt c (k0 + n + gn) k) cn), .int .i64 (Int.ofNat (k0 + n + gn + cn)))
  | _ => none
theorem s33a_at : EnvAt Try.prog 33 s33a := of_auto cfg23_ok (lp_none _) Try.func33 (by kernel_rfl) (by kernel_rfl) fun ds cc rr h hc => by
  unfold s33a at h
  split at h
  · rename_i n r gn g cn c k0
    simp only [Option.some.injEq, Prod.mk.injEq] at h
    obtain ⟨rfl, rfl⟩ := h
    refine auto_fit (auto33a n gn cn k0 r g c) ?_ ?_
    · have e : ∀ x : Nat, decide (Int.ofNat x < 0) = false := fun x => by simp
      simp [e]
    · simp only [Bool.and_eq_true] at hc
      have e : ∀ x : Nat, decide (Int.ofNat x < 0) = false := fun x => by simp
      simp [e, hc]
  · cases h

theorem auto33e (k : Int) : autoLp cfg23 (fun _ => none) Try.f33 [.agg [.emp, .emp, .emp], .int .i64 k] =
    some (bif decide (k < 0) then true else bif decide (k < 0) then true else bif decide (k < 0) then true else true, A.int IntKind.i64 (bif decide (k < 0) then Int.negSucc 0 else bif decide (k < 0) then Int.negSucc 0 else bif decide (k < 0) then Int.negSucc 0 else k)) := by kernel_rfl
noncomputable def s33 : List A → Option (Bool × A)
  | [.agg [.emp, .emp, .emp], .int .i64 k] => some (decide (0 ≤ k), .int .i64 k)
  | ds => s33a ds
theorem s33_at : EnvAt Try.prog 33 s33 := by
  refine ⟨s33a_at.1, fun ds c r h hc => ?_⟩
  unfold s33 at h
  split at h
  · rename_i k
    simp only [Option.some.injEq, Prod.mk.injEq] at h
    obtain ⟨rfl, rfl⟩ := h
    have e : decide (k < 0) = false := by simp only [decide_eq_true_eq] at hc; simp; omega
    have key := (auto_at cfg23_ok Try.func33 (by kernel_rfl) (by kernel_rfl)).2 _ _ _ (auto33e k)
    rw [e] at key
    exact key rfl
  · exact s33a_at.2 _ _ _ h hc
noncomputable def env24 : List (Nat × (List A → Option (Bool × A))) := (33, s33) :: env23
theorem env24_ok : EnvOK Try.prog (look env24) := (env_cons s33_at env23_ok)
noncomputable def cfg24 : Cfg := mkCfg tab [] xts (look env24)
theorem cfg24_ok : CfgOK Try.prog cfg24 := cfg_ok tab_eq (no_fts _) xts_ok env24_ok mixed

/-! ### The laws' marks -/
def IM (ID m k0 k : Nat) : List A := [.sl ID m, .int .i64 (Int.ofNat (k0 + k)), .int .i64 (Int.ofNat 0), .int .i64 (Int.ofNat k)]
noncomputable def markF (k0 j : Nat) : Nat := fofInt .f32 (Int.ofNat (k0 + j))
noncomputable def JM (e m k0 : Nat) (g : Nat → Nat) (k : Nat) : O := .row e 1 m (.flts .f32 fun j => match decide (j < k) with | true => markF k0 j | false => g j)
noncomputable def FM (ID : Nat) : List A → O → Option (Bool × List A × O)
  | [.sl j m, .int .i64 (.ofNat k0), .int .i64 0, .int .i64 0], .row e 1 m2 (.flts .f32 _) => some (Nat.beq j ID && Nat.beq m2 m && Nat.ble m 1048577 && Nat.ble k0 1000000000, IM ID m k0 m, .row e 1 m (.flts .f32 (markF k0)))
  | _, _ => none
theorem markH (ID : Nat) (hround : ∀ (m k0 k e lo nx : Nat) (g : Nat → Nat) (M : List (Nat × O)) (L : XK → List A → List (Nat × O) → Prop),
    ((exec cfgN (fun _ => true) (fun _ => none) 0 1000 (loopOf Try.f69 0) (stM Try.f69.ntmps lo nx [0, 1, 4, 5] (IM ID m k0 k) ID (.row e 1 m (.flts .f32 g)) M)).rm [0, 1, 4, 5]).Ok L =
      bif decide (Int.ofNat k < Int.ofNat m) then
        bif decide (Int.ofNat k < Int.ofNat m) then
            L .normal [.sl ID m, .int .i64 (IntKind.i64.wrap (Int.ofNat (k0 + k) + Int.ofNat 1)), .int .i64 (Int.ofNat 0), .int .i64 (IntKind.i64.wrap (Int.ofNat k + Int.ofNat 1))]
              ((ID, .row e 1 m (.flts .f32 fun j => match decide (j = k) with | true => fofInt .f32 (Int.ofNat (k0 + k)) | false => g j)) :: (ID, .row e 1 m (.flts .f32 g)) :: M)
        else False
      else L (.exit 0) (IM ID m k0 k) ((ID, .row e 1 m (.flts .f32 g)) :: M)) :
    ∀ az o az' o', FM ID az o = some (true, az', o') → ∃ (I : Nat → List A) (J : Nat → O) (N : Nat), az = I 0 ∧ OSim (some o) (J 0) ∧ (∀ k, (J k).isRow = true) ∧ o'.isRow = true ∧ ALe (I N) az' ∧ OSim (some (J N)) o' ∧
      ∀ k, k ≤ N → ∀ lo nx M, ((exec cfgN (fun _ => true) (fun _ => none) 0 1000 (loopOf Try.f69 0) (stM Try.f69.ntmps lo nx [0, 1, 4, 5] (I k) ID (J k) M)).rm [0, 1, 4, 5]).Ok fun x az mem => match x with
        | .normal => k < N ∧ az = I (k + 1) ∧ SimMem mem ID M (J (k + 1))
        | .exit i => i = 0 ∧ k = N ∧ az = I N ∧ SimMem mem ID M (J N)
        | .ret => False := by
  intro az o az' o' hF
  unfold FM at hF
  split at hF
  · rename_i j m k0 e m2 g
    simp only [Option.some.injEq, Prod.mk.injEq, Bool.and_eq_true, Nat.beq_eq, Nat.ble_eq] at hF
    obtain ⟨⟨⟨⟨hj, hm2⟩, hm⟩, hk0⟩, rfl, rfl⟩ := hF
    subst hj hm2
    refine ⟨IM j m2 k0, JM e m2 k0 g, m2, rfl, ⟨e, _, rfl, .inr rfl, fun i _ => rfl⟩, fun _ => rfl, rfl, ALe.self _, ⟨e, _, rfl, .inr rfl, fun i hi => ?_⟩, fun k hk lo nx M => ?_⟩
    · simp [Row.at, hi]
    · unfold JM
      rw [hround]
      by_cases hkm : k < m2
      · rw [lt_dec hkm]
        refine ⟨hkm, ?_, fun j' hj' => ?_, ?_⟩
        · rw [wrap_succ (by omega), wrap_succ (by omega), Nat.add_assoc]; rfl
        · rw [look_cons_other _ _ hj', look_cons_other _ _ hj']
        · rw [look_cons_same]
          refine ⟨e, _, rfl, .inr rfl, fun i hi => ?_⟩
          simp only [Row.at]
          by_cases hik : i = k
          · subst hik; simp [markF]
          · have : (i < k) = (i < k + 1) := by simp; omega
            simp [hik, this]
      · rw [ge_dec (show m2 ≤ k by omega)]
        obtain rfl : k = m2 := by omega
        refine ⟨rfl, rfl, rfl, fun j' hj' => ?_, ?_⟩
        · rw [look_cons_other _ _ hj']
        · rw [look_cons_same]
          exact ⟨e, _, rfl, .inr rfl, fun _ _ => rfl⟩
  · cases hF
theorem roundM336 (m k0 k e lo nx : Nat) (g : Nat → Nat) (M : List (Nat × O)) (L : XK → List A → List (Nat × O) → Prop) :
    ((exec cfgN (fun _ => true) (fun _ => none) 0 1000 (loopOf Try.f69 0) (stM Try.f69.ntmps lo nx [0, 1, 4, 5] (IM 336 m k0 k) 336 (.row e 1 m (.flts .f32 g)) M)).rm [0, 1, 4, 5]).Ok L =
    bif decide (Int.ofNat k < Int.ofNat m) then
      bif decide (Int.ofNat k < Int.ofNat m) then
        L (XK.normal) ([A.sl 336 m, A.int IntKind.i64 (IntKind.i64.wrap (Int.ofNat (k0 + k) + Int.ofNat 1)), A.int IntKind.i64 (Int.ofNat 0), A.int IntKind.i64 (IntKind.i64.wrap (Int.ofNat k + Int.ofNat 1))]) ((336,     O.row e 1 m       (Row.flts FloatKind.f32 fun j =>         match decide (j = (Int.ofNat k).toNat) with         | true => fofInt FloatKind.f32 (Int.ofNat (k0 + k))         | false => g j)) ::   (336, O.row e 1 m (Row.flts FloatKind.f32 g)) :: M)
      else
        False
    else
      L (XK.exit 0) ([A.sl 336 m, A.int IntKind.i64 (Int.ofNat (k0 + k)), A.int IntKind.i64 (Int.ofNat 0), A.int IntKind.i64 (Int.ofNat k)]) ((336, O.row e 1 m (Row.flts FloatKind.f32 g)) :: M) := by kernel_rfl
theorem loopM336 : CodeOK Try.prog (fun _ σ => sumM Try.f69.ntmps [0, 1, 4, 5] 336 (FM 336) σ) (.block 0 (.loop (loopOf Try.f69 0))) :=
  sumM_ok (own := fun _ => true) (lp := fun _ => none) (un := 0) (fuel := 1000) cfgN_ok (lp_none _) (markH 336 fun m k0 k e lo nx g M L => roundM336 m k0 k e lo nx g M L)

theorem roundM337 (m k0 k e lo nx : Nat) (g : Nat → Nat) (M : List (Nat × O)) (L : XK → List A → List (Nat × O) → Prop) :
    ((exec cfgN (fun _ => true) (fun _ => none) 0 1000 (loopOf Try.f69 0) (stM Try.f69.ntmps lo nx [0, 1, 4, 5] (IM 337 m k0 k) 337 (.row e 1 m (.flts .f32 g)) M)).rm [0, 1, 4, 5]).Ok L =
    bif decide (Int.ofNat k < Int.ofNat m) then
      bif decide (Int.ofNat k < Int.ofNat m) then
        L (XK.normal) ([A.sl 337 m, A.int IntKind.i64 (IntKind.i64.wrap (Int.ofNat (k0 + k) + Int.ofNat 1)), A.int IntKind.i64 (Int.ofNat 0), A.int IntKind.i64 (IntKind.i64.wrap (Int.ofNat k + Int.ofNat 1))]) ((337,     O.row e 1 m       (Row.flts FloatKind.f32 fun j =>         match decide (j = (Int.ofNat k).toNat) with         | true => fofInt FloatKind.f32 (Int.ofNat (k0 + k))         | false => g j)) ::   (337, O.row e 1 m (Row.flts FloatKind.f32 g)) :: M)
      else
        False
    else
      L (XK.exit 0) ([A.sl 337 m, A.int IntKind.i64 (Int.ofNat (k0 + k)), A.int IntKind.i64 (Int.ofNat 0), A.int IntKind.i64 (Int.ofNat k)]) ((337, O.row e 1 m (Row.flts FloatKind.f32 g)) :: M) := by kernel_rfl
theorem loopM337 : CodeOK Try.prog (fun _ σ => sumM Try.f69.ntmps [0, 1, 4, 5] 337 (FM 337) σ) (.block 0 (.loop (loopOf Try.f69 0))) :=
  sumM_ok (own := fun _ => true) (lp := fun _ => none) (un := 0) (fuel := 1000) cfgN_ok (lp_none _) (markH 337 fun m k0 k e lo nx g M L => roundM337 m k0 k e lo nx g M L)

theorem roundM338 (m k0 k e lo nx : Nat) (g : Nat → Nat) (M : List (Nat × O)) (L : XK → List A → List (Nat × O) → Prop) :
    ((exec cfgN (fun _ => true) (fun _ => none) 0 1000 (loopOf Try.f69 0) (stM Try.f69.ntmps lo nx [0, 1, 4, 5] (IM 338 m k0 k) 338 (.row e 1 m (.flts .f32 g)) M)).rm [0, 1, 4, 5]).Ok L =
    bif decide (Int.ofNat k < Int.ofNat m) then
      bif decide (Int.ofNat k < Int.ofNat m) then
        L (XK.normal) ([A.sl 338 m, A.int IntKind.i64 (IntKind.i64.wrap (Int.ofNat (k0 + k) + Int.ofNat 1)), A.int IntKind.i64 (Int.ofNat 0), A.int IntKind.i64 (IntKind.i64.wrap (Int.ofNat k + Int.ofNat 1))]) ((338,     O.row e 1 m       (Row.flts FloatKind.f32 fun j =>         match decide (j = (Int.ofNat k).toNat) with         | true => fofInt FloatKind.f32 (Int.ofNat (k0 + k))         | false => g j)) ::   (338, O.row e 1 m (Row.flts FloatKind.f32 g)) :: M)
      else
        False
    else
      L (XK.exit 0) ([A.sl 338 m, A.int IntKind.i64 (Int.ofNat (k0 + k)), A.int IntKind.i64 (Int.ofNat 0), A.int IntKind.i64 (Int.ofNat k)]) ((338, O.row e 1 m (Row.flts FloatKind.f32 g)) :: M) := by kernel_rfl
theorem loopM338 : CodeOK Try.prog (fun _ σ => sumM Try.f69.ntmps [0, 1, 4, 5] 338 (FM 338) σ) (.block 0 (.loop (loopOf Try.f69 0))) :=
  sumM_ok (own := fun _ => true) (lp := fun _ => none) (un := 0) (fuel := 1000) cfgN_ok (lp_none _) (markH 338 fun m k0 k e lo nx g M L => roundM338 m k0 k e lo nx g M L)

theorem roundM432 (m k0 k e lo nx : Nat) (g : Nat → Nat) (M : List (Nat × O)) (L : XK → List A → List (Nat × O) → Prop) :
    ((exec cfgN (fun _ => true) (fun _ => none) 0 1000 (loopOf Try.f69 0) (stM Try.f69.ntmps lo nx [0, 1, 4, 5] (IM 432 m k0 k) 432 (.row e 1 m (.flts .f32 g)) M)).rm [0, 1, 4, 5]).Ok L =
    bif decide (Int.ofNat k < Int.ofNat m) then
      bif decide (Int.ofNat k < Int.ofNat m) then
        L (XK.normal) ([A.sl 432 m, A.int IntKind.i64 (IntKind.i64.wrap (Int.ofNat (k0 + k) + Int.ofNat 1)), A.int IntKind.i64 (Int.ofNat 0), A.int IntKind.i64 (IntKind.i64.wrap (Int.ofNat k + Int.ofNat 1))]) ((432,     O.row e 1 m       (Row.flts FloatKind.f32 fun j =>         match decide (j = (Int.ofNat k).toNat) with         | true => fofInt FloatKind.f32 (Int.ofNat (k0 + k))         | false => g j)) ::   (432, O.row e 1 m (Row.flts FloatKind.f32 g)) :: M)
      else
        False
    else
      L (XK.exit 0) ([A.sl 432 m, A.int IntKind.i64 (Int.ofNat (k0 + k)), A.int IntKind.i64 (Int.ofNat 0), A.int IntKind.i64 (Int.ofNat k)]) ((432, O.row e 1 m (Row.flts FloatKind.f32 g)) :: M) := by kernel_rfl
theorem loopM432 : CodeOK Try.prog (fun _ σ => sumM Try.f69.ntmps [0, 1, 4, 5] 432 (FM 432) σ) (.block 0 (.loop (loopOf Try.f69 0))) :=
  sumM_ok (own := fun _ => true) (lp := fun _ => none) (un := 0) (fuel := 1000) cfgN_ok (lp_none _) (markH 432 fun m k0 k e lo nx g M L => roundM432 m k0 k e lo nx g M L)

theorem roundM433 (m k0 k e lo nx : Nat) (g : Nat → Nat) (M : List (Nat × O)) (L : XK → List A → List (Nat × O) → Prop) :
    ((exec cfgN (fun _ => true) (fun _ => none) 0 1000 (loopOf Try.f69 0) (stM Try.f69.ntmps lo nx [0, 1, 4, 5] (IM 433 m k0 k) 433 (.row e 1 m (.flts .f32 g)) M)).rm [0, 1, 4, 5]).Ok L =
    bif decide (Int.ofNat k < Int.ofNat m) then
      bif decide (Int.ofNat k < Int.ofNat m) then
        L (XK.normal) ([A.sl 433 m, A.int IntKind.i64 (IntKind.i64.wrap (Int.ofNat (k0 + k) + Int.ofNat 1)), A.int IntKind.i64 (Int.ofNat 0), A.int IntKind.i64 (IntKind.i64.wrap (Int.ofNat k + Int.ofNat 1))]) ((433,     O.row e 1 m       (Row.flts FloatKind.f32 fun j =>         match decide (j = (Int.ofNat k).toNat) with         | true => fofInt FloatKind.f32 (Int.ofNat (k0 + k))         | false => g j)) ::   (433, O.row e 1 m (Row.flts FloatKind.f32 g)) :: M)
      else
        False
    else
      L (XK.exit 0) ([A.sl 433 m, A.int IntKind.i64 (Int.ofNat (k0 + k)), A.int IntKind.i64 (Int.ofNat 0), A.int IntKind.i64 (Int.ofNat k)]) ((433, O.row e 1 m (Row.flts FloatKind.f32 g)) :: M) := by kernel_rfl
theorem loopM433 : CodeOK Try.prog (fun _ σ => sumM Try.f69.ntmps [0, 1, 4, 5] 433 (FM 433) σ) (.block 0 (.loop (loopOf Try.f69 0))) :=
  sumM_ok (own := fun _ => true) (lp := fun _ => none) (un := 0) (fuel := 1000) cfgN_ok (lp_none _) (markH 433 fun m k0 k e lo nx g M L => roundM433 m k0 k e lo nx g M L)

theorem roundM434 (m k0 k e lo nx : Nat) (g : Nat → Nat) (M : List (Nat × O)) (L : XK → List A → List (Nat × O) → Prop) :
    ((exec cfgN (fun _ => true) (fun _ => none) 0 1000 (loopOf Try.f69 0) (stM Try.f69.ntmps lo nx [0, 1, 4, 5] (IM 434 m k0 k) 434 (.row e 1 m (.flts .f32 g)) M)).rm [0, 1, 4, 5]).Ok L =
    bif decide (Int.ofNat k < Int.ofNat m) then
      bif decide (Int.ofNat k < Int.ofNat m) then
        L (XK.normal) ([A.sl 434 m, A.int IntKind.i64 (IntKind.i64.wrap (Int.ofNat (k0 + k) + Int.ofNat 1)), A.int IntKind.i64 (Int.ofNat 0), A.int IntKind.i64 (IntKind.i64.wrap (Int.ofNat k + Int.ofNat 1))]) ((434,     O.row e 1 m       (Row.flts FloatKind.f32 fun j =>         match decide (j = (Int.ofNat k).toNat) with         | true => fofInt FloatKind.f32 (Int.ofNat (k0 + k))         | false => g j)) ::   (434, O.row e 1 m (Row.flts FloatKind.f32 g)) :: M)
      else
        False
    else
      L (XK.exit 0) ([A.sl 434 m, A.int IntKind.i64 (Int.ofNat (k0 + k)), A.int IntKind.i64 (Int.ofNat 0), A.int IntKind.i64 (Int.ofNat k)]) ((434, O.row e 1 m (Row.flts FloatKind.f32 g)) :: M) := by kernel_rfl
theorem loopM434 : CodeOK Try.prog (fun _ σ => sumM Try.f69.ntmps [0, 1, 4, 5] 434 (FM 434) σ) (.block 0 (.loop (loopOf Try.f69 0))) :=
  sumM_ok (own := fun _ => true) (lp := fun _ => none) (un := 0) (fuel := 1000) cfgN_ok (lp_none _) (markH 434 fun m k0 k e lo nx g M L => roundM434 m k0 k e lo nx g M L)

theorem roundM288 (m k0 k e lo nx : Nat) (g : Nat → Nat) (M : List (Nat × O)) (L : XK → List A → List (Nat × O) → Prop) :
    ((exec cfgN (fun _ => true) (fun _ => none) 0 1000 (loopOf Try.f69 0) (stM Try.f69.ntmps lo nx [0, 1, 4, 5] (IM 288 m k0 k) 288 (.row e 1 m (.flts .f32 g)) M)).rm [0, 1, 4, 5]).Ok L =
    bif decide (Int.ofNat k < Int.ofNat m) then
      bif decide (Int.ofNat k < Int.ofNat m) then
        L (XK.normal) ([A.sl 288 m, A.int IntKind.i64 (IntKind.i64.wrap (Int.ofNat (k0 + k) + Int.ofNat 1)), A.int IntKind.i64 (Int.ofNat 0), A.int IntKind.i64 (IntKind.i64.wrap (Int.ofNat k + Int.ofNat 1))]) ((288,     O.row e 1 m       (Row.flts FloatKind.f32 fun j =>         match decide (j = (Int.ofNat k).toNat) with         | true => fofInt FloatKind.f32 (Int.ofNat (k0 + k))         | false => g j)) ::   (288, O.row e 1 m (Row.flts FloatKind.f32 g)) :: M)
      else
        False
    else
      L (XK.exit 0) ([A.sl 288 m, A.int IntKind.i64 (Int.ofNat (k0 + k)), A.int IntKind.i64 (Int.ofNat 0), A.int IntKind.i64 (Int.ofNat k)]) ((288, O.row e 1 m (Row.flts FloatKind.f32 g)) :: M) := by kernel_rfl
theorem loopM288 : CodeOK Try.prog (fun _ σ => sumM Try.f69.ntmps [0, 1, 4, 5] 288 (FM 288) σ) (.block 0 (.loop (loopOf Try.f69 0))) :=
  sumM_ok (own := fun _ => true) (lp := fun _ => none) (un := 0) (fuel := 1000) cfgN_ok (lp_none _) (markH 288 fun m k0 k e lo nx g M L => roundM288 m k0 k e lo nx g M L)

theorem roundM289 (m k0 k e lo nx : Nat) (g : Nat → Nat) (M : List (Nat × O)) (L : XK → List A → List (Nat × O) → Prop) :
    ((exec cfgN (fun _ => true) (fun _ => none) 0 1000 (loopOf Try.f69 0) (stM Try.f69.ntmps lo nx [0, 1, 4, 5] (IM 289 m k0 k) 289 (.row e 1 m (.flts .f32 g)) M)).rm [0, 1, 4, 5]).Ok L =
    bif decide (Int.ofNat k < Int.ofNat m) then
      bif decide (Int.ofNat k < Int.ofNat m) then
        L (XK.normal) ([A.sl 289 m, A.int IntKind.i64 (IntKind.i64.wrap (Int.ofNat (k0 + k) + Int.ofNat 1)), A.int IntKind.i64 (Int.ofNat 0), A.int IntKind.i64 (IntKind.i64.wrap (Int.ofNat k + Int.ofNat 1))]) ((289,     O.row e 1 m       (Row.flts FloatKind.f32 fun j =>         match decide (j = (Int.ofNat k).toNat) with         | true => fofInt FloatKind.f32 (Int.ofNat (k0 + k))         | false => g j)) ::   (289, O.row e 1 m (Row.flts FloatKind.f32 g)) :: M)
      else
        False
    else
      L (XK.exit 0) ([A.sl 289 m, A.int IntKind.i64 (Int.ofNat (k0 + k)), A.int IntKind.i64 (Int.ofNat 0), A.int IntKind.i64 (Int.ofNat k)]) ((289, O.row e 1 m (Row.flts FloatKind.f32 g)) :: M) := by kernel_rfl
theorem loopM289 : CodeOK Try.prog (fun _ σ => sumM Try.f69.ntmps [0, 1, 4, 5] 289 (FM 289) σ) (.block 0 (.loop (loopOf Try.f69 0))) :=
  sumM_ok (own := fun _ => true) (lp := fun _ => none) (un := 0) (fuel := 1000) cfgN_ok (lp_none _) (markH 289 fun m k0 k e lo nx g M L => roundM289 m k0 k e lo nx g M L)

theorem roundM290 (m k0 k e lo nx : Nat) (g : Nat → Nat) (M : List (Nat × O)) (L : XK → List A → List (Nat × O) → Prop) :
    ((exec cfgN (fun _ => true) (fun _ => none) 0 1000 (loopOf Try.f69 0) (stM Try.f69.ntmps lo nx [0, 1, 4, 5] (IM 290 m k0 k) 290 (.row e 1 m (.flts .f32 g)) M)).rm [0, 1, 4, 5]).Ok L =
    bif decide (Int.ofNat k < Int.ofNat m) then
      bif decide (Int.ofNat k < Int.ofNat m) then
        L (XK.normal) ([A.sl 290 m, A.int IntKind.i64 (IntKind.i64.wrap (Int.ofNat (k0 + k) + Int.ofNat 1)), A.int IntKind.i64 (Int.ofNat 0), A.int IntKind.i64 (IntKind.i64.wrap (Int.ofNat k + Int.ofNat 1))]) ((290,     O.row e 1 m       (Row.flts FloatKind.f32 fun j =>         match decide (j = (Int.ofNat k).toNat) with         | true => fofInt FloatKind.f32 (Int.ofNat (k0 + k))         | false => g j)) ::   (290, O.row e 1 m (Row.flts FloatKind.f32 g)) :: M)
      else
        False
    else
      L (XK.exit 0) ([A.sl 290 m, A.int IntKind.i64 (Int.ofNat (k0 + k)), A.int IntKind.i64 (Int.ofNat 0), A.int IntKind.i64 (Int.ofNat k)]) ((290, O.row e 1 m (Row.flts FloatKind.f32 g)) :: M) := by kernel_rfl
theorem loopM290 : CodeOK Try.prog (fun _ σ => sumM Try.f69.ntmps [0, 1, 4, 5] 290 (FM 290) σ) (.block 0 (.loop (loopOf Try.f69 0))) :=
  sumM_ok (own := fun _ => true) (lp := fun _ => none) (un := 0) (fuel := 1000) cfgN_ok (lp_none _) (markH 290 fun m k0 k e lo nx g M L => roundM290 m k0 k e lo nx g M L)

theorem roundM320 (m k0 k e lo nx : Nat) (g : Nat → Nat) (M : List (Nat × O)) (L : XK → List A → List (Nat × O) → Prop) :
    ((exec cfgN (fun _ => true) (fun _ => none) 0 1000 (loopOf Try.f69 0) (stM Try.f69.ntmps lo nx [0, 1, 4, 5] (IM 320 m k0 k) 320 (.row e 1 m (.flts .f32 g)) M)).rm [0, 1, 4, 5]).Ok L =
    bif decide (Int.ofNat k < Int.ofNat m) then
      bif decide (Int.ofNat k < Int.ofNat m) then
        L (XK.normal) ([A.sl 320 m, A.int IntKind.i64 (IntKind.i64.wrap (Int.ofNat (k0 + k) + Int.ofNat 1)), A.int IntKind.i64 (Int.ofNat 0), A.int IntKind.i64 (IntKind.i64.wrap (Int.ofNat k + Int.ofNat 1))]) ((320,     O.row e 1 m       (Row.flts FloatKind.f32 fun j =>         match decide (j = (Int.ofNat k).toNat) with         | true => fofInt FloatKind.f32 (Int.ofNat (k0 + k))         | false => g j)) ::   (320, O.row e 1 m (Row.flts FloatKind.f32 g)) :: M)
      else
        False
    else
      L (XK.exit 0) ([A.sl 320 m, A.int IntKind.i64 (Int.ofNat (k0 + k)), A.int IntKind.i64 (Int.ofNat 0), A.int IntKind.i64 (Int.ofNat k)]) ((320, O.row e 1 m (Row.flts FloatKind.f32 g)) :: M) := by kernel_rfl
theorem loopM320 : CodeOK Try.prog (fun _ σ => sumM Try.f69.ntmps [0, 1, 4, 5] 320 (FM 320) σ) (.block 0 (.loop (loopOf Try.f69 0))) :=
  sumM_ok (own := fun _ => true) (lp := fun _ => none) (un := 0) (fuel := 1000) cfgN_ok (lp_none _) (markH 320 fun m k0 k e lo nx g M L => roundM320 m k0 k e lo nx g M L)

theorem roundM321 (m k0 k e lo nx : Nat) (g : Nat → Nat) (M : List (Nat × O)) (L : XK → List A → List (Nat × O) → Prop) :
    ((exec cfgN (fun _ => true) (fun _ => none) 0 1000 (loopOf Try.f69 0) (stM Try.f69.ntmps lo nx [0, 1, 4, 5] (IM 321 m k0 k) 321 (.row e 1 m (.flts .f32 g)) M)).rm [0, 1, 4, 5]).Ok L =
    bif decide (Int.ofNat k < Int.ofNat m) then
      bif decide (Int.ofNat k < Int.ofNat m) then
        L (XK.normal) ([A.sl 321 m, A.int IntKind.i64 (IntKind.i64.wrap (Int.ofNat (k0 + k) + Int.ofNat 1)), A.int IntKind.i64 (Int.ofNat 0), A.int IntKind.i64 (IntKind.i64.wrap (Int.ofNat k + Int.ofNat 1))]) ((321,     O.row e 1 m       (Row.flts FloatKind.f32 fun j =>         match decide (j = (Int.ofNat k).toNat) with         | true => fofInt FloatKind.f32 (Int.ofNat (k0 + k))         | false => g j)) ::   (321, O.row e 1 m (Row.flts FloatKind.f32 g)) :: M)
      else
        False
    else
      L (XK.exit 0) ([A.sl 321 m, A.int IntKind.i64 (Int.ofNat (k0 + k)), A.int IntKind.i64 (Int.ofNat 0), A.int IntKind.i64 (Int.ofNat k)]) ((321, O.row e 1 m (Row.flts FloatKind.f32 g)) :: M) := by kernel_rfl
theorem loopM321 : CodeOK Try.prog (fun _ σ => sumM Try.f69.ntmps [0, 1, 4, 5] 321 (FM 321) σ) (.block 0 (.loop (loopOf Try.f69 0))) :=
  sumM_ok (own := fun _ => true) (lp := fun _ => none) (un := 0) (fuel := 1000) cfgN_ok (lp_none _) (markH 321 fun m k0 k e lo nx g M L => roundM321 m k0 k e lo nx g M L)

theorem roundM322 (m k0 k e lo nx : Nat) (g : Nat → Nat) (M : List (Nat × O)) (L : XK → List A → List (Nat × O) → Prop) :
    ((exec cfgN (fun _ => true) (fun _ => none) 0 1000 (loopOf Try.f69 0) (stM Try.f69.ntmps lo nx [0, 1, 4, 5] (IM 322 m k0 k) 322 (.row e 1 m (.flts .f32 g)) M)).rm [0, 1, 4, 5]).Ok L =
    bif decide (Int.ofNat k < Int.ofNat m) then
      bif decide (Int.ofNat k < Int.ofNat m) then
        L (XK.normal) ([A.sl 322 m, A.int IntKind.i64 (IntKind.i64.wrap (Int.ofNat (k0 + k) + Int.ofNat 1)), A.int IntKind.i64 (Int.ofNat 0), A.int IntKind.i64 (IntKind.i64.wrap (Int.ofNat k + Int.ofNat 1))]) ((322,     O.row e 1 m       (Row.flts FloatKind.f32 fun j =>         match decide (j = (Int.ofNat k).toNat) with         | true => fofInt FloatKind.f32 (Int.ofNat (k0 + k))         | false => g j)) ::   (322, O.row e 1 m (Row.flts FloatKind.f32 g)) :: M)
      else
        False
    else
      L (XK.exit 0) ([A.sl 322 m, A.int IntKind.i64 (Int.ofNat (k0 + k)), A.int IntKind.i64 (Int.ofNat 0), A.int IntKind.i64 (Int.ofNat k)]) ((322, O.row e 1 m (Row.flts FloatKind.f32 g)) :: M) := by kernel_rfl
theorem loopM322 : CodeOK Try.prog (fun _ σ => sumM Try.f69.ntmps [0, 1, 4, 5] 322 (FM 322) σ) (.block 0 (.loop (loopOf Try.f69 0))) :=
  sumM_ok (own := fun _ => true) (lp := fun _ => none) (un := 0) (fuel := 1000) cfgN_ok (lp_none _) (markH 322 fun m k0 k e lo nx g M L => roundM322 m k0 k e lo nx g M L)

theorem roundM400 (m k0 k e lo nx : Nat) (g : Nat → Nat) (M : List (Nat × O)) (L : XK → List A → List (Nat × O) → Prop) :
    ((exec cfgN (fun _ => true) (fun _ => none) 0 1000 (loopOf Try.f69 0) (stM Try.f69.ntmps lo nx [0, 1, 4, 5] (IM 400 m k0 k) 400 (.row e 1 m (.flts .f32 g)) M)).rm [0, 1, 4, 5]).Ok L =
    bif decide (Int.ofNat k < Int.ofNat m) then
      bif decide (Int.ofNat k < Int.ofNat m) then
        L (XK.normal) ([A.sl 400 m, A.int IntKind.i64 (IntKind.i64.wrap (Int.ofNat (k0 + k) + Int.ofNat 1)), A.int IntKind.i64 (Int.ofNat 0), A.int IntKind.i64 (IntKind.i64.wrap (Int.ofNat k + Int.ofNat 1))]) ((400,     O.row e 1 m       (Row.flts FloatKind.f32 fun j =>         match decide (j = (Int.ofNat k).toNat) with         | true => fofInt FloatKind.f32 (Int.ofNat (k0 + k))         | false => g j)) ::   (400, O.row e 1 m (Row.flts FloatKind.f32 g)) :: M)
      else
        False
    else
      L (XK.exit 0) ([A.sl 400 m, A.int IntKind.i64 (Int.ofNat (k0 + k)), A.int IntKind.i64 (Int.ofNat 0), A.int IntKind.i64 (Int.ofNat k)]) ((400, O.row e 1 m (Row.flts FloatKind.f32 g)) :: M) := by kernel_rfl
theorem loopM400 : CodeOK Try.prog (fun _ σ => sumM Try.f69.ntmps [0, 1, 4, 5] 400 (FM 400) σ) (.block 0 (.loop (loopOf Try.f69 0))) :=
  sumM_ok (own := fun _ => true) (lp := fun _ => none) (un := 0) (fuel := 1000) cfgN_ok (lp_none _) (markH 400 fun m k0 k e lo nx g M L => roundM400 m k0 k e lo nx g M L)

theorem roundM401 (m k0 k e lo nx : Nat) (g : Nat → Nat) (M : List (Nat × O)) (L : XK → List A → List (Nat × O) → Prop) :
    ((exec cfgN (fun _ => true) (fun _ => none) 0 1000 (loopOf Try.f69 0) (stM Try.f69.ntmps lo nx [0, 1, 4, 5] (IM 401 m k0 k) 401 (.row e 1 m (.flts .f32 g)) M)).rm [0, 1, 4, 5]).Ok L =
    bif decide (Int.ofNat k < Int.ofNat m) then
      bif decide (Int.ofNat k < Int.ofNat m) then
        L (XK.normal) ([A.sl 401 m, A.int IntKind.i64 (IntKind.i64.wrap (Int.ofNat (k0 + k) + Int.ofNat 1)), A.int IntKind.i64 (Int.ofNat 0), A.int IntKind.i64 (IntKind.i64.wrap (Int.ofNat k + Int.ofNat 1))]) ((401,     O.row e 1 m       (Row.flts FloatKind.f32 fun j =>         match decide (j = (Int.ofNat k).toNat) with         | true => fofInt FloatKind.f32 (Int.ofNat (k0 + k))         | false => g j)) ::   (401, O.row e 1 m (Row.flts FloatKind.f32 g)) :: M)
      else
        False
    else
      L (XK.exit 0) ([A.sl 401 m, A.int IntKind.i64 (Int.ofNat (k0 + k)), A.int IntKind.i64 (Int.ofNat 0), A.int IntKind.i64 (Int.ofNat k)]) ((401, O.row e 1 m (Row.flts FloatKind.f32 g)) :: M) := by kernel_rfl
theorem loopM401 : CodeOK Try.prog (fun _ σ => sumM Try.f69.ntmps [0, 1, 4, 5] 401 (FM 401) σ) (.block 0 (.loop (loopOf Try.f69 0))) :=
  sumM_ok (own := fun _ => true) (lp := fun _ => none) (un := 0) (fuel := 1000) cfgN_ok (lp_none _) (markH 401 fun m k0 k e lo nx g M L => roundM401 m k0 k e lo nx g M L)

theorem roundM402 (m k0 k e lo nx : Nat) (g : Nat → Nat) (M : List (Nat × O)) (L : XK → List A → List (Nat × O) → Prop) :
    ((exec cfgN (fun _ => true) (fun _ => none) 0 1000 (loopOf Try.f69 0) (stM Try.f69.ntmps lo nx [0, 1, 4, 5] (IM 402 m k0 k) 402 (.row e 1 m (.flts .f32 g)) M)).rm [0, 1, 4, 5]).Ok L =
    bif decide (Int.ofNat k < Int.ofNat m) then
      bif decide (Int.ofNat k < Int.ofNat m) then
        L (XK.normal) ([A.sl 402 m, A.int IntKind.i64 (IntKind.i64.wrap (Int.ofNat (k0 + k) + Int.ofNat 1)), A.int IntKind.i64 (Int.ofNat 0), A.int IntKind.i64 (IntKind.i64.wrap (Int.ofNat k + Int.ofNat 1))]) ((402,     O.row e 1 m       (Row.flts FloatKind.f32 fun j =>         match decide (j = (Int.ofNat k).toNat) with         | true => fofInt FloatKind.f32 (Int.ofNat (k0 + k))         | false => g j)) ::   (402, O.row e 1 m (Row.flts FloatKind.f32 g)) :: M)
      else
        False
    else
      L (XK.exit 0) ([A.sl 402 m, A.int IntKind.i64 (Int.ofNat (k0 + k)), A.int IntKind.i64 (Int.ofNat 0), A.int IntKind.i64 (Int.ofNat k)]) ((402, O.row e 1 m (Row.flts FloatKind.f32 g)) :: M) := by kernel_rfl
theorem loopM402 : CodeOK Try.prog (fun _ σ => sumM Try.f69.ntmps [0, 1, 4, 5] 402 (FM 402) σ) (.block 0 (.loop (loopOf Try.f69 0))) :=
  sumM_ok (own := fun _ => true) (lp := fun _ => none) (un := 0) (fuel := 1000) cfgN_ok (lp_none _) (markH 402 fun m k0 k e lo nx g M L => roundM402 m k0 k e lo nx g M L)

noncomputable def mkL : List (Nat × (St → T)) := [(336, sumM Try.f69.ntmps [0, 1, 4, 5] 336 (FM 336)), (337, sumM Try.f69.ntmps [0, 1, 4, 5] 337 (FM 337)), (338, sumM Try.f69.ntmps [0, 1, 4, 5] 338 (FM 338)), (432, sumM Try.f69.ntmps [0, 1, 4, 5] 432 (FM 432)), (433, sumM Try.f69.ntmps [0, 1, 4, 5] 433 (FM 433)), (434, sumM Try.f69.ntmps [0, 1, 4, 5] 434 (FM 434)), (288, sumM Try.f69.ntmps [0, 1, 4, 5] 288 (FM 288)), (289, sumM Try.f69.ntmps [0, 1, 4, 5] 289 (FM 289)), (290, sumM Try.f69.ntmps [0, 1, 4, 5] 290 (FM 290)), (320, sumM Try.f69.ntmps [0, 1, 4, 5] 320 (FM 320)), (321, sumM Try.f69.ntmps [0, 1, 4, 5] 321 (FM 321)), (322, sumM Try.f69.ntmps [0, 1, 4, 5] 322 (FM 322)), (400, sumM Try.f69.ntmps [0, 1, 4, 5] 400 (FM 400)), (401, sumM Try.f69.ntmps [0, 1, 4, 5] 401 (FM 401)), (402, sumM Try.f69.ntmps [0, 1, 4, 5] 402 (FM 402))]
theorem mkL_ok (p : Nat × (St → T)) (h : p ∈ mkL) : CodeOK Try.prog (fun _ σ => p.2 σ) (.block 0 (.loop (loopOf Try.f69 0))) := by
  simp only [mkL, List.mem_cons, List.not_mem_nil, or_false] at h
  rcases h with rfl | rfl | rfl | rfl | rfl | rfl | rfl | rfl | rfl | rfl | rfl | rfl | rfl | rfl | rfl
  · exact loopM336
  · exact loopM337
  · exact loopM338
  · exact loopM432
  · exact loopM433
  · exact loopM434
  · exact loopM288
  · exact loopM289
  · exact loopM290
  · exact loopM320
  · exact loopM321
  · exact loopM322
  · exact loopM400
  · exact loopM401
  · exact loopM402
noncomputable def lpM : List (Nat × (St → T)) := [(0, sumD 0 mkL)]
theorem lpM_ok : LpOK Try.prog (look lpM) (bodyOf Try.f69) := lp_loops (by kernel_rfl) (by kernel_rfl) fun p hp => by
  rw [List.mem_singleton.1 hp]
  exact sumD_ok mkL_ok
/-- 'markFloat32S', walked in place. -/
noncomputable def markS (σ : St) : T := match σ.get 0 with
  | .emp => exec cfgN (fun _ => true) (fun _ => none) 1 1000 (bodyOf Try.f69) σ
  | _ => exec cfgN (fun _ => true) (look lpM) 0 1000 (bodyOf Try.f69) σ
theorem markS_ok : CodeOK Try.prog (fun _ σ => markS σ) (bodyOf Try.f69) := by
  intro σ L hok
  replace hok : (markS σ).Ok Try.prog L := hok
  unfold markS at hok
  split at hok
  · exact codeOK_exec cfgN_ok (lp_none _) σ L hok
  · exact codeOK_exec cfgN_ok lpM_ok σ L hok

noncomputable def ftsM : List (Nat × Func) := [(32, Try.f32), (69, Try.f69)]
theorem ftsM_ok (f : Nat) (fn : Func) (h : (f, fn) ∈ ftsM) : Try.prog.funcs[f]? = some fn ∧ (fn.name == "runtime.NumGoroutine") = false := by
  simp only [ftsM, List.mem_cons, Prod.mk.injEq, List.not_mem_nil, or_false] at h
  rcases h with ⟨rfl, rfl⟩ | ⟨rfl, rfl⟩
  · exact ⟨Try.func32, by kernel_rfl⟩
  · exact ⟨Try.func69, by kernel_rfl⟩
noncomputable def fxM : List (Nat × (St → T)) := [(69, markS)]
theorem fxM_ok (g : Nat) (s : St → T) (fn : Func) (body : Code) (h1 : (g, s) ∈ fxM) (h2 : (g, fn) ∈ ftsM) (h3 : fn.body = some body) : CodeOK Try.prog (fun _ σ => s σ) body := by
  simp only [fxM, List.mem_singleton, Prod.mk.injEq] at h1
  obtain ⟨rfl, rfl⟩ := h1
  simp only [ftsM, List.mem_cons, Prod.mk.injEq, List.not_mem_nil, or_false] at h2
  rcases h2 with ⟨h2, _⟩ | ⟨_, rfl⟩
  · omega
  · have e : bodyOf Try.f69 = body := by unfold bodyOf; rw [h3]
    rw [← e]
    exact markS_ok
/-- The tables of a law that marks. -/
noncomputable def cfgM (env : List (Nat × (List A → Option (Bool × A)))) : Cfg := mkCfgX tab ftsM xts (look env) fxM
theorem cfgM_ok {env : List (Nat × (List A → Option (Bool × A)))} (h : EnvOK Try.prog (look env)) : CfgOK Try.prog (cfgM env) := cfgX_ok tab_eq ftsM_ok xts_ok h mixed fxM_ok
noncomputable def envTuneT : List (Nat × (List A → Option (Bool × A))) := (30, s30T) :: (31, s31T) :: (19, auto cfg24 Try.f19) :: env24
noncomputable def envTuneF : List (Nat × (List A → Option (Bool × A))) := (30, s30F) :: (31, s31F) :: (19, auto cfg24 Try.f19) :: env24
theorem envTuneT_ok : EnvOK Try.prog (look envTuneT) := env_cons s30T_at (env_cons s31T_at (env_cons (auto_at cfg24_ok Try.func19 (by kernel_rfl) (by kernel_rfl)) env24_ok))
theorem envTuneF_ok : EnvOK Try.prog (look envTuneF) := env_cons s30F_at (env_cons s31F_at (env_cons (auto_at cfg24_ok Try.func19 (by kernel_rfl) (by kernel_rfl)) env24_ok))
theorem tuneT (n gn cn : Nat) (r g c : Nat → Nat) (i : Int) (w : Nat) : autoLp (cfgM envTuneT) (fun _ => none) Try.f7 [.agg [.ro 1 n (.flts .f32 r), .ro 1 gn (.flts .f32 g), .ro 1 cn (.flts .f32 c)], .int .i64 i, .flt .f32 w] =
    some (bif decide (szC n gn cn 1048576 < 0) then true else n.ble 1073741824 && (gn.ble 1073741824 && (cn.ble 1073741824 && true)) && (tuneOk n gn cn r g c i w && (n.ble 1073741824 && (gn.ble 1073741824 && (cn.ble 1073741824 && true)) && (tuneOk n gn cn r g c i w && ((n.ble 4611686018427387904 && bif !eqL n n r r then true else gn.ble 4611686018427387904 && bif !eqL gn gn (tuneG n g c i w) (tuneG n g c i w) then true else cn.ble 4611686018427387904 && bif !eqL cn cn c c then true else true) && bif bif !bif !eqL n n r r then false else bif !eqL gn gn (tuneG n g c i w) (tuneG n g c i w) then false else bif !eqL cn cn c c then false else true then true else false then true else n.ble 1073741824 && (gn.ble 1073741824 && (cn.ble 1073741824 && true)) && true && ((n.ble 4611686018427387904 && bif !eqL n n r r then true else gn.ble 4611686018427387904 && bif !eqL gn gn g g then true else cn.ble 4611686018427387904 && bif !eqL cn cn c c then true else true) && bif !bif !eqL n n r r then false else bif !eqL gn gn g g then false else bif !eqL cn cn c c then false else true then true else n.beq n && n.ble 1048577 && true && (gn.beq gn && gn.ble 1048577 && (1 + n).ble 1000000000 && (cn.beq cn && cn.ble 1048577 && (1 + n + gn).ble 1000000000 && (((n.ble 4611686018427387904 && bif !eqL n n r r then true else gn.ble 4611686018427387904 && bif !eqL gn gn (tuneG n g c i w) (tuneG n g c i w) then true else cn.ble 4611686018427387904 && bif !eqL cn cn c c then true else true) || false) && bif bif !bif !eqL n n r r then false else bif !eqL gn gn (tuneG n g c i w) (tuneG n g c i w) then false else bif !eqL cn cn c c then false else true then true else false then true else n.beq n && n.ble 1048577 && true && (gn.beq gn && gn.ble 1048577 && (1 + n).ble 1000000000 && (cn.beq cn && cn.ble 1048577 && (1 + n + gn).ble 1000000000 && (n.ble 1048577 && true && allUpTo (fun k => !heldAt (markF 1) 1 k) n && (gn.ble 1048577 && (1 + n).ble 1000000000 && allUpTo (fun k => !heldAt (markF (1 + n)) (1 + n) k) gn) && (cn.ble 1048577 && (1 + n + gn).ble 1000000000 && allUpTo (fun k => !heldAt (markF (1 + n + gn)) (1 + n + gn) k) cn) && bif Int.ofNat (1 + n + gn + cn) != Int.ofNat (1 + n + gn + cn) then true else n.ble 1073741824 && (gn.ble 1073741824 && (cn.ble 1073741824 && true)) && (tuneOk n gn cn r g c i w && ((n.ble 4611686018427387904 && bif !eqL n n r r then true else gn.ble 4611686018427387904 && bif !eqL gn gn (tuneG n g c i w) (tuneG n g c i w) then true else cn.ble 4611686018427387904 && bif !eqL cn cn c c then true else true) && bif bif !bif !eqL n n r r then false else bif !eqL gn gn (tuneG n g c i w) (tuneG n g c i w) then false else bif !eqL cn cn c c then false else true then true else false then true else n.ble 1048577 && true && allUpTo (fun k => !heldAt (markF 1) 1 k) n && (gn.ble 1048577 && (1 + n).ble 1000000000 && allUpTo (fun k => !heldAt (markF (1 + n)) (1 + n) k) gn) && (cn.ble 1048577 && (1 + n + gn).ble 1000000000 && allUpTo (fun k => !heldAt (markF (1 + n + gn)) (1 + n + gn) k) cn) && bif Int.ofNat (1 + n + gn + cn) != Int.ofNat (1 + n + gn + cn) then true else true))))))))))))), A.bool (bif decide (szC n gn cn 1048576 < 0) then true else bif bif !bif !eqL n n r r then false else bif !eqL gn gn (tuneG n g c i w) (tuneG n g c i w) then false else bif !eqL cn cn c c then false else true then true else false then false else bif !bif !eqL n n r r then false else bif !eqL gn gn g g then false else bif !eqL cn cn c c then false else true then false else bif bif !bif !eqL n n r r then false else bif !eqL gn gn (tuneG n g c i w) (tuneG n g c i w) then false else bif !eqL cn cn c c then false else true then true else false then false else bif Int.ofNat (1 + n + gn + cn) != Int.ofNat (1 + n + gn + cn) then false else bif bif !bif !eqL n n r r then false else bif !eqL gn gn (tuneG n g c i w) (tuneG n g c i w) then false else bif !eqL cn cn c c then false else true then true else false then false else bif Int.ofNat (1 + n + gn + cn) != Int.ofNat (1 + n + gn + cn) then false else true)) := by kernel_rfl
theorem tuneF (n gn cn : Nat) (r g c : Nat → Nat) (i : Int) (w : Nat) : autoLp (cfgM envTuneF) (fun _ => none) Try.f7 [.agg [.ro 1 n (.flts .f32 r), .ro 1 gn (.flts .f32 g), .ro 1 cn (.flts .f32 c)], .int .i64 i, .flt .f32 w] =
    some (bif decide (szC n gn cn 1048576 < 0) then true else n.ble 1073741824 && (gn.ble 1073741824 && (cn.ble 1073741824 && true)) && (!tuneOk n gn cn r g c i w && (n.ble 1073741824 && (gn.ble 1073741824 && (cn.ble 1073741824 && true)) && (!tuneOk n gn cn r g c i w && bif bif !true then true else false then true else n.ble 1073741824 && (gn.ble 1073741824 && (cn.ble 1073741824 && true)) && true && ((n.ble 4611686018427387904 && bif !eqL n n r r then true else gn.ble 4611686018427387904 && bif !eqL gn gn g g then true else cn.ble 4611686018427387904 && bif !eqL cn cn c c then true else true) && bif !bif !eqL n n r r then false else bif !eqL gn gn g g then false else bif !eqL cn cn c c then false else true then true else n.beq n && n.ble 1048577 && true && (gn.beq gn && gn.ble 1048577 && (1 + n).ble 1000000000 && (cn.beq cn && cn.ble 1048577 && (1 + n + gn).ble 1000000000 && ((true || false) && bif bif !true then true else false then true else n.ble 1073741824 && (gn.ble 1073741824 && (cn.ble 1073741824 && true)) && (!tuneOk n gn cn r g c i w && bif bif !true then true else false then true else true)))))))), A.bool (bif decide (szC n gn cn 1048576 < 0) then true else bif bif !true then true else false then false else bif !bif !eqL n n r r then false else bif !eqL gn gn g g then false else bif !eqL cn cn c c then false else true then false else bif bif !true then true else false then false else bif bif !true then true else false then false else true)) := by kernel_rfl

theorem held_mark (k0 m : Nat) : allUpTo (fun k => !heldAt (markF k0) k0 k) m = true := allUpTo_all (fun k => by
  show (!(forder .f32 (fofInt .f32 (Int.ofNat (k0 + k))) (fofInt .f32 (Int.ofNat (k0 + k))) != some .eq)) = true
  rw [forder_self (notNaN_ofInt _ _)]; rfl) m

theorem law7 {a b : A} {i : Int} (ha : CircA a) (_hi : IntA i) (hb : FltA b) : PureCall Try.prog 7 [a, .int .i64 i, b] (.bool true) := by
  obtain ⟨n, gn, cn, r, g, c, hs, _, rfl⟩ := ha
  obtain ⟨w, _, rfl⟩ := hb
  have keyT := (auto_at (cfgM_ok envTuneT_ok) Try.func7 (by kernel_rfl) (by kernel_rfl)).2 _ _ _ (tuneT n gn cn r g c i w)
  have keyF := (auto_at (cfgM_ok envTuneF_ok) Try.func7 (by kernel_rfl) (by kernel_rfl)).2 _ _ _ (tuneF n gn cn r g c i w)
  rcases szC_le (left := 1048576) (by omega) (by omega) hs.1 hs.2.1 hs.2.2 with e | ⟨e0, e⟩
  · rw [e] at keyF; exact keyF rfl
  have b1 : n ≤ 1048576 := by omega
  have b2 : gn ≤ 1048576 := by omega
  have b3 : cn ≤ 1048576 := by omega
  rw [decide_eq_false (p := szC n gn cn 1048576 < 0) (by omega)] at keyT keyF
  clear e e0
  cases ho : tuneOk n gn cn r g c i w
  · simp only [ho, eqL_self, beq_self_eq_true, Bool.not_true, Bool.not_false, cond_false, cond_true, Bool.and_true, Bool.true_and, Bool.or_false, Nat.beq_refl,
      ble_of (Nat.le_trans b1 (show 1048576 ≤ 1073741824 by omega)), ble_of (Nat.le_trans b2 (show 1048576 ≤ 1073741824 by omega)), ble_of (Nat.le_trans b3 (show 1048576 ≤ 1073741824 by omega)),
      ble_of (Nat.le_trans b1 (show 1048576 ≤ 4611686018427387904 by omega)), ble_of (Nat.le_trans b2 (show 1048576 ≤ 4611686018427387904 by omega)), ble_of (Nat.le_trans b3 (show 1048576 ≤ 4611686018427387904 by omega)),
      ble_of (Nat.le_trans b1 (show 1048576 ≤ 1048577 by omega)), ble_of (Nat.le_trans b2 (show 1048576 ≤ 1048577 by omega)), ble_of (Nat.le_trans b3 (show 1048576 ≤ 1048577 by omega)),
      ble_of (show 1 + n ≤ 1000000000 by omega), ble_of (show 1 + n + gn ≤ 1000000000 by omega)] at keyF
    exact keyF trivial
  · simp only [ho, held_mark, eqL_self, beq_self_eq_true, bne_self_eq_false, Bool.not_true, Bool.not_false, cond_false, cond_true, Bool.and_true, Bool.true_and, Bool.or_false, Nat.beq_refl,
      ble_of (Nat.le_trans b1 (show 1048576 ≤ 1073741824 by omega)), ble_of (Nat.le_trans b2 (show 1048576 ≤ 1073741824 by omega)), ble_of (Nat.le_trans b3 (show 1048576 ≤ 1073741824 by omega)),
      ble_of (Nat.le_trans b1 (show 1048576 ≤ 4611686018427387904 by omega)), ble_of (Nat.le_trans b2 (show 1048576 ≤ 4611686018427387904 by omega)), ble_of (Nat.le_trans b3 (show 1048576 ≤ 4611686018427387904 by omega)),
      ble_of (Nat.le_trans b1 (show 1048576 ≤ 1048577 by omega)), ble_of (Nat.le_trans b2 (show 1048576 ≤ 1048577 by omega)), ble_of (Nat.le_trans b3 (show 1048576 ≤ 1048577 by omega)),
      ble_of (show 1 + n ≤ 1000000000 by omega), ble_of (show 1 + n + gn ≤ 1000000000 by omega)] at keyT
    exact keyT trivial
end Go.Fw.C1

/-
  Transformers.
-/
namespace Go.Fw.C1
open Go.Proofs
def trR (s t i : Nat) : Nat := [s, t].getD i 0
def trC (a b k i : Nat) : Nat := [a, fop .mul .f32 k (root32 (fop .mul .f32 a b)), fop .mul .f32 k (root32 (fop .mul .f32 a b)), b].getD i 0
noncomputable def trOk (a b k s t : Nat) : Bool := valid 2 2 4 (trR s t) (trR (can .f32 0) (can .f32 0)) (trC a b k)
theorem auto43T (a b k s t : Nat) : autoS cfg22 (fun _ => none) false Try.f43 [.flt .f32 a, .flt .f32 b, .flt .f32 k, .flt .f32 s, .flt .f32 t] =
    some ((!!valid 2 2 4 (fun i => [s, t].getD i 0) (fun i => [can FloatKind.f32 0, can FloatKind.f32 0].getD i 0) fun i => [a, fop BinOp.mul FloatKind.f32 k (root32 (fop BinOp.mul FloatKind.f32 a b)), fop BinOp.mul FloatKind.f32 k (root32 (fop BinOp.mul FloatKind.f32 a b)), b].getD i 0) && true, A.tup [A.agg [A.ro 1 2 (Row.flts FloatKind.f32 fun i => [s, t].getD i 0), A.ro 1 2 (Row.flts FloatKind.f32 fun i => [can FloatKind.f32 0, can FloatKind.f32 0].getD i 0), A.ro 1 4 (Row.flts FloatKind.f32 fun i => [a, fop BinOp.mul FloatKind.f32 k (root32 (fop BinOp.mul FloatKind.f32 a b)), fop BinOp.mul FloatKind.f32 k (root32 (fop BinOp.mul FloatKind.f32 a b)), b].getD i 0)], A.bool true]) := by kernel_rfl
noncomputable def s43T : List A → Option (Bool × A)
  | [.flt .f32 a, .flt .f32 b, .flt .f32 k, .flt .f32 s, .flt .f32 t] => some (trOk a b k s t, .tup [.agg [.ro 1 2 (.flts .f32 (trR s t)), .ro 1 2 (.flts .f32 (trR (can .f32 0) (can .f32 0))), .ro 1 4 (.flts .f32 (trC a b k))], .bool true])
  | _ => none
theorem s43T_at : EnvAt Try.prog 43 s43T := of_autoS cfg22_ok (lp_none _) Try.func43 (by kernel_rfl) (by kernel_rfl) fun ds cc rr h hc => by
  unfold s43T at h
  split at h
  · rename_i a b k s t
    simp only [Option.some.injEq, Prod.mk.injEq] at h
    obtain ⟨rfl, rfl⟩ := h
    refine auto_fit (auto43T a b k s t) ?_ ?_
    · rfl
    · show (!!trOk a b k s t && true) = true
      simpa using hc
  · cases h

theorem auto43F (a b k s t : Nat) : autoS cfg22 (fun _ => none) true Try.f43 [.flt .f32 a, .flt .f32 b, .flt .f32 k, .flt .f32 s, .flt .f32 t] =
    some ((!valid 2 2 4 (fun i => [s, t].getD i 0) (fun i => [can FloatKind.f32 0, can FloatKind.f32 0].getD i 0) fun i => [a, fop BinOp.mul FloatKind.f32 k (root32 (fop BinOp.mul FloatKind.f32 a b)), fop BinOp.mul FloatKind.f32 k (root32 (fop BinOp.mul FloatKind.f32 a b)), b].getD i 0) && true, A.tup [A.agg [A.emp, A.emp, A.emp], A.bool false]) := by kernel_rfl
noncomputable def s43F : List A → Option (Bool × A)
  | [.flt .f32 a, .flt .f32 b, .flt .f32 k, .flt .f32 s, .flt .f32 t] => some (!trOk a b k s t, .tup [.agg [.emp, .emp, .emp], .bool false])
  | _ => none
theorem s43F_at : EnvAt Try.prog 43 s43F := of_autoS cfg22_ok (lp_none _) Try.func43 (by kernel_rfl) (by kernel_rfl) fun ds cc rr h hc => by
  unfold s43F at h
  split at h
  · rename_i a b k s t
    simp only [Option.some.injEq, Prod.mk.injEq] at h
    obtain ⟨rfl, rfl⟩ := h
    refine auto_fit (auto43F a b k s t) ?_ ?_
    · rfl
    · show (!trOk a b k s t && true) = true
      simpa using hc
  · cases h

theorem auto44T (a b k s t : Nat) : autoS cfg22 (fun _ => none) false Try.f44 [.flt .f32 a, .flt .f32 b, .flt .f32 k, .flt .f32 s, .flt .f32 t] =
    some ((!!valid 2 2 4 (fun i => [s, t].getD i 0) (fun i => [can FloatKind.f32 0, can FloatKind.f32 0].getD i 0) fun i => [a, fop BinOp.mul FloatKind.f32 k (root32 (fop BinOp.mul FloatKind.f32 a b)), fop BinOp.mul FloatKind.f32 k (root32 (fop BinOp.mul FloatKind.f32 a b)), b].getD i 0) && true, A.tup [A.agg [A.ro 1 2 (Row.flts FloatKind.f32 fun i => [s, t].getD i 0), A.ro 1 2 (Row.flts FloatKind.f32 fun i => [can FloatKind.f32 0, can FloatKind.f32 0].getD i 0), A.ro 1 4 (Row.flts FloatKind.f32 fun i => [a, fop BinOp.mul FloatKind.f32 k (root32 (fop BinOp.mul FloatKind.f32 a b)), fop BinOp.mul FloatKind.f32 k (root32 (fop BinOp.mul FloatKind.f32 a b)), b].getD i 0)], A.bool true]) := by kernel_rfl
noncomputable def s44T : List A → Option (Bool × A)
  | [.flt .f32 a, .flt .f32 b, .flt .f32 k, .flt .f32 s, .flt .f32 t] => some (trOk a b k s t, .tup [.agg [.ro 1 2 (.flts .f32 (trR s t)), .ro 1 2 (.flts .f32 (trR (can .f32 0) (can .f32 0))), .ro 1 4 (.flts .f32 (trC a b k))], .bool true])
  | _ => none
theorem s44T_at : EnvAt Try.prog 44 s44T := of_autoS cfg22_ok (lp_none _) Try.func44 (by kernel_rfl) (by kernel_rfl) fun ds cc rr h hc => by
  unfold s44T at h
  split at h
  · rename_i a b k s t
    simp only [Option.some.injEq, Prod.mk.injEq] at h
    obtain ⟨rfl, rfl⟩ := h
    refine auto_fit (auto44T a b k s t) ?_ ?_
    · rfl
    · show (!!trOk a b k s t && true) = true
      simpa using hc
  · cases h

theorem auto44F (a b k s t : Nat) : autoS cfg22 (fun _ => none) true Try.f44 [.flt .f32 a, .flt .f32 b, .flt .f32 k, .flt .f32 s, .flt .f32 t] =
    some ((!valid 2 2 4 (fun i => [s, t].getD i 0) (fun i => [can FloatKind.f32 0, can FloatKind.f32 0].getD i 0) fun i => [a, fop BinOp.mul FloatKind.f32 k (root32 (fop BinOp.mul FloatKind.f32 a b)), fop BinOp.mul FloatKind.f32 k (root32 (fop BinOp.mul FloatKind.f32 a b)), b].getD i 0) && true, A.tup [A.agg [A.emp, A.emp, A.emp], A.bool false]) := by kernel_rfl
noncomputable def s44F : List A → Option (Bool × A)
  | [.flt .f32 a, .flt .f32 b, .flt .f32 k, .flt .f32 s, .flt .f32 t] => some (!trOk a b k s t, .tup [.agg [.emp, .emp, .emp], .bool false])
  | _ => none
theorem s44F_at : EnvAt Try.prog 44 s44F := of_autoS cfg22_ok (lp_none _) Try.func44 (by kernel_rfl) (by kernel_rfl) fun ds cc rr h hc => by
  unfold s44F at h
  split at h
  · rename_i a b k s t
    simp only [Option.some.injEq, Prod.mk.injEq] at h
    obtain ⟨rfl, rfl⟩ := h
    refine auto_fit (auto44F a b k s t) ?_ ?_
    · rfl
    · show (!trOk a b k s t && true) = true
      simpa using hc
  · cases h



noncomputable def envTrT : List (Nat × (List A → Option (Bool × A))) := (43, s43T) :: (44, s44T) :: (19, auto cfg24 Try.f19) :: env24
noncomputable def envTrF : List (Nat × (List A → Option (Bool × A))) := (43, s43F) :: (44, s44F) :: (19, auto cfg24 Try.f19) :: env24
theorem envTrT_ok : EnvOK Try.prog (look envTrT) := env_cons s43T_at (env_cons s44T_at (env_cons (auto_at cfg24_ok Try.func19 (by kernel_rfl) (by kernel_rfl)) env24_ok))
theorem envTrF_ok : EnvOK Try.prog (look envTrF) := env_cons s43F_at (env_cons s44F_at (env_cons (auto_at cfg24_ok Try.func19 (by kernel_rfl) (by kernel_rfl)) env24_ok))
theorem trT (a b k s t : Nat) : autoLp (cfgM envTrT) (fun _ => none) Try.f11 [.flt .f32 a, .flt .f32 b, .flt .f32 k, .flt .f32 s, .flt .f32 t] =
    some (trOk a b k s t && (trOk a b k s t && ((bif !eqL 2 2 (trR s t) (trR s t) then true else bif !eqL 2 2 (trR (can FloatKind.f32 0) (can FloatKind.f32 0)) (trR (can FloatKind.f32 0) (can FloatKind.f32 0)) then true else bif !eqL 4 4 (trC a b k) (trC a b k) then true else true) && bif bif !bif !eqL 2 2 (trR s t) (trR s t) then false else bif !eqL 2 2 (trR (can FloatKind.f32 0) (can FloatKind.f32 0)) (trR (can FloatKind.f32 0) (can FloatKind.f32 0)) then false else bif !eqL 4 4 (trC a b k) (trC a b k) then false else true then true else false then true else allUpTo (fun k => !heldAt (markF 1) 1 k) 2 && allUpTo (fun k => !heldAt (markF (1 + 2)) 3 k) 2 && allUpTo (fun k => !heldAt (markF (1 + 2 + 2)) 5 k) 4 && (trOk a b k s t && ((bif !eqL 2 2 (trR s t) (trR s t) then true else bif !eqL 2 2 (trR (can FloatKind.f32 0) (can FloatKind.f32 0)) (trR (can FloatKind.f32 0) (can FloatKind.f32 0)) then true else bif !eqL 4 4 (trC a b k) (trC a b k) then true else true) && bif bif !bif !eqL 2 2 (trR s t) (trR s t) then false else bif !eqL 2 2 (trR (can FloatKind.f32 0) (can FloatKind.f32 0)) (trR (can FloatKind.f32 0) (can FloatKind.f32 0)) then false else bif !eqL 4 4 (trC a b k) (trC a b k) then false else true then true else false then true else allUpTo (fun k => !heldAt (markF 1) 1 k) 2 && allUpTo (fun k => !heldAt (markF (1 + 2)) 3 k) 2 && allUpTo (fun k => !heldAt (markF (1 + 2 + 2)) 5 k) 4 && true)))), A.bool (bif bif !bif !eqL 2 2 (trR s t) (trR s t) then false else bif !eqL 2 2 (trR (can FloatKind.f32 0) (can FloatKind.f32 0)) (trR (can FloatKind.f32 0) (can FloatKind.f32 0)) then false else bif !eqL 4 4 (trC a b k) (trC a b k) then false else true then true else false then false else bif bif !bif !eqL 2 2 (trR s t) (trR s t) then false else bif !eqL 2 2 (trR (can FloatKind.f32 0) (can FloatKind.f32 0)) (trR (can FloatKind.f32 0) (can FloatKind.f32 0)) then false else bif !eqL 4 4 (trC a b k) (trC a b k) then false else true then true else false then false else true)) := by kernel_rfl
theorem trF (a b k s t : Nat) : autoLp (cfgM envTrF) (fun _ => none) Try.f11 [.flt .f32 a, .flt .f32 b, .flt .f32 k, .flt .f32 s, .flt .f32 t] =
    some (!trOk a b k s t && (!trOk a b k s t && bif bif !true then true else false then true else !trOk a b k s t && bif bif !true then true else false then true else true), A.bool (bif bif !true then true else false then false else bif bif !true then true else false then false else true)) := by kernel_rfl
theorem law11 {a b k s t : A} (ha : FltA a) (hb : FltA b) (hk : FltA k) (hs : FltA s) (ht : FltA t) : PureCall Try.prog 11 [a, b, k, s, t] (.bool true) := by
  obtain ⟨a, _, rfl⟩ := ha
  obtain ⟨b, _, rfl⟩ := hb
  obtain ⟨k, _, rfl⟩ := hk
  obtain ⟨s, _, rfl⟩ := hs
  obtain ⟨t, _, rfl⟩ := ht
  have keyT := (auto_at (cfgM_ok envTrT_ok) Try.func11 (by kernel_rfl) (by kernel_rfl)).2 _ _ _ (trT a b k s t)
  have keyF := (auto_at (cfgM_ok envTrF_ok) Try.func11 (by kernel_rfl) (by kernel_rfl)).2 _ _ _ (trF a b k s t)
  cases ho : trOk a b k s t
  · simp only [ho, eqL_self, beq_self_eq_true, bne_self_eq_false, Bool.not_true, Bool.not_false, cond_false, cond_true, Bool.and_true, Bool.true_and, Bool.or_false, Nat.beq_refl] at keyF
    exact keyF trivial
  · simp only [ho, held_mark, eqL_self, beq_self_eq_true, bne_self_eq_false, Bool.not_true, Bool.not_false, cond_false, cond_true, Bool.and_true, Bool.true_and, Bool.or_false, Nat.beq_refl] at keyT
    exact keyT trivial
end Go.Fw.C1
