/-
  The seat's tables.
-/
import Derived.Test.YtcjkbhgiaaiflaaFwC
import Derived.Test.YtcjkbhgiaaiflaaChecked

namespace Go.Fw.C1
open Go.Proofs

def types : List Nat := [41, 45, 4, 3, 2, 22, 27, 37, 24, 33, 85, 84, 50, 97, 102, 104]
def tab : List (Nat × TI) :=
  [(41, { bytes := 4, zero := [A.flt FloatKind.f32 0], fk := some FloatKind.f32 }),
      (45, { bytes := 8, zero := [A.flt FloatKind.f64 0], fk := some FloatKind.f64 }),
      (4, { bytes := 1, zero := [A.bool false], isBool := true }),
      (3, { bytes := 8, zero := [A.int IntKind.i64 (Int.ofNat 0)], ik := some IntKind.i64 }),
      (2, { bytes := 8, zero := [A.int IntKind.i64 (Int.ofNat 0)], ik := some IntKind.i64 }),
      (22, { bytes := 24, zero := [A.emp], elem := some 41 }),
      (27, { agg := true, size := 3, bytes := 72, zero := [A.emp, A.emp, A.emp], fields := [(0, 1), (1, 1), (2, 1)] }),
      (37,
        { agg := true, size := 5, bytes := 120, zero := [A.emp, A.emp, A.emp, A.emp, A.emp],
          fields := [(0, 3), (3, 1), (4, 1)] }),
      (24, { agg := true, size := 3, bytes := 72, zero := [A.emp, A.emp, A.emp], fields := [(0, 1), (1, 1), (2, 1)] }),
      (33,
        { agg := true, size := 5, bytes := 120, zero := [A.emp, A.emp, A.emp, A.emp, A.emp],
          fields := [(0, 3), (3, 1), (4, 1)] }),
      (85, { bytes := 8, zero := [A.cpx FloatKind.f32 0 0], ck := some FloatKind.f32 }),
      (84, { bytes := 16, zero := [A.cpx FloatKind.f64 0 0], ck := some FloatKind.f64 }),
      (50, { bytes := 24, zero := [A.emp], elem := some 85 }), (97, { bytes := 24, zero := [A.emp], elem := some 22 }),
      (102, { bytes := 8, zero := [A.int IntKind.u64 (Int.ofNat 0)], ik := some IntKind.u64 }),
      (104, { bytes := 4, zero := [A.int IntKind.u32 (Int.ofNat 0)], ik := some IntKind.u32 })]
theorem tab_eq : tabOf Try.prog types = some tab := by kernel_rfl

theorem mixed : Try.prog.follows .mixedOrders = true := by kernel_rfl

end Go.Fw.C1

/-
  Slices of floats: copied.
-/
namespace Go.Fw.C1
open Go.Proofs

noncomputable def cfgN : Cfg := mkCfg tab [] [] (look [])

theorem cfgN_ok : CfgOK Try.prog cfgN := cfg_ok tab_eq (fun f fn h => by cases h) (fun f e h => by cases h) (fun f s h => by cases h) mixed

theorem wrap_small {x : Int} (h0 : 0 ≤ x) (h : x ≤ 4611686018427387904) : IntKind.i64.wrap x = x := by
  simp [IntKind.wrap, IntKind.bits, IntKind.signed]
  omega

def F53 : List A → List (Option O) → Option R3
  | [.ro 1 m (.flts .f32 xs), .sl 48 m1, .int .i64 0], [some (.row 41 1 m2 (.flts .f32 _))] =>
    some (.ite (Nat.beq m1 m && Nat.beq m2 m && Nat.ble m 1073741824) (.leaf .normal [.ro 1 m (.flts .f32 xs), .sl 48 m, .int .i64 (Int.ofNat m)] [.row 41 1 m (.flts .f32 xs)]) .fail)
  | _, _ => none
noncomputable def lp53 : List (Nat × (St → T)) := [(0, sumAt 22 96 [0, 3, 4] [48] F53)]

theorem round53 (m k : Nat) (xs g : Nat → Nat) (L : XK → List A → List (Option O) → Prop) :
    ((exec cfgN (fun _ => false) (fun _ => none) 0 1000 (loopOf Try.f53 0) (litSt 22 96 [0, 3, 4] [48] [.ro 1 m (.flts .f32 xs), .sl 48 m, .int .i64 (Int.ofNat k)] [.row 41 1 m (.flts .f32 g)])).rt [0, 3, 4] [48]).Ok L =
    bif decide (Int.ofNat k < Int.ofNat m) then
      bif true && decide (Int.ofNat k < Int.ofNat m) then
        bif true && decide (Int.ofNat k < Int.ofNat m) then
          L .normal [.ro 1 m (.flts .f32 xs), .sl 48 m, .int .i64 (IntKind.i64.wrap (Int.ofNat k + Int.ofNat 1))]
            [some (.row 41 1 m (.flts .f32 fun j => match decide (j = (Int.ofNat k).toNat) with | true => xs (Int.ofNat k).toNat | false => g j))]
        else False
      else False
    else L (.exit 0) [.ro 1 m (.flts .f32 xs), .sl 48 m, .int .i64 (Int.ofNat k)] [some (.row 41 1 m (.flts .f32 g))] := by kernel_rfl

theorem loop53 : CodeOK Try.prog (fun _ σ => sumAt 22 96 [0, 3, 4] [48] F53 σ) (.block 0 (.loop (loopOf Try.f53 0))) := by
  refine block_ok (own := fun _ => false) (lp := fun _ => none) (un := 0) (fuel := 1000) cfgN_ok (lp_none _) fun az os R hF hok => ?_
  unfold F53 at hF
  split at hF
  · rename_i m xs m1 m2 g
    injection hF with hF
    subst hF
    -- at the k-th head the first k places are as they shall be
    have hg := hok.guard
    · have hg' := hg
      simp only [Bool.and_eq_true] at hg'
      have e1 := (Nat.eq_of_beq_eq_true hg'.1.1).symm
      have e2 := (Nat.eq_of_beq_eq_true hg'.1.2).symm
      have e3 := Nat.le_of_ble_eq_true hg'.2
      subst e1 e2
      refine ⟨fun k => [.ro 1 m (.flts .f32 xs), .sl 48 m, .int .i64 (Int.ofNat k)], fun k => [.row 41 1 m (.flts .f32 fun i => if i < k then xs i else g i)], m,
        fun x az os => x = .exit 0 ∧ az = [.ro 1 m (.flts .f32 xs), .sl 48 m, .int .i64 (Int.ofNat m)] ∧ os = [.row 41 1 m (.flts .f32 xs)], rfl, ⟨⟨41, .flts .f32 g, rfl, .inr rfl, fun i _ => by simp [Row.at]⟩, trivial⟩, fun k _ => rfl, fun k => rfl, fun k hk => ?_, ?_⟩
      · rw [round53]
        by_cases hkm : k < m
        · have hd : decide (Int.ofNat k < Int.ofNat m) = true := by simp; omega
          rw [hd, Bool.and_self, cond_true, cond_true, cond_true]
          refine ⟨hkm, ?_, ⟨41, _, rfl, .inr rfl, fun i hi => ?_⟩, trivial⟩
          · rw [wrap_small (by simp; omega) (by simp; omega)]
            rfl
          · show A.flt .f32 (match decide (i = k) with | true => xs k | false => if i < k then xs i else g i) = A.flt .f32 (if i < k + 1 then xs i else g i)
            by_cases hik : i = k
            · subst hik; simp
            · have : (i < k) = (i < k + 1) := by simp; omega
              simp [hik, this]
        · have hd : decide (Int.ofNat k < Int.ofNat m) = false := by simp; omega
          rw [hd, cond_false]
          have : k = m := by omega
          subst this
          exact ⟨_, [.row 41 1 k (.flts .f32 xs)], ALe.self _, ⟨⟨41, _, rfl, .inr rfl, fun i hi => by simp [Row.at, hi]⟩, trivial⟩, rfl, rfl, rfl, rfl⟩
      · rintro x az os ⟨rfl, rfl, rfl⟩ L hL
        exact hL.1 hg
  · cases hF

theorem res53 (m : Nat) (xs : Nat → Nat) :
    (exec cfgN (fun _ => false) (look lp53) 0 1000 (bodyOf Try.f53) (St.enter Try.f53 [.ro 1 m (.flts .f32 xs)] [] 0)).res cfgN Try.f53 =
    bif decide (Int.ofNat m ≤ 1073741824) then bif Nat.beq (Int.ofNat m).toNat m && Nat.beq (Int.ofNat m).toNat m && Nat.ble m 1073741824 then some (.ro 1 m (.flts .f32 xs)) else none else none := by kernel_rfl

/-- 'toFloat32S'. -/
theorem pure53 {m : Nat} {xs : Nat → Nat} (hm : m ≤ 1073741824) : PureCall Try.prog 53 [.ro 1 m (.flts .f32 xs)] (.ro 1 m (.flts .f32 xs)) := by
  have hres := res53 m xs
  rw [show decide (Int.ofNat m ≤ 1073741824) = true by simp; omega, show (Nat.beq (Int.ofNat m).toNat m && Nat.beq (Int.ofNat m).toNat m && Nat.ble m 1073741824) = true by simp [Nat.ble_eq]; omega] at hres
  refine contract cfgN_ok Try.func53 (by kernel_rfl) (by kernel_rfl) (lp_loops (by kernel_rfl) (by kernel_rfl) fun p hp => ?_) hres
  rw [List.mem_singleton.1 hp]
  exact loop53
end Go.Fw.C1

/-
  Floats compared.
-/
namespace Go.Fw.C1
open Go.Proofs

def xts : List (Nat × Ext) := [(98, .sqrt), (100, .bits64), (101, .bits32)]
theorem xts_ok (f : Nat) (e : Ext) (h : (f, e) ∈ xts) : ∃ fn, XtOK Try.prog f e fn := by
  simp only [xts, List.mem_cons, Prod.mk.injEq, List.not_mem_nil, or_false] at h
  rcases h with ⟨rfl, rfl⟩ | ⟨rfl, rfl⟩ | ⟨rfl, rfl⟩
  · exact ⟨_, Try.func98, by kernel_rfl, by kernel_rfl, by kernel_rfl, by kernel_rfl⟩
  · exact ⟨_, Try.func100, by kernel_rfl, by kernel_rfl, by kernel_rfl, by kernel_rfl⟩
  · exact ⟨_, Try.func101, by kernel_rfl, by kernel_rfl, by kernel_rfl, by kernel_rfl⟩
theorem no_fts (P : Program) (f : Nat) (fn : Func) (h : (f, fn) ∈ ([] : List (Nat × Func))) : P.funcs[f]? = some fn ∧ (fn.name == "runtime.NumGoroutine") = false := by cases h

noncomputable def cfg0 : Cfg := mkCfg tab [] xts (look [])
theorem cfg0_ok : CfgOK Try.prog cfg0 := cfg_ok tab_eq (no_fts _) xts_ok env_nil mixed

/-- The laws' 'sameFloat'. -/
def nanF (k : FloatKind) (x : Nat) : Bool := forder k x x != some .eq
def zeroF (k : FloatKind) (x : Nat) : Bool := forder k x (can k 0) == some .eq
def upF (x : Nat) : Bool := forder .f64 (fop .quo .f64 (can .f64 4607182418800017408) x) (can .f64 0) == some .gt
def sameF (x y : Nat) : Bool :=
  bif (bif nanF .f64 x then true else nanF .f64 y) then (bif nanF .f64 x then nanF .f64 y else false)
  else bif (bif zeroF .f64 x then zeroF .f64 y else false) then (upF x == upF y) else (forder .f64 x y == some .eq)
theorem auto29 (x y : Nat) : auto cfg0 Try.f29 [.flt .f64 x, .flt .f64 y] = some (bif (bif nanF .f64 x then true else nanF .f64 y) then true else bif (bif zeroF .f64 x then zeroF .f64 y else false) then true else true, .bool (sameF x y)) := by kernel_rfl

def spec29 : List A → Option (Bool × A)
  | [.flt .f64 x, .flt .f64 y] => some (true, .bool (sameF x y))
  | _ => none
theorem spec29_at : EnvAt Try.prog 29 spec29 := by
  refine ⟨⟨_, Try.func29, by kernel_rfl, by kernel_rfl⟩, fun ds c r h hc => ?_⟩
  unfold spec29 at h
  split at h
  · rename_i x y
    simp only [Option.some.injEq, Prod.mk.injEq] at h
    obtain ⟨_, rfl⟩ := h
    refine (auto_at cfg0_ok Try.func29 (by kernel_rfl) (by kernel_rfl)).2 _ _ _ (auto29 x y) ?_
    cases (bif nanF .f64 x then true else nanF .f64 y) <;> cases (bif zeroF .f64 x then zeroF .f64 y else false) <;> rfl
  · cases h

/-- The first contracts: functions that call nothing but what the machine has. -/
noncomputable def env1 : List (Nat × (List A → Option (Bool × A))) := [(29, spec29), (96, auto cfg0 Try.f96), (99, auto cfg0 Try.f99)]
theorem env1_ok : EnvOK Try.prog (look env1) :=
  env_cons spec29_at (env_cons (auto_at cfg0_ok Try.func96 (by kernel_rfl) (by kernel_rfl)) (env_cons (auto_at cfg0_ok Try.func99 (by kernel_rfl) (by kernel_rfl)) env_nil))
noncomputable def cfg1 : Cfg := mkCfg tab [] xts (look env1)
theorem cfg1_ok : CfgOK Try.prog cfg1 := cfg_ok tab_eq (no_fts _) xts_ok env1_ok mixed
end Go.Fw.C1

/-
  'eqFloat32S': the law's comparison of two slices.
-/
namespace Go.Fw.C1
open Go.Proofs

def sameAt (xs ys : Nat → Nat) (k : Nat) : Bool := sameF (fcvt .f32 .f64 (xs k)) (fcvt .f32 .f64 (ys k))

theorem round55 (m n k : Nat) (xs ys : Nat → Nat) (L : XK → List A → List (Option O) → Prop) :
    ((exec cfg1 (fun _ => true) (fun _ => none) 0 1000 (loopOf Try.f55 0) (litSt 29 112 [0, 1, 4, 5] [] [.ro 1 m (.flts .f32 xs), .ro 1 n (.flts .f32 ys), .bool false, .int .i64 (Int.ofNat k)] [])).rt [0, 1, 4, 5] []).Ok L =
    bif decide (Int.ofNat k < Int.ofNat m) then
      bif (decide (Int.ofNat k < Int.ofNat n) && (decide (Int.ofNat k < Int.ofNat m) && true)) then
        bif !(sameAt xs ys k) then L .ret [.ro 1 m (.flts .f32 xs), .ro 1 n (.flts .f32 ys), .bool false, .int .i64 (Int.ofNat k)] []
        else L .normal [.ro 1 m (.flts .f32 xs), .ro 1 n (.flts .f32 ys), .bool false, .int .i64 (IntKind.i64.wrap (Int.ofNat k + Int.ofNat 1))] []
      else False
    else L (.exit 0) [.ro 1 m (.flts .f32 xs), .ro 1 n (.flts .f32 ys), .bool false, .int .i64 (Int.ofNat k)] [] := by kernel_rfl

def I55 (m n : Nat) (xs ys : Nat → Nat) (k : Nat) : List A := [.ro 1 m (.flts .f32 xs), .ro 1 n (.flts .f32 ys), .bool false, .int .i64 (Int.ofNat k)]
def F55 : List A → List (Option O) → Option R3
  | [.ro 1 m (.flts .f32 xs), .ro 1 n (.flts .f32 ys), .bool false, .int .i64 0], [] =>
    some (.ite (Nat.ble m n && Nat.ble m 4611686018427387904) (.ite (allUpTo (sameAt xs ys) m) (.leaf .normal (I55 m n xs ys m) []) (.leaf .ret [.ro 1 m (.flts .f32 xs), .ro 1 n (.flts .f32 ys), .bool false, .any] [])) .fail)
  | _, _ => none
def lp55 : List (Nat × (St → T)) := [(0, sumAt 29 112 [0, 1, 4, 5] [] F55)]

theorem lt_dec {k m : Nat} (h : k < m) : decide (Int.ofNat k < Int.ofNat m) = true := by simp; omega
theorem ge_dec {k m : Nat} (h : m ≤ k) : decide (Int.ofNat k < Int.ofNat m) = false := by simp; omega

theorem loop55 : CodeOK Try.prog (fun _ σ => sumAt 29 112 [0, 1, 4, 5] [] F55 σ) (.block 0 (.loop (loopOf Try.f55 0))) := by
  refine block_ok (own := fun _ => true) (lp := fun _ => none) (un := 0) (fuel := 1000) cfg1_ok (lp_none _) fun az os R hF hok => ?_
  unfold F55 at hF
  split at hF
  · rename_i m xs n ys
    injection hF with hF
    subst hF
    have hg := hok.guard
    have hg' := hg
    simp only [Bool.and_eq_true] at hg'
    have e1 := Nat.le_of_ble_eq_true hg'.1
    have e2 := Nat.le_of_ble_eq_true hg'.2
    refine search_fact (os := []) (sameAt xs ys) m (I55 m n xs ys) [] _ [.ro 1 m (.flts .f32 xs), .ro 1 n (.flts .f32 ys), .bool false, .any] (I55 m n xs ys) rfl trivial (fun _ => rfl) rfl (fun _ => ⟨.inr rfl, .inr rfl, .inr rfl, .inl rfl, trivial⟩) rfl (fun k hk L h1 h2 h3 => ?_) fun L hL => ?_
    · show ((exec cfg1 (fun _ => true) (fun _ => none) 0 1000 (loopOf Try.f55 0) (litSt 29 112 [0, 1, 4, 5] [] [.ro 1 m (.flts .f32 xs), .ro 1 n (.flts .f32 ys), .bool false, .int .i64 (Int.ofNat k)] [])).rt [0, 1, 4, 5] []).Ok L
      rw [round55]
      by_cases hkm : k < m
      · rw [lt_dec hkm, lt_dec (show k < n by omega), cond_true]
        show cond (!(sameAt xs ys k)) _ _
        cases hs : sameAt xs ys k
        · exact h2 hkm hs
        · have := h1 hkm hs
          rw [wrap_small (by simp; omega) (by simp; omega)]
          exact this
      · rw [ge_dec (show m ≤ k by omega), cond_false]
        have : k = m := by omega
        subst this
        exact h3 rfl
    · exact ⟨fun h => (hL.1 hg).1 h, fun h => (hL.1 hg).2 h⟩
  · cases hF

theorem lp55_ok : LpOK Try.prog (look lp55) (bodyOf Try.f55) := lp_loops (by kernel_rfl) (by kernel_rfl) fun p hp => by
  rw [List.mem_singleton.1 hp]
  exact loop55

theorem auto55 (m n : Nat) (xs ys : Nat → Nat) : autoLp cfg1 (look lp55) Try.f55 [.ro 1 m (.flts .f32 xs), .ro 1 n (.flts .f32 ys)] =
    some (bif (Int.ofNat m != Int.ofNat n) then true else (Nat.ble m n && Nat.ble m 4611686018427387904) && (bif allUpTo (sameAt xs ys) m then true else true),
      .bool (bif (Int.ofNat m != Int.ofNat n) then false else (bif allUpTo (sameAt xs ys) m then true else false))) := by kernel_rfl

/-- 'eqFloat32S': as long, and the same at each place. -/
def eqL (m n : Nat) (xs ys : Nat → Nat) : Bool := Nat.beq m n && allUpTo (sameAt xs ys) m
def spec55 : List A → Option (Bool × A)
  | [.ro 1 m (.flts .f32 xs), .ro 1 n (.flts .f32 ys)] => some (Nat.ble m 4611686018427387904, .bool (eqL m n xs ys))
  | _ => none
theorem spec55_at : EnvAt Try.prog 55 spec55 := by
  refine ⟨⟨_, Try.func55, by kernel_rfl, by kernel_rfl⟩, fun ds c r h hc => ?_⟩
  unfold spec55 at h
  split at h
  · rename_i m xs n ys
    simp only [Option.some.injEq, Prod.mk.injEq] at h
    obtain ⟨rfl, rfl⟩ := h
    have key := (autoLp_at cfg1_ok lp55_ok Try.func55 (by kernel_rfl) (by kernel_rfl)).2 _ _ _ (auto55 m n xs ys)
    by_cases hmn : m = n
    · subst hmn
      have e1 : (Int.ofNat m != Int.ofNat m) = false := by simp
      have e2 : Nat.ble m m = true := Nat.ble_eq_true_of_le (Nat.le_refl _)
      have e3 : Nat.beq m m = true := Nat.beq_refl m
      rw [e1, e2, hc] at key
      simp only [eqL, e3, Bool.true_and]
      cases hx : allUpTo (sameAt xs ys) m <;> rw [hx] at key <;> exact key rfl
    · have e1 : (Int.ofNat m != Int.ofNat n) = true := by simp; omega
      have e3 : Nat.beq m n = false := by
        cases hb : Nat.beq m n
        · rfl
        · exact absurd (Nat.eq_of_beq_eq_true hb) hmn
      rw [e1] at key
      simp only [eqL, e3, Bool.false_and]
      exact key rfl
  · cases h
end Go.Fw.C1

/-
  The leaves: functions of numbers.
-/
namespace Go.Fw.C1
open Go.Proofs

theorem of_auto {cfg : Cfg} (hc : CfgOK Try.prog cfg) {f : Nat} {fn : Func} {lp : Nat → Option (St → T)} (hlp : LpOK Try.prog lp (bodyOf fn)) (hf : Try.prog.funcs[f]? = some fn) (hb : fn.body.isSome = true) (hn : (fn.name == "runtime.NumGoroutine") = false)
    {s : List A → Option (Bool × A)} (h : ∀ ds c r, s ds = some (c, r) → c = true → ∃ c', autoLp cfg lp fn ds = some (c', r) ∧ c' = true) : EnvAt Try.prog f s :=
  ⟨⟨fn, hf, hb, hn⟩, fun ds c r hs hct => by
    obtain ⟨c', h1, h2⟩ := h ds c r hs hct
    exact (autoLp_at hc hlp hf hb hn).2 ds c' r h1 h2⟩

def nan (x : Nat) : Bool := forder .f32 x x != some .eq
def fin (x : Nat) : Bool := forder .f32 (fop .sub .f32 x x) (can .f32 0) == some .eq
def lt0 (x : Nat) : Bool := forder .f32 x (can .f32 0) == some .lt
def gt0 (x : Nat) : Bool := forder .f32 x (can .f32 0) == some .gt
def ge0 (x : Nat) : Bool := forder .f32 x (can .f32 0) == some .gt || forder .f32 x (can .f32 0) == some .eq
def bad (x : Nat) : Bool := bif !fin x then true else lt0 x
def least (x : Nat) : Bool := bif fin x then ge0 x else false
def above (x : Nat) : Bool := bif fin x then gt0 x else false

def sFin : List A → Option (Bool × A)
  | [.flt .f32 x] => some (true, .bool (fin x))
  | _ => none
def sBad : List A → Option (Bool × A)
  | [.flt .f32 x] => some (true, .bool (bad x))
  | _ => none
def sNotFin : List A → Option (Bool × A)
  | [.flt .f32 x] => some (true, .bool (!fin x))
  | _ => none
def sLeast : List A → Option (Bool × A)
  | [.flt .f32 x] => some (true, .bool (least x))
  | _ => none
def sAbove : List A → Option (Bool × A)
  | [.flt .f32 x] => some (true, .bool (above x))
  | _ => none

theorem flt1 {g : Nat → Bool × A} {ds : List A} {c : Bool} {r : A} {s : List A → Option (Bool × A)} (hs : ∀ ds, s ds = match ds with | [.flt .f32 x] => some (g x) | _ => none) (h : s ds = some (c, r)) : ∃ x, ds = [.flt .f32 x] ∧ g x = (c, r) := by
  rw [hs] at h
  split at h
  · injection h with h; exact ⟨_, rfl, h⟩
  · cases h

theorem s84_at : EnvAt Try.prog 84 sFin := of_auto cfg1_ok (lp_none _) Try.func84 (by kernel_rfl) (by kernel_rfl) fun ds c r h _ => by
  obtain ⟨x, rfl, e⟩ := flt1 (g := fun x => (true, .bool (fin x))) (fun ds => rfl) h
  injection e with e1 e2; subst e2
  exact ⟨_, (by kernel_rfl : autoLp cfg1 (fun _ => none) Try.f84 [.flt .f32 x] = some (true, .bool (fin x))), rfl⟩
theorem s87_at : EnvAt Try.prog 87 sFin := of_auto cfg1_ok (lp_none _) Try.func87 (by kernel_rfl) (by kernel_rfl) fun ds c r h _ => by
  obtain ⟨x, rfl, e⟩ := flt1 (g := fun x => (true, .bool (fin x))) (fun ds => rfl) h
  injection e with e1 e2; subst e2
  exact ⟨_, (by kernel_rfl : autoLp cfg1 (fun _ => none) Try.f87 [.flt .f32 x] = some (true, .bool (fin x))), rfl⟩

noncomputable def env2 : List (Nat × (List A → Option (Bool × A))) := (84, sFin) :: (87, sFin) :: (55, spec55) :: env1
theorem env2_ok : EnvOK Try.prog (look env2) := env_cons s84_at (env_cons s87_at (env_cons spec55_at env1_ok))
noncomputable def cfg2 : Cfg := mkCfg tab [] xts (look env2)
theorem cfg2_ok : CfgOK Try.prog cfg2 := cfg_ok tab_eq (no_fts _) xts_ok env2_ok mixed

theorem s86_at : EnvAt Try.prog 86 sBad := of_auto cfg2_ok (lp_none _) Try.func86 (by kernel_rfl) (by kernel_rfl) fun ds c r h _ => by
  obtain ⟨x, rfl, e⟩ := flt1 (g := fun x => (true, .bool (bad x))) (fun ds => rfl) h
  injection e with e1 e2; subst e2
  exact ⟨_, (by kernel_rfl : autoLp cfg2 (fun _ => none) Try.f86 [.flt .f32 x] = some (true, .bool (bad x))), rfl⟩
theorem s88_at : EnvAt Try.prog 88 sNotFin := of_auto cfg2_ok (lp_none _) Try.func88 (by kernel_rfl) (by kernel_rfl) fun ds c r h _ => by
  obtain ⟨x, rfl, e⟩ := flt1 (g := fun x => (true, .bool (!fin x))) (fun ds => rfl) h
  injection e with e1 e2; subst e2
  exact ⟨_, (by kernel_rfl : autoLp cfg2 (fun _ => none) Try.f88 [.flt .f32 x] = some (true, .bool (!fin x))), rfl⟩
theorem s83_at : EnvAt Try.prog 83 sLeast := of_auto cfg2_ok (lp_none _) Try.func83 (by kernel_rfl) (by kernel_rfl) fun ds c r h _ => by
  obtain ⟨x, rfl, e⟩ := flt1 (g := fun x => (true, .bool (least x))) (fun ds => rfl) h
  injection e with e1 e2; subst e2
  exact ⟨_, (by kernel_rfl : autoLp cfg2 (fun _ => none) Try.f83 [.flt .f32 x] = some (true, .bool (least x))), rfl⟩
theorem s63_at : EnvAt Try.prog 63 sAbove := of_auto cfg2_ok (lp_none _) Try.func63 (by kernel_rfl) (by kernel_rfl) fun ds c r h _ => by
  obtain ⟨x, rfl, e⟩ := flt1 (g := fun x => (true, .bool (above x))) (fun ds => rfl) h
  injection e with e1 e2; subst e2
  exact ⟨_, (by kernel_rfl : autoLp cfg2 (fun _ => none) Try.f63 [.flt .f32 x] = some (true, .bool (above x))), rfl⟩
theorem s66_at : EnvAt Try.prog 66 sAbove := of_auto cfg2_ok (lp_none _) Try.func66 (by kernel_rfl) (by kernel_rfl) fun ds c r h _ => by
  obtain ⟨x, rfl, e⟩ := flt1 (g := fun x => (true, .bool (above x))) (fun ds => rfl) h
  injection e with e1 e2; subst e2
  exact ⟨_, (by kernel_rfl : autoLp cfg2 (fun _ => none) Try.f66 [.flt .f32 x] = some (true, .bool (above x))), rfl⟩

def spec53 : List A → Option (Bool × A)
  | [.ro 1 m (.flts .f32 xs)] => some (Nat.ble m 1073741824, .ro 1 m (.flts .f32 xs))
  | _ => none
theorem spec53_at : EnvAt Try.prog 53 spec53 := by
  refine ⟨⟨_, Try.func53, by kernel_rfl, by kernel_rfl⟩, fun ds c r h hc => ?_⟩
  unfold spec53 at h
  split at h
  · simp only [Option.some.injEq, Prod.mk.injEq] at h
    obtain ⟨rfl, rfl⟩ := h
    exact pure53 (Nat.le_of_ble_eq_true hc)
  · cases h

noncomputable def env3 : List (Nat × (List A → Option (Bool × A))) := (53, spec53) :: (86, sBad) :: (88, sNotFin) :: (83, sLeast) :: (63, sAbove) :: (66, sAbove) ::
  (89, auto cfg2 Try.f89) :: (90, auto cfg2 Try.f90) :: (57, auto cfg2 Try.f57) :: (51, auto cfg2 Try.f51) :: env2
theorem env3_ok : EnvOK Try.prog (look env3) := env_cons spec53_at (env_cons s86_at (env_cons s88_at (env_cons s83_at (env_cons s63_at (env_cons s66_at
  (env_cons (auto_at cfg2_ok Try.func89 (by kernel_rfl) (by kernel_rfl)) (env_cons (auto_at cfg2_ok Try.func90 (by kernel_rfl) (by kernel_rfl)) (env_cons (auto_at cfg2_ok Try.func57 (by kernel_rfl) (by kernel_rfl)) (env_cons (auto_at cfg2_ok Try.func51 (by kernel_rfl) (by kernel_rfl)) env2_ok)))))))))
noncomputable def cfg3 : Cfg := mkCfg tab [] xts (look env3)
theorem cfg3_ok : CfgOK Try.prog cfg3 := cfg_ok tab_eq (no_fts _) xts_ok env3_ok mixed

theorem auto_fit {x : Option (Bool × A)} {c' : Bool} {r' r : A} (h : x = some (c', r')) (h1 : r' = r) (h2 : c' = true) : ∃ c', x = some (c', r) ∧ c' = true := ⟨c', by rw [h, h1], h2⟩
theorem condT {b : Bool} {X Y : Prop} (h : b = true) (hx : X) : cond b X Y := by subst h; exact hx
theorem condE {b : Bool} {X Y : Prop} (h : b = false) (hy : Y) : cond b X Y := by subst h; exact hy
theorem wrap_succ {k : Nat} (h : k ≤ 4611686018427387000) : IntKind.i64.wrap (Int.ofNat k + Int.ofNat 1) = Int.ofNat (k + 1) := wrap_small (by simp; omega) (by simp; omega)
end Go.Fw.C1

/-
  Loops of the library's search functions.
-/
namespace Go.Fw.C1
open Go.Proofs

noncomputable def I97a (n : Nat) (r : Nat → Nat) (k : Nat) : List A := [.ro 1 n (.flts .f32 r), .fn 86 [], .int .i64 (Int.ofNat 0), .int .i64 (Int.ofNat n), .int .i64 (Int.ofNat k)]
theorem round97a (n : Nat) (r : Nat → Nat) (k : Nat) (L : XK → List A → List (Option O) → Prop) :
    ((exec cfg3 (fun _ => true) (fun _ => none) 0 1000 (loopOf Try.f97 0) (litSt Try.f97.ntmps 64 [0, 1, 4, 7, 8] [] (I97a n r k) [])).rt [0, 1, 4, 7, 8] []).Ok L =
    bif decide (Int.ofNat k < Int.ofNat n) then
      bif decide (Int.ofNat k < Int.ofNat n) then
        bif bad (r k) then
          L (XK.ret) [A.ro 1 n (Row.flts FloatKind.f32 r), A.fn 86 [], A.int IntKind.i64 (Int.ofNat k), A.int IntKind.i64 (Int.ofNat n), A.int IntKind.i64 (Int.ofNat k)] []
        else
          L (XK.normal) [A.ro 1 n (Row.flts FloatKind.f32 r), A.fn 86 [], A.int IntKind.i64 (Int.ofNat 0), A.int IntKind.i64 (Int.ofNat n), A.int IntKind.i64 (IntKind.i64.wrap (Int.ofNat k + Int.ofNat 1))] []
      else
        False
    else
      L (XK.exit 0) [A.ro 1 n (Row.flts FloatKind.f32 r), A.fn 86 [], A.int IntKind.i64 (Int.ofNat 0), A.int IntKind.i64 (Int.ofNat n), A.int IntKind.i64 (Int.ofNat k)] [] := by kernel_rfl
noncomputable def F97a : List A → List (Option O) → Option R3
  | [.ro 1 n (.flts .f32 r), .fn 86 [], .int .i64 0, .int .i64 l, .int .i64 0], [] => some (.ite (decide (l = Int.ofNat n) && Nat.ble n 4611686018427387000) (.ite (allUpTo (fun k => !bad (r k)) (n)) (.leaf .normal (I97a n r (n)) []) (.leaf (.ret) ((fun k => [A.ro 1 n (Row.flts FloatKind.f32 r), A.fn 86 [], A.int IntKind.i64 (Int.ofNat k), A.int IntKind.i64 (Int.ofNat n), A.int IntKind.i64 (Int.ofNat k)]) (firstIdx (fun k => !bad (r k)) (n))) [])) .fail)
  | _, _ => none
theorem loop97a : CodeOK Try.prog (fun _ σ => sumAt Try.f97.ntmps 64 [0, 1, 4, 7, 8] [] F97a σ) (.block 0 (.loop (loopOf Try.f97 0))) := by
  refine block_ok (own := fun _ => true) (lp := (fun _ => none)) (un := 0) (fuel := 1000) cfg3_ok (lp_none _) fun az os R hF hok => ?_
  unfold F97a at hF
  split at hF
  · rename_i n r l
    injection hF with hF
    subst hF
    have hg := hok.guard
    have hg' := hg
    simp only [Bool.and_eq_true, Nat.ble_eq, Nat.beq_eq, decide_eq_true_eq] at hg'
    obtain ⟨rfl, hn⟩ := hg'
    refine for_fact0 (fun k => !bad (r k)) (n) (I97a n r) _ (.ret) (fun k => [A.ro 1 n (Row.flts FloatKind.f32 r), A.fn 86 [], A.int IntKind.i64 (Int.ofNat k), A.int IntKind.i64 (Int.ofNat n), A.int IntKind.i64 (Int.ofNat k)]) (fun k => [A.ro 1 n (Row.flts FloatKind.f32 r), A.fn 86 [], A.int IntKind.i64 (Int.ofNat k), A.int IntKind.i64 (Int.ofNat n), A.int IntKind.i64 (Int.ofNat k)]) (I97a n r (n)) rfl (fun _ => rfl) (fun _ => ALe.self _) (fun _ => rfl) (ALe.self _) rfl (fun h => by cases h) (fun k hk L h1 h2 h3 => ?_) fun L hL => ?_
    · rw [round97a]
      by_cases hkm : k < n
      · refine condT (lt_dec hkm) ?_
        refine condT (lt_dec hkm) ?_
        cases hs : bad (r k)
        · have := h1 hkm (by rw [hs]; rfl)
          rw [wrap_succ (by omega)]
          exact this
        · exact h2 hkm (by rw [hs]; rfl)
      · refine condE (ge_dec (by omega)) ?_
        obtain rfl : k = n := by omega
        exact h3 rfl
    · exact ⟨fun h => (hL.1 hg).1 h, fun N hN hf hall => by
        have := (hL.1 hg).2 (allUpTo_false hN hf)
        rw [firstIdx_eq hN hf hall] at this
        exact this⟩
  · cases hF

noncomputable def I97b (n : Nat) (r : Nat → Nat) (k : Nat) : List A := [.ro 1 n (.flts .f32 r), .fn 88 [], .int .i64 (Int.ofNat 0), .int .i64 (Int.ofNat n), .int .i64 (Int.ofNat k)]
theorem round97b (n : Nat) (r : Nat → Nat) (k : Nat) (L : XK → List A → List (Option O) → Prop) :
    ((exec cfg3 (fun _ => true) (fun _ => none) 0 1000 (loopOf Try.f97 0) (litSt Try.f97.ntmps 64 [0, 1, 4, 7, 8] [] (I97b n r k) [])).rt [0, 1, 4, 7, 8] []).Ok L =
    bif decide (Int.ofNat k < Int.ofNat n) then
      bif decide (Int.ofNat k < Int.ofNat n) then
        bif !fin (r k) then
          L (XK.ret) [A.ro 1 n (Row.flts FloatKind.f32 r), A.fn 88 [], A.int IntKind.i64 (Int.ofNat k), A.int IntKind.i64 (Int.ofNat n), A.int IntKind.i64 (Int.ofNat k)] []
        else
          L (XK.normal) [A.ro 1 n (Row.flts FloatKind.f32 r), A.fn 88 [], A.int IntKind.i64 (Int.ofNat 0), A.int IntKind.i64 (Int.ofNat n), A.int IntKind.i64 (IntKind.i64.wrap (Int.ofNat k + Int.ofNat 1))] []
      else
        False
    else
      L (XK.exit 0) [A.ro 1 n (Row.flts FloatKind.f32 r), A.fn 88 [], A.int IntKind.i64 (Int.ofNat 0), A.int IntKind.i64 (Int.ofNat n), A.int IntKind.i64 (Int.ofNat k)] [] := by kernel_rfl
noncomputable def F97b : List A → List (Option O) → Option R3
  | [.ro 1 n (.flts .f32 r), .fn 88 [], .int .i64 0, .int .i64 l, .int .i64 0], [] => some (.ite (decide (l = Int.ofNat n) && Nat.ble n 4611686018427387000) (.ite (allUpTo (fun k => fin (r k)) (n)) (.leaf .normal (I97b n r (n)) []) (.leaf (.ret) ((fun k => [A.ro 1 n (Row.flts FloatKind.f32 r), A.fn 88 [], A.int IntKind.i64 (Int.ofNat k), A.int IntKind.i64 (Int.ofNat n), A.int IntKind.i64 (Int.ofNat k)]) (firstIdx (fun k => fin (r k)) (n))) [])) .fail)
  | _, _ => none
theorem loop97b : CodeOK Try.prog (fun _ σ => sumAt Try.f97.ntmps 64 [0, 1, 4, 7, 8] [] F97b σ) (.block 0 (.loop (loopOf Try.f97 0))) := by
  refine block_ok (own := fun _ => true) (lp := (fun _ => none)) (un := 0) (fuel := 1000) cfg3_ok (lp_none _) fun az os R hF hok => ?_
  unfold F97b at hF
  split at hF
  · rename_i n r l
    injection hF with hF
    subst hF
    have hg := hok.guard
    have hg' := hg
    simp only [Bool.and_eq_true, Nat.ble_eq, Nat.beq_eq, decide_eq_true_eq] at hg'
    obtain ⟨rfl, hn⟩ := hg'
    refine for_fact0 (fun k => fin (r k)) (n) (I97b n r) _ (.ret) (fun k => [A.ro 1 n (Row.flts FloatKind.f32 r), A.fn 88 [], A.int IntKind.i64 (Int.ofNat k), A.int IntKind.i64 (Int.ofNat n), A.int IntKind.i64 (Int.ofNat k)]) (fun k => [A.ro 1 n (Row.flts FloatKind.f32 r), A.fn 88 [], A.int IntKind.i64 (Int.ofNat k), A.int IntKind.i64 (Int.ofNat n), A.int IntKind.i64 (Int.ofNat k)]) (I97b n r (n)) rfl (fun _ => rfl) (fun _ => ALe.self _) (fun _ => rfl) (ALe.self _) rfl (fun h => by cases h) (fun k hk L h1 h2 h3 => ?_) fun L hL => ?_
    · rw [round97b]
      by_cases hkm : k < n
      · refine condT (lt_dec hkm) ?_
        refine condT (lt_dec hkm) ?_
        cases hs : fin (r k)
        · exact h2 hkm hs
        · have := h1 hkm hs
          rw [wrap_succ (by omega)]
          exact this
      · refine condE (ge_dec (by omega)) ?_
        obtain rfl : k = n := by omega
        exact h3 rfl
    · exact ⟨fun h => (hL.1 hg).1 h, fun N hN hf hall => by
        have := (hL.1 hg).2 (allUpTo_false hN hf)
        rw [firstIdx_eq hN hf hall] at this
        exact this⟩
  · cases hF


/-- The first place that is not in order, or -1. -/
noncomputable def idx (f : Nat → Bool) (n : Nat) : Int := bif allUpTo f n then Int.negSucc 0 else Int.ofNat (firstIdx f n)

noncomputable def lp97a : List (Nat × (St → T)) := [(0, sumAt Try.f97.ntmps 64 [0, 1, 4, 7, 8] [] F97a)]
theorem lp97a_ok : LpOK Try.prog (look lp97a) (bodyOf Try.f97) := lp_loops (by kernel_rfl) (by kernel_rfl) fun p hp => by
  simp only [lp97a, List.mem_cons, List.not_mem_nil, or_false] at hp
  rcases hp with rfl
  · exact loop97a
theorem auto97a (n : Nat) (r : Nat → Nat) : autoLp cfg3 (look lp97a) Try.f97 [.ro 1 n (.flts .f32 r), .fn 86 []] =
    some (decide (Int.ofNat n = Int.ofNat n) && n.ble 4611686018427387000 && bif allUpTo (fun k => !bad (r k)) n then true else true, A.int IntKind.i64 (bif allUpTo (fun k => !bad (r k)) n then Int.negSucc 0 else Int.ofNat (Fw.firstIdx (fun k => !bad (r k)) n))) := by kernel_rfl
noncomputable def s97a : List A → Option (Bool × A)
  | [.ro 1 n (.flts .f32 r), .fn 86 []] => some (Nat.ble n 4611686018427387000, .int .i64 (idx (fun k => !bad (r k)) n))
  | _ => none
theorem s97a_at : EnvAt Try.prog 97 s97a := of_auto cfg3_ok lp97a_ok Try.func97 (by kernel_rfl) (by kernel_rfl) fun ds c r h hc => by
  unfold s97a at h
  split at h
  · rename_i n r
    simp only [Option.some.injEq, Prod.mk.injEq] at h
    obtain ⟨rfl, rfl⟩ := h
    refine auto_fit (auto97a n r) ?_ ?_
    · rfl
    · rw [hc]; simp
  · cases h

noncomputable def lp97b : List (Nat × (St → T)) := [(0, sumAt Try.f97.ntmps 64 [0, 1, 4, 7, 8] [] F97b)]
theorem lp97b_ok : LpOK Try.prog (look lp97b) (bodyOf Try.f97) := lp_loops (by kernel_rfl) (by kernel_rfl) fun p hp => by
  simp only [lp97b, List.mem_cons, List.not_mem_nil, or_false] at hp
  rcases hp with rfl
  · exact loop97b
theorem auto97b (n : Nat) (r : Nat → Nat) : autoLp cfg3 (look lp97b) Try.f97 [.ro 1 n (.flts .f32 r), .fn 88 []] =
    some (decide (Int.ofNat n = Int.ofNat n) && n.ble 4611686018427387000 && bif allUpTo (fun k => fin (r k)) n then true else true, A.int IntKind.i64 (bif allUpTo (fun k => fin (r k)) n then Int.negSucc 0 else Int.ofNat (Fw.firstIdx (fun k => fin (r k)) n))) := by kernel_rfl
noncomputable def s97b : List A → Option (Bool × A)
  | [.ro 1 n (.flts .f32 r), .fn 88 []] => some (Nat.ble n 4611686018427387000, .int .i64 (idx (fun k => fin (r k)) n))
  | _ => none
theorem s97b_at : EnvAt Try.prog 97 s97b := of_auto cfg3_ok lp97b_ok Try.func97 (by kernel_rfl) (by kernel_rfl) fun ds c r h hc => by
  unfold s97b at h
  split at h
  · rename_i n r
    simp only [Option.some.injEq, Prod.mk.injEq] at h
    obtain ⟨rfl, rfl⟩ := h
    refine auto_fit (auto97b n r) ?_ ?_
    · rfl
    · rw [hc]; simp
  · cases h

noncomputable def s97 : List A → Option (Bool × A)
  | [.ro 1 n (.flts .f32 r), .fn 86 []] => s97a [.ro 1 n (.flts .f32 r), .fn 86 []]
  | ds => s97b ds
theorem s97_at : EnvAt Try.prog 97 s97 := by
  refine ⟨s97a_at.1, fun ds c r h hc => ?_⟩
  unfold s97 at h
  split at h
  · exact s97a_at.2 _ _ _ h hc
  · exact s97b_at.2 _ _ _ h hc
noncomputable def env4 : List (Nat × (List A → Option (Bool × A))) := (97, s97) :: env3
theorem env4_ok : EnvOK Try.prog (look env4) := env_cons s97_at env3_ok
noncomputable def cfg4 : Cfg := mkCfg tab [] xts (look env4)
theorem cfg4_ok : CfgOK Try.prog cfg4 := cfg_ok tab_eq (no_fts _) xts_ok env4_ok mixed
noncomputable def env5 : List (Nat × (List A → Option (Bool × A))) := (85, auto cfg4 Try.f85) :: env4
theorem env5_ok : EnvOK Try.prog (look env5) := env_cons (auto_at cfg4_ok Try.func85 (by kernel_rfl) (by kernel_rfl)) env4_ok
noncomputable def cfg5 : Cfg := mkCfg tab [] xts (look env5)
theorem cfg5_ok : CfgOK Try.prog cfg5 := cfg_ok tab_eq (no_fts _) xts_ok env5_ok mixed
theorem neg1_ge : decide (Int.negSucc 0 ≥ 0) = false := rfl
theorem idx_ge (f : Nat → Bool) (n : Nat) : decide (idx f n ≥ 0) = !allUpTo f n := by
  unfold idx
  cases allUpTo f n
  · simp
  · rfl
theorem auto58 (n : Nat) (r : Nat → Nat) : autoLp cfg5 (fun _ => none) Try.f58 [.ro 1 n (.flts .f32 r)] =
    some (n.ble 4611686018427387000 && true && true, A.bool !decide (idx (fun k => !bad (r k)) n ≥ 0)) := by kernel_rfl
noncomputable def s58 : List A → Option (Bool × A)
  | [.ro 1 n (.flts .f32 r)] => some (Nat.ble n 4611686018427387000, .bool (allUpTo (fun k => !bad (r k)) n))
  | _ => none
theorem s58_at : EnvAt Try.prog 58 s58 := of_auto cfg5_ok (lp_none _) Try.func58 (by kernel_rfl) (by kernel_rfl) fun ds c r h hc => by
  unfold s58 at h
  split at h
  · rename_i n r
    simp only [Option.some.injEq, Prod.mk.injEq] at h
    obtain ⟨rfl, rfl⟩ := h
    refine auto_fit (auto58 n r) ?_ ?_
    · simp [idx_ge]
    · rw [hc]; simp
  · cases h

theorem auto59 (n : Nat) (r : Nat → Nat) : autoLp cfg5 (fun _ => none) Try.f59 [.ro 1 n (.flts .f32 r)] =
    some (n.ble 4611686018427387000 && true && true, A.bool !decide (idx (fun k => fin (r k)) n ≥ 0)) := by kernel_rfl
noncomputable def s59 : List A → Option (Bool × A)
  | [.ro 1 n (.flts .f32 r)] => some (Nat.ble n 4611686018427387000, .bool (allUpTo (fun k => fin (r k)) n))
  | _ => none
theorem s59_at : EnvAt Try.prog 59 s59 := of_auto cfg5_ok (lp_none _) Try.func59 (by kernel_rfl) (by kernel_rfl) fun ds c r h hc => by
  unfold s59 at h
  split at h
  · rename_i n r
    simp only [Option.some.injEq, Prod.mk.injEq] at h
    obtain ⟨rfl, rfl⟩ := h
    refine auto_fit (auto59 n r) ?_ ?_
    · simp [idx_ge]
    · rw [hc]; simp
  · cases h

end Go.Fw.C1

/-
  Circuits that are valid: the reference's test.
-/
namespace Go.Fw.C1
open Go.Proofs

noncomputable def env6 : List (Nat × (List A → Option (Bool × A))) := (58, s58) :: (59, s59) :: env5
theorem env6_ok : EnvOK Try.prog (look env6) := (env_cons s58_at (env_cons s59_at env5_ok))
noncomputable def cfg6 : Cfg := mkCfg tab [] xts (look env6)
theorem cfg6_ok : CfgOK Try.prog cfg6 := cfg_ok tab_eq (no_fts _) xts_ok env6_ok mixed

theorem blt_lt' {a b : Nat} (h : Nat.blt a b = true) : a < b := by
  unfold Nat.blt at h
  exact Nat.le_of_ble_eq_true h
theorem lt_blt {a b : Nat} (h : a < b) : Nat.blt a b = true := Nat.ble_eq_true_of_le h
theorem mul_lt6 {i n : Nat} (hi : i < n) (hn : n ≤ 6) : i * n + n ≤ n * n := by
  have : (i + 1) * n ≤ n * n := Nat.mul_le_mul_right n hi
  rw [Nat.add_mul, Nat.one_mul] at this
  exact this
theorem sq_le {n : Nat} (hn : n ≤ 6) : n * n ≤ 36 := Nat.mul_le_mul hn hn
theorem ix_lt {i j n : Nat} (hi : i < n) (hj : j < n) (hn : n ≤ 6) : i * n + j < n * n := by
  have := mul_lt6 hi hn
  omega
theorem wrap_nat {x : Nat} (h : x ≤ 4611686018427387000) : IntKind.i64.wrap (Int.ofNat x) = Int.ofNat x := wrap_small (by simp) (by simp; omega)
theorem wrap_ix {i j n : Nat} (hi : i < n) (hj : j < n) (hn : n ≤ 6) : IntKind.i64.wrap (IntKind.i64.wrap (Int.ofNat i * Int.ofNat n) + Int.ofNat j) = Int.ofNat (i * n + j) := by
  have h1 := ix_lt hi hj hn
  have h2 := sq_le hn
  have h3 : (Int.ofNat i * Int.ofNat n) = Int.ofNat (i * n) := rfl
  have h4 : Int.ofNat (i * n) + Int.ofNat j = Int.ofNat (i * n + j) := rfl
  rw [h3, wrap_nat (x := i * n) (by omega), h4, wrap_nat (by omega)]
theorem wrap_mm {n : Nat} (hn : n ≤ 6) : IntKind.i64.wrap (Int.ofNat n * Int.ofNat n) = Int.ofNat (n * n) := by
  have h2 := sq_le hn
  have h3 : (Int.ofNat n * Int.ofNat n) = Int.ofNat (n * n) := rfl
  rw [h3, wrap_nat (by omega)]
theorem dec0 (x : Nat) : decide ((0 : Int) ≤ Int.ofNat x) = true := by simp

/-- Is the coil of i and j not finite, or not that of j and i? -/
noncomputable def badsym (c : Nat → Nat) (n i j : Nat) : Bool := bif !fin (c (i * n + j)) then true else forder .f32 (c (i * n + j)) (c (j * n + i)) != some .eq
noncomputable def badrow (r g c : Nat → Nat) (n i : Nat) : Bool := bif (bif !least (r i) then true else !least (g i)) then true else !(forder .f32 (c (i * n + i)) (can .f32 0) == some .gt)

noncomputable def I56j (n gn cn i : Nat) (r g c : Nat → Nat) (tl : List A) (k : Nat) : List A := [.rop (.agg (.ro 1 n (.flts .f32 r) :: .ro 1 gn (.flts .f32 g) :: .ro 1 cn (.flts .f32 c) :: tl)) 0, .bool false, .int .i64 (Int.ofNat n), .int .i64 (Int.ofNat i), .int .i64 (Int.ofNat k)]
theorem round56j (n gn cn i : Nat) (r g c : Nat → Nat) (tl : List A) (k : Nat) (L : XK → List A → List (Option O) → Prop) :
    ((exec cfg6 (fun _ => true) (fun _ => none) 0 1000 (loopOf Try.f56 2) (litSt Try.f56.ntmps 1168 [0, 2, 3, 4, 5] [] (I56j n gn cn i r g c tl k) [])).rt [0, 2, 3, 4, 5] []).Ok L =
    bif decide (Int.ofNat k < Int.ofNat n) then
      bif (decide (0 ≤ IntKind.i64.wrap (IntKind.i64.wrap (Int.ofNat k * Int.ofNat n) + Int.ofNat i)) && decide (IntKind.i64.wrap (IntKind.i64.wrap (Int.ofNat k * Int.ofNat n) + Int.ofNat i) < Int.ofNat cn) || !(!fin (c (IntKind.i64.wrap (IntKind.i64.wrap (Int.ofNat i * Int.ofNat n) + Int.ofNat k)).toNat)) == false) && ((decide (0 ≤ IntKind.i64.wrap (IntKind.i64.wrap (Int.ofNat i * Int.ofNat n) + Int.ofNat k)) && decide (IntKind.i64.wrap (IntKind.i64.wrap (Int.ofNat i * Int.ofNat n) + Int.ofNat k) < Int.ofNat cn) || !(!fin (c (IntKind.i64.wrap (IntKind.i64.wrap (Int.ofNat i * Int.ofNat n) + Int.ofNat k)).toNat)) == false) && (decide (0 ≤ IntKind.i64.wrap (IntKind.i64.wrap (Int.ofNat i * Int.ofNat n) + Int.ofNat k)) && decide (IntKind.i64.wrap (IntKind.i64.wrap (Int.ofNat i * Int.ofNat n) + Int.ofNat k) < Int.ofNat cn) && true)) then
        bif bif !fin (c (IntKind.i64.wrap (IntKind.i64.wrap (Int.ofNat i * Int.ofNat n) + Int.ofNat k)).toNat) then true else forder FloatKind.f32 (c (IntKind.i64.wrap (IntKind.i64.wrap (Int.ofNat i * Int.ofNat n) + Int.ofNat k)).toNat) (c (IntKind.i64.wrap (IntKind.i64.wrap (Int.ofNat k * Int.ofNat n) + Int.ofNat i)).toNat) != some Ordering.eq then
          L (XK.ret) [(A.agg (A.ro 1 n (Row.flts FloatKind.f32 r) :: A.ro 1 gn (Row.flts FloatKind.f32 g) :: A.ro 1 cn (Row.flts FloatKind.f32 c) :: tl)).rop 0, A.bool false, A.int IntKind.i64 (Int.ofNat n), A.int IntKind.i64 (Int.ofNat i), A.int IntKind.i64 (Int.ofNat k)] []
        else
          L (XK.normal) [(A.agg (A.ro 1 n (Row.flts FloatKind.f32 r) :: A.ro 1 gn (Row.flts FloatKind.f32 g) :: A.ro 1 cn (Row.flts FloatKind.f32 c) :: tl)).rop 0, A.bool false, A.int IntKind.i64 (Int.ofNat n), A.int IntKind.i64 (Int.ofNat i), A.int IntKind.i64 (IntKind.i64.wrap (Int.ofNat k + Int.ofNat 1))] []
      else
        False
    else
      L (XK.exit 2) [(A.agg (A.ro 1 n (Row.flts FloatKind.f32 r) :: A.ro 1 gn (Row.flts FloatKind.f32 g) :: A.ro 1 cn (Row.flts FloatKind.f32 c) :: tl)).rop 0, A.bool false, A.int IntKind.i64 (Int.ofNat n), A.int IntKind.i64 (Int.ofNat i), A.int IntKind.i64 (Int.ofNat k)] [] := by kernel_rfl
noncomputable def F56j : List A → List (Option O) → Option R3
  | [.rop (.agg (.ro 1 n (.flts .f32 r) :: .ro 1 gn (.flts .f32 g) :: .ro 1 cn (.flts .f32 c) :: tl)) 0, .bool false, .int .i64 m, .int .i64 (.ofNat i), .int .i64 0], [] => some (.ite (decide (m = Int.ofNat n) && Nat.blt i n && Nat.ble n 6 && Nat.beq cn (n * n)) (.ite (allUpTo (fun k => !badsym c n i k) (n)) (.leaf .normal (I56j n gn cn i r g c tl (n)) []) (.leaf (.ret) ((I56j n gn cn i r g c tl) (firstIdx (fun k => !badsym c n i k) (n))) [])) .fail)
  | _, _ => none
theorem loop56j : CodeOK Try.prog (fun _ σ => sumAt Try.f56.ntmps 1168 [0, 2, 3, 4, 5] [] F56j σ) (.block 2 (.loop (loopOf Try.f56 2))) := by
  refine block_ok (own := fun _ => true) (lp := (fun _ => none)) (un := 0) (fuel := 1000) cfg6_ok (lp_none _) fun az os R hF hok => ?_
  unfold F56j at hF
  split at hF
  · rename_i n r gn g cn c tl m i
    injection hF with hF
    subst hF
    have hg := hok.guard
    have hg' := hg
    simp only [Bool.and_eq_true, Nat.ble_eq, Nat.beq_eq, decide_eq_true_eq] at hg'
    obtain ⟨⟨⟨rfl, hi⟩, hn⟩, hcn⟩ := hg'
    have hi := blt_lt' hi
    refine for_fact0 (fun k => !badsym c n i k) (n) (I56j n gn cn i r g c tl) _ (.ret) (I56j n gn cn i r g c tl) (I56j n gn cn i r g c tl) (I56j n gn cn i r g c tl (n)) rfl (fun _ => rfl) (fun _ => ALe.self _) (fun _ => rfl) (ALe.self _) rfl (fun h => by cases h) (fun k hk L h1 h2 h3 => ?_) fun L hL => ?_
    · rw [round56j]
      by_cases hkm : k < n
      · refine condT (lt_dec hkm) ?_
        rw [wrap_ix hkm hi hn, wrap_ix hi hkm hn]
        refine condT (by rw [hcn]; simp only [dec0, lt_dec (ix_lt hkm hi hn), lt_dec (ix_lt hi hkm hn), Bool.and_self, Bool.true_or, Bool.and_true]) ?_
        show cond (badsym c n i k) _ _
        cases hs : badsym c n i k
        · have := h1 hkm (by rw [hs]; rfl)
          rw [wrap_succ (by omega)]
          exact this
        · exact h2 hkm (by rw [hs]; rfl)
      · refine condE (ge_dec (by omega)) ?_
        obtain rfl : k = n := by omega
        exact h3 rfl
    · exact ⟨fun h => (hL.1 hg).1 h, fun N hN hf hall => by
        have := (hL.1 hg).2 (allUpTo_false hN hf)
        rw [firstIdx_eq hN hf hall] at this
        exact this⟩
  · cases hF

noncomputable def lpi56i : List (Nat × (St → T)) := [(2, sumAt Try.f56.ntmps 1168 [0, 2, 3, 4, 5] [] F56j)]
theorem lpi56i_ok : LpOK Try.prog (look lpi56i) (loopOf Try.f56 0) := lp_in (lp_loops (by kernel_rfl) (by kernel_rfl) fun p hp => by
  simp only [lpi56i, List.mem_cons, List.not_mem_nil, or_false] at hp
  rcases hp with rfl
  · exact loop56j) _
noncomputable def I56i (n gn cn : Nat) (r g c : Nat → Nat) (tl : List A) (k : Nat) : List A := [.rop (.agg (.ro 1 n (.flts .f32 r) :: .ro 1 gn (.flts .f32 g) :: .ro 1 cn (.flts .f32 c) :: tl)) 0, .bool false, .int .i64 (Int.ofNat n), .int .i64 (Int.ofNat k)]
theorem round56i (n gn cn : Nat) (r g c : Nat → Nat) (tl : List A) (k : Nat) (L : XK → List A → List (Option O) → Prop) :
    ((exec cfg6 (fun _ => true) (look lpi56i) 0 1000 (loopOf Try.f56 0) (litSt Try.f56.ntmps 544 [0, 2, 3, 4] [] (I56i n gn cn r g c tl k) [])).rt [0, 2, 3, 4] []).Ok L =
    bif decide (Int.ofNat k < Int.ofNat n) then
      bif decide (Int.ofNat k < Int.ofNat n) then
        bif decide (Int.ofNat k < Int.ofNat gn) || !(!least (r k)) == false then
          bif decide (0 ≤ IntKind.i64.wrap (IntKind.i64.wrap (Int.ofNat k * Int.ofNat n) + Int.ofNat k)) && decide (IntKind.i64.wrap (IntKind.i64.wrap (Int.ofNat k * Int.ofNat n) + Int.ofNat k) < Int.ofNat cn) || !(bif !least (r k) then true else !least (g k)) == false then
            bif bif bif !least (r k) then true else !least (g k) then true else !forder FloatKind.f32 (c (IntKind.i64.wrap (IntKind.i64.wrap (Int.ofNat k * Int.ofNat n) + Int.ofNat k)).toNat) (can FloatKind.f32 0) == some Ordering.gt then
              L (XK.ret) [(A.agg (A.ro 1 n (Row.flts FloatKind.f32 r) :: A.ro 1 gn (Row.flts FloatKind.f32 g) :: A.ro 1 cn (Row.flts FloatKind.f32 c) :: tl)).rop 0, A.bool false, A.int IntKind.i64 (Int.ofNat n), A.int IntKind.i64 (Int.ofNat k)] []
            else
              bif decide (Int.ofNat n = Int.ofNat n) && k.blt n && n.ble 6 && cn.beq (n * n) then
                bif allUpTo (fun k_1 => !badsym c n k k_1) n then
                  L (XK.normal) [(A.agg (A.ro 1 n (Row.flts FloatKind.f32 r) :: A.ro 1 gn (Row.flts FloatKind.f32 g) :: A.ro 1 cn (Row.flts FloatKind.f32 c) :: tl)).rop 0, A.bool false, A.int IntKind.i64 (Int.ofNat n), A.int IntKind.i64 (IntKind.i64.wrap (Int.ofNat k + Int.ofNat 1))] []
                else
                  L (XK.ret) [(A.agg (A.ro 1 n (Row.flts FloatKind.f32 r) :: A.ro 1 gn (Row.flts FloatKind.f32 g) :: A.ro 1 cn (Row.flts FloatKind.f32 c) :: tl)).rop 0, A.bool false, A.int IntKind.i64 (Int.ofNat n), A.int IntKind.i64 (Int.ofNat k)] []
              else
                False
          else
            False
        else
          False
      else
        False
    else
      L (XK.exit 0) [(A.agg (A.ro 1 n (Row.flts FloatKind.f32 r) :: A.ro 1 gn (Row.flts FloatKind.f32 g) :: A.ro 1 cn (Row.flts FloatKind.f32 c) :: tl)).rop 0, A.bool false, A.int IntKind.i64 (Int.ofNat n), A.int IntKind.i64 (Int.ofNat k)] [] := by kernel_rfl
noncomputable def F56i : List A → List (Option O) → Option R3
  | [.rop (.agg (.ro 1 n (.flts .f32 r) :: .ro 1 gn (.flts .f32 g) :: .ro 1 cn (.flts .f32 c) :: tl)) 0, .bool false, .int .i64 m, .int .i64 0], [] => some (.ite (decide (m = Int.ofNat n) && Nat.ble n 6 && Nat.beq cn (n * n) && Nat.beq gn n) (.ite (allUpTo (fun k => !badrow r g c n k && allUpTo (fun j => !badsym c n k j) n) (n)) (.leaf .normal (I56i n gn cn r g c tl (n)) []) (.leaf (.ret) ((I56i n gn cn r g c tl) (firstIdx (fun k => !badrow r g c n k && allUpTo (fun j => !badsym c n k j) n) (n))) [])) .fail)
  | _, _ => none
theorem loop56i : CodeOK Try.prog (fun _ σ => sumAt Try.f56.ntmps 544 [0, 2, 3, 4] [] F56i σ) (.block 0 (.loop (loopOf Try.f56 0))) := by
  refine block_ok (own := fun _ => true) (lp := (look lpi56i)) (un := 0) (fuel := 1000) cfg6_ok lpi56i_ok fun az os R hF hok => ?_
  unfold F56i at hF
  split at hF
  · rename_i n r gn g cn c tl m
    injection hF with hF
    subst hF
    have hg := hok.guard
    have hg' := hg
    simp only [Bool.and_eq_true, Nat.ble_eq, Nat.beq_eq, decide_eq_true_eq] at hg'
    obtain ⟨⟨⟨rfl, hn⟩, hcn⟩, hgn⟩ := hg'
    refine for_fact0 (fun k => !badrow r g c n k && allUpTo (fun j => !badsym c n k j) n) (n) (I56i n gn cn r g c tl) _ (.ret) (I56i n gn cn r g c tl) (I56i n gn cn r g c tl) (I56i n gn cn r g c tl (n)) rfl (fun _ => rfl) (fun _ => ALe.self _) (fun _ => rfl) (ALe.self _) rfl (fun h => by cases h) (fun k hk L h1 h2 h3 => ?_) fun L hL => ?_
    · rw [round56i]
      by_cases hkm : k < n
      · refine condT (lt_dec hkm) ?_
        rw [wrap_ix hkm hkm hn]
        refine condT (lt_dec hkm) ?_
        refine condT (by rw [hgn, lt_dec hkm, Bool.true_or]) ?_
        refine condT (by rw [hcn]; simp only [dec0, lt_dec (ix_lt hkm hkm hn), Bool.and_self, Bool.true_or]) ?_
        show cond (badrow r g c n k) _ _
        cases hs : badrow r g c n k
        · refine condE rfl ?_
          refine condT (by simp only [hcn, Nat.beq_refl, Nat.ble_eq_true_of_le hn, lt_blt hkm, decide_true, Bool.and_self]) ?_
          cases ha : allUpTo (fun j => !badsym c n k j) n
          · exact h2 hkm (by rw [hs, ha]; rfl)
          · have := h1 hkm (by rw [hs, ha]; rfl)
            rw [wrap_succ (by omega)]
            exact this
        · exact h2 hkm (by rw [hs]; rfl)
      · refine condE (ge_dec (by omega)) ?_
        obtain rfl : k = n := by omega
        exact h3 rfl
    · exact ⟨fun h => (hL.1 hg).1 h, fun N hN hf hall => by
        have := (hL.1 hg).2 (allUpTo_false hN hf)
        rw [firstIdx_eq hN hf hall] at this
        exact this⟩
  · cases hF

noncomputable def sizes (n gn cn : Nat) : Bool := decide (1 ≤ n ∧ n ≤ 6 ∧ gn = n ∧ cn = n * n)
theorem ne_nat (a b : Nat) : (Int.ofNat a != Int.ofNat b) = !decide (a = b) := by
  by_cases h : a = b
  · subst h; simp
  · simp [h]; omega
theorem sizes_eq (n gn cn : Nat) : (bif bif bif decide (Int.ofNat n < 1) then true else decide (Int.ofNat n > 6) then true else Int.ofNat gn != Int.ofNat n then true else Int.ofNat cn != IntKind.i64.wrap (Int.ofNat n * Int.ofNat n)) = !sizes n gn cn := by
  by_cases h1 : n < 1
  · rw [show decide (Int.ofNat n < 1) = true by simp; omega]
    simp [sizes]; omega
  rw [show decide (Int.ofNat n < 1) = false by simp; omega]
  by_cases h2 : n > 6
  · rw [show decide (Int.ofNat n > 6) = true by simp; omega]
    simp [sizes]; omega
  rw [show decide (Int.ofNat n > 6) = false by simp; omega, wrap_mm (by omega), ne_nat, ne_nat]
  by_cases h3 : gn = n
  · by_cases h4 : cn = n * n
    · simp [sizes, h3, h4]; omega
    · simp [sizes, h3, h4]
  · simp [sizes, h3]
/-- A valid circuit, as the reference looks. -/
noncomputable def valid (n gn cn : Nat) (r g c : Nat → Nat) : Bool := sizes n gn cn && allUpTo (fun k => !badrow r g c n k && allUpTo (fun j => !badsym c n k j) n) n
noncomputable def lp56 : List (Nat × (St → T)) := [(0, sumAt Try.f56.ntmps 544 [0, 2, 3, 4] [] F56i)]
theorem lp56_ok : LpOK Try.prog (look lp56) (bodyOf Try.f56) := lp_loops (by kernel_rfl) (by kernel_rfl) fun p hp => by
  simp only [lp56, List.mem_cons, List.not_mem_nil, or_false] at hp
  rcases hp with rfl
  · exact loop56i
theorem auto56 (n gn cn : Nat) (r g c : Nat → Nat) (tl : List A) : autoLp cfg6 (look lp56) Try.f56 [.rop (.agg (.ro 1 n (.flts .f32 r) :: .ro 1 gn (.flts .f32 g) :: .ro 1 cn (.flts .f32 c) :: tl)) 0] =
    some (bif bif bif bif decide (Int.ofNat n < 1) then true else decide (Int.ofNat n > 6) then true else Int.ofNat gn != Int.ofNat n then true else Int.ofNat cn != IntKind.i64.wrap (Int.ofNat n * Int.ofNat n) then true else decide (Int.ofNat n = Int.ofNat n) && n.ble 6 && cn.beq (n * n) && gn.beq n && bif allUpTo (fun k => !badrow r g c n k && allUpTo (fun j => !badsym c n k j) n) n then true else true, A.bool (bif bif bif bif decide (Int.ofNat n < 1) then true else decide (Int.ofNat n > 6) then true else Int.ofNat gn != Int.ofNat n then true else Int.ofNat cn != IntKind.i64.wrap (Int.ofNat n * Int.ofNat n) then false else bif allUpTo (fun k => !badrow r g c n k && allUpTo (fun j => !badsym c n k j) n) n then true else false)) := by kernel_rfl
noncomputable def s56 : List A → Option (Bool × A)
  | [.rop (.agg (.ro 1 n (.flts .f32 r) :: .ro 1 gn (.flts .f32 g) :: .ro 1 cn (.flts .f32 c) :: tl)) 0] => some (true, .bool (valid n gn cn r g c))
  | _ => none
theorem s56_at : EnvAt Try.prog 56 s56 := of_auto cfg6_ok lp56_ok Try.func56 (by kernel_rfl) (by kernel_rfl) fun ds cc rr h hc => by
  unfold s56 at h
  split at h
  · rename_i n r gn g cn c tl
    simp only [Option.some.injEq, Prod.mk.injEq] at h
    obtain ⟨rfl, rfl⟩ := h
    refine auto_fit (auto56 n gn cn r g c tl) ?_ ?_
    · rw [sizes_eq]
      unfold valid
      cases sizes n gn cn
      · rfl
      · cases allUpTo (fun k => !badrow r g c n k && allUpTo (fun j => !badsym c n k j) n) n <;> rfl
    · rw [sizes_eq]
      cases hs : sizes n gn cn
      · rfl
      · simp only [sizes, decide_eq_true_eq] at hs
        simp [hs]
  · cases h

end Go.Fw.C1

/-
  Circuits that are valid: the program's test.
-/
namespace Go.Fw.C1
open Go.Proofs

noncomputable def env7 : List (Nat × (List A → Option (Bool × A))) := (56, s56) :: (60, auto cfg6 Try.f60) :: env6
theorem env7_ok : EnvOK Try.prog (look env7) := (env_cons s56_at (env_cons (auto_at cfg6_ok Try.func60 (by kernel_rfl) (by kernel_rfl)) env6_ok))
noncomputable def cfg7 : Cfg := mkCfg tab [] xts (look env7)
theorem cfg7_ok : CfgOK Try.prog cfg7 := cfg_ok tab_eq (no_fts _) xts_ok env7_ok mixed
noncomputable def unsym (c : Nat → Nat) (n i j : Nat) : Bool := forder .f32 (c (i * n + j)) (c (j * n + i)) != some .eq
noncomputable def notpos (c : Nat → Nat) (n i : Nat) : Bool := !(forder .f32 (c (i * n + i)) (can .f32 0) == some .gt)

noncomputable def I21j (n gn cn i : Nat) (p q : Int) (r g c : Nat → Nat) (k : Nat) : List A := [.ptr 0 0, .bool false, .int .i64 (Int.ofNat i), .int .i64 p, .int .i64 q, .int .i64 (Int.ofNat i), .int .i64 (Int.ofNat k)]
noncomputable def J21j (n gn cn i : Nat) (p q : Int) (r g c : Nat → Nat) : List O := [.var [.ro 1 n (.flts .f32 r), .ro 1 gn (.flts .f32 g), .ro 1 cn (.flts .f32 c)]]
theorem round21j (n gn cn i : Nat) (p q : Int) (r g c : Nat → Nat) (k : Nat) (L : XK → List A → List (Option O) → Prop) :
    ((exec cfg7 (fun _ => true) (fun _ => none) 0 1000 (loopOf Try.f21 2) (litSt Try.f21.ntmps 928 [1, 2, 4, 48, 49, 58, 59] [0] (I21j n gn cn i p q r g c k) (J21j n gn cn i p q r g c))).rt [1, 2, 4, 48, 49, 58, 59] [0]).Ok L =
    bif decide (Int.ofNat k < Int.ofNat i) then
      bif decide (0 ≤ IntKind.i64.wrap (IntKind.i64.wrap (Int.ofNat i * Int.ofNat n) + Int.ofNat k)) && decide (IntKind.i64.wrap (IntKind.i64.wrap (Int.ofNat i * Int.ofNat n) + Int.ofNat k) < Int.ofNat cn) && true && true then
        bif decide (0 ≤ IntKind.i64.wrap (IntKind.i64.wrap (Int.ofNat k * Int.ofNat n) + Int.ofNat i)) && decide (IntKind.i64.wrap (IntKind.i64.wrap (Int.ofNat k * Int.ofNat n) + Int.ofNat i) < Int.ofNat cn) && true then
          bif forder FloatKind.f32 (c (IntKind.i64.wrap (IntKind.i64.wrap (Int.ofNat i * Int.ofNat n) + Int.ofNat k)).toNat) (c (IntKind.i64.wrap (IntKind.i64.wrap (Int.ofNat k * Int.ofNat n) + Int.ofNat i)).toNat) != some Ordering.eq then
            L (XK.ret) [A.ptr 0 0, A.bool false, A.int IntKind.i64 (Int.ofNat i), A.int IntKind.i64 p, A.int IntKind.i64 q, A.int IntKind.i64 (Int.ofNat i), A.int IntKind.i64 (Int.ofNat k)] [some (O.var [A.ro 1 n (Row.flts FloatKind.f32 r), A.ro 1 gn (Row.flts FloatKind.f32 g), A.ro 1 cn (Row.flts FloatKind.f32 c)])]
          else
            L (XK.normal) [A.ptr 0 0, A.bool false, A.int IntKind.i64 (Int.ofNat i), A.int IntKind.i64 p, A.int IntKind.i64 q, A.int IntKind.i64 (Int.ofNat i), A.int IntKind.i64 (IntKind.i64.wrap (Int.ofNat k + Int.ofNat 1))] [some (O.var [A.ro 1 n (Row.flts FloatKind.f32 r), A.ro 1 gn (Row.flts FloatKind.f32 g), A.ro 1 cn (Row.flts FloatKind.f32 c)])]
        else
          False
      else
        False
    else
      L (XK.exit 2) [A.ptr 0 0, A.bool false, A.int IntKind.i64 (Int.ofNat i), A.int IntKind.i64 p, A.int IntKind.i64 q, A.int IntKind.i64 (Int.ofNat i), A.int IntKind.i64 (Int.ofNat k)] [some (O.var [A.ro 1 n (Row.flts FloatKind.f32 r), A.ro 1 gn (Row.flts FloatKind.f32 g), A.ro 1 cn (Row.flts FloatKind.f32 c)])] := by kernel_rfl
noncomputable def F21j : List A → List (Option O) → Option R3
  | [.ptr 0 0, .bool false, .int .i64 (.ofNat i), .int .i64 p, .int .i64 q, .int .i64 m, .int .i64 0], [some (.var [.ro 1 n (.flts .f32 r), .ro 1 gn (.flts .f32 g), .ro 1 cn (.flts .f32 c)])] => some (.ite (decide (m = Int.ofNat i) && Nat.blt i n && Nat.ble n 6 && Nat.beq cn (n * n)) (.ite (allUpTo (fun k => !unsym c n i k) (i)) (.leaf .normal (I21j n gn cn i p q r g c (i)) (J21j n gn cn i p q r g c)) (.leaf (.ret) ((I21j n gn cn i p q r g c) (firstIdx (fun k => !unsym c n i k) (i))) (J21j n gn cn i p q r g c))) .fail)
  | _, _ => none
theorem loop21j : CodeOK Try.prog (fun _ σ => sumAt Try.f21.ntmps 928 [1, 2, 4, 48, 49, 58, 59] [0] F21j σ) (.block 2 (.loop (loopOf Try.f21 2))) := by
  refine block_ok (own := fun _ => true) (lp := (fun _ => none)) (un := 0) (fuel := 1000) cfg7_ok (lp_none _) fun az os R hF hok => ?_
  unfold F21j at hF
  split at hF
  · rename_i i p q m n r gn g cn c
    injection hF with hF
    subst hF
    have hg := hok.guard
    have hg' := hg
    simp only [Bool.and_eq_true, Nat.ble_eq, Nat.beq_eq, decide_eq_true_eq] at hg'
    obtain ⟨⟨⟨rfl, hi⟩, hn⟩, hcn⟩ := hg'
    have hi := blt_lt' hi
    refine for_fact (fun k => !unsym c n i k) (i) (I21j n gn cn i p q r g c) (fun _ => J21j n gn cn i p q r g c) _ (.ret) (I21j n gn cn i p q r g c) (I21j n gn cn i p q r g c) (I21j n gn cn i p q r g c (i)) (J21j n gn cn i p q r g c) rfl (OSims.self (J21j n gn cn i p q r g c)) (fun _ => rfl) (fun _ => rfl) (fun _ => ALe.self _) (fun _ => rfl) (ALe.self _) (OSims.self (J21j n gn cn i p q r g c)) rfl (fun h => by cases h) (fun k hk L h1' h2 h3 => ?_) fun L hL => ?_
    · have h1 := fun a b => h1' a b _ (OSims.self (J21j n gn cn i p q r g c))
      rw [round21j]
      by_cases hkm : k < i
      · refine condT (lt_dec hkm) ?_
        have hkn : k < n := by omega
        rw [wrap_ix hkn hi hn, wrap_ix hi hkn hn]
        refine condT (by rw [hcn]; simp only [dec0, lt_dec (ix_lt hkn hi hn), lt_dec (ix_lt hi hkn hn), Bool.and_self, Bool.true_or, Bool.and_true]) ?_
        refine condT (by rw [hcn]; simp only [dec0, lt_dec (ix_lt hkn hi hn), lt_dec (ix_lt hi hkn hn), Bool.and_self, Bool.true_or, Bool.and_true]) ?_
        show cond (unsym c n i k) _ _
        cases hs : unsym c n i k
        · have := h1 hkm (by rw [hs]; rfl)
          rw [wrap_succ (by omega)]
          exact this
        · exact h2 hkm (by rw [hs]; rfl)
      · refine condE (ge_dec (by omega)) ?_
        obtain rfl : k = i := by omega
        exact h3 rfl
    · exact ⟨fun h => (hL.1 hg).1 h, fun N hN hf hall => by
        have := (hL.1 hg).2 (allUpTo_false hN hf)
        rw [firstIdx_eq hN hf hall] at this
        exact this⟩
  · cases hF

noncomputable def lpi21i : List (Nat × (St → T)) := [(2, sumAt Try.f21.ntmps 928 [1, 2, 4, 48, 49, 58, 59] [0] F21j)]
theorem lpi21i_ok : LpOK Try.prog (look lpi21i) (loopOf Try.f21 0) := lp_in (lp_loops (by kernel_rfl) (by kernel_rfl) fun p hp => by
  simp only [lpi21i, List.mem_cons, List.not_mem_nil, or_false] at hp
  rcases hp with rfl
  · exact loop21j) _
noncomputable def I21i (n gn cn : Nat) (r g c : Nat → Nat) (k : Nat) : List A := [.ptr 0 0, .bool false, .int .i64 (Int.ofNat n), .int .i64 (Int.ofNat k)]
noncomputable def J21i (n gn cn : Nat) (r g c : Nat → Nat) : List O := [.var [.ro 1 n (.flts .f32 r), .ro 1 gn (.flts .f32 g), .ro 1 cn (.flts .f32 c)]]
theorem round21i (n gn cn : Nat) (r g c : Nat → Nat) (k : Nat) (L : XK → List A → List (Option O) → Prop) :
    ((exec cfg7 (fun _ => true) (look lpi21i) 0 1000 (loopOf Try.f21 0) (litSt Try.f21.ntmps 752 [1, 2, 48, 49] [0] (I21i n gn cn r g c k) (J21i n gn cn r g c))).rt [1, 2, 48, 49] [0]).Ok L =
    bif decide (Int.ofNat k < Int.ofNat n) then
      bif decide (0 ≤ IntKind.i64.wrap (IntKind.i64.wrap (Int.ofNat k * Int.ofNat n) + Int.ofNat k)) && decide (IntKind.i64.wrap (IntKind.i64.wrap (Int.ofNat k * Int.ofNat n) + Int.ofNat k) < Int.ofNat cn) && true then
        bif !forder FloatKind.f32 (c (IntKind.i64.wrap (IntKind.i64.wrap (Int.ofNat k * Int.ofNat n) + Int.ofNat k)).toNat) (can FloatKind.f32 0) == some Ordering.gt then
          L (XK.ret) [A.ptr 0 0, A.bool false, A.int IntKind.i64 (Int.ofNat n), A.int IntKind.i64 (Int.ofNat k)] [some (O.var [A.ro 1 n (Row.flts FloatKind.f32 r), A.ro 1 gn (Row.flts FloatKind.f32 g), A.ro 1 cn (Row.flts FloatKind.f32 c)])]
        else
          bif decide (Int.ofNat k = Int.ofNat k) && k.blt n && n.ble 6 && cn.beq (n * n) then
            bif allUpTo (fun k_1 => !unsym c n k k_1) k then
              L (XK.normal) [A.ptr 0 0, A.bool false, A.int IntKind.i64 (Int.ofNat n), A.int IntKind.i64 (IntKind.i64.wrap (Int.ofNat k + Int.ofNat 1))] [some (O.var [A.ro 1 n (Row.flts FloatKind.f32 r), A.ro 1 gn (Row.flts FloatKind.f32 g), A.ro 1 cn (Row.flts FloatKind.f32 c)])]
            else
              L (XK.ret) [A.ptr 0 0, A.bool false, A.int IntKind.i64 (Int.ofNat n), A.int IntKind.i64 (Int.ofNat k)] [some (O.var [A.ro 1 n (Row.flts FloatKind.f32 r), A.ro 1 gn (Row.flts FloatKind.f32 g), A.ro 1 cn (Row.flts FloatKind.f32 c)])]
          else
            False
      else
        False
    else
      L (XK.exit 0) [A.ptr 0 0, A.bool false, A.int IntKind.i64 (Int.ofNat n), A.int IntKind.i64 (Int.ofNat k)] [some (O.var [A.ro 1 n (Row.flts FloatKind.f32 r), A.ro 1 gn (Row.flts FloatKind.f32 g), A.ro 1 cn (Row.flts FloatKind.f32 c)])] := by kernel_rfl
noncomputable def F21i : List A → List (Option O) → Option R3
  | [.ptr 0 0, .bool false, .int .i64 m, .int .i64 0], [some (.var [.ro 1 n (.flts .f32 r), .ro 1 gn (.flts .f32 g), .ro 1 cn (.flts .f32 c)])] => some (.ite (decide (m = Int.ofNat n) && Nat.ble n 6 && Nat.beq cn (n * n)) (.ite (allUpTo (fun k => !notpos c n k && allUpTo (fun j => !unsym c n k j) k) (n)) (.leaf .normal (I21i n gn cn r g c (n)) (J21i n gn cn r g c)) (.leaf (.ret) ((I21i n gn cn r g c) (firstIdx (fun k => !notpos c n k && allUpTo (fun j => !unsym c n k j) k) (n))) (J21i n gn cn r g c))) .fail)
  | _, _ => none
theorem loop21i : CodeOK Try.prog (fun _ σ => sumAt Try.f21.ntmps 752 [1, 2, 48, 49] [0] F21i σ) (.block 0 (.loop (loopOf Try.f21 0))) := by
  refine block_ok (own := fun _ => true) (lp := (look lpi21i)) (un := 0) (fuel := 1000) cfg7_ok lpi21i_ok fun az os R hF hok => ?_
  unfold F21i at hF
  split at hF
  · rename_i m n r gn g cn c
    injection hF with hF
    subst hF
    have hg := hok.guard
    have hg' := hg
    simp only [Bool.and_eq_true, Nat.ble_eq, Nat.beq_eq, decide_eq_true_eq] at hg'
    obtain ⟨⟨rfl, hn⟩, hcn⟩ := hg'
    refine for_fact (fun k => !notpos c n k && allUpTo (fun j => !unsym c n k j) k) (n) (I21i n gn cn r g c) (fun _ => J21i n gn cn r g c) _ (.ret) (I21i n gn cn r g c) (I21i n gn cn r g c) (I21i n gn cn r g c (n)) (J21i n gn cn r g c) rfl (OSims.self (J21i n gn cn r g c)) (fun _ => rfl) (fun _ => rfl) (fun _ => ALe.self _) (fun _ => rfl) (ALe.self _) (OSims.self (J21i n gn cn r g c)) rfl (fun h => by cases h) (fun k hk L h1' h2 h3 => ?_) fun L hL => ?_
    · have h1 := fun a b => h1' a b _ (OSims.self (J21i n gn cn r g c))
      rw [round21i]
      by_cases hkm : k < n
      · refine condT (lt_dec hkm) ?_
        rw [wrap_ix hkm hkm hn]
        refine condT (by rw [hcn]; simp only [dec0, lt_dec (ix_lt hkm hkm hn), Bool.and_self, Bool.and_true]) ?_
        show cond (notpos c n k) _ _
        cases hs : notpos c n k
        · refine condE rfl ?_
          refine condT (by simp only [hcn, Nat.beq_refl, Nat.ble_eq_true_of_le hn, lt_blt hkm, decide_true, Bool.and_self]) ?_
          cases ha : allUpTo (fun j => !unsym c n k j) k
          · exact h2 hkm (by rw [hs, ha]; rfl)
          · have := h1 hkm (by rw [hs, ha]; rfl)
            rw [wrap_succ (by omega)]
            exact this
        · exact h2 hkm (by rw [hs]; rfl)
      · refine condE (ge_dec (by omega)) ?_
        obtain rfl : k = n := by omega
        exact h3 rfl
    · exact ⟨fun h => (hL.1 hg).1 h, fun N hN hf hall => by
        have := (hL.1 hg).2 (allUpTo_false hN hf)
        rw [firstIdx_eq hN hf hall] at this
        exact this⟩
  · cases hF


theorem fin_notNaN {x : Nat} (h : fin x = true) : isNaN .f32 x = false := by
  cases hx : isNaN .f32 x
  · rfl
  · unfold fin at h
    rw [fop_nan (.inl hx), forder_none.2 (.inl (isNaN_qnan _))] at h
    cases h
theorem least_bad (x : Nat) : (!least x) = bad x := by
  unfold least bad
  cases hf : fin x
  · rfl
  · have h1 := fin_notNaN hf
    have h2 : forder .f32 x (can .f32 0) ≠ none := fun h => by
      rcases forder_none.1 h with h | h
      · rw [h1] at h; cases h
      · rw [isNaN_zero] at h; cases h
    show (!ge0 x) = lt0 x
    unfold ge0 lt0
    cases ho : forder .f32 x (can .f32 0) with
    | none => exact absurd ho h2
    | some o => cases o <;> rfl
theorem badrow_eq (r g c : Nat → Nat) (n i : Nat) : badrow r g c n i = (bad (r i) || bad (g i) || notpos c n i) := by
  unfold badrow notpos
  rw [least_bad, least_bad]
  cases bad (r i) <;> cases bad (g i) <;> rfl
theorem badsym_eq (c : Nat → Nat) (n i j : Nat) : badsym c n i j = (!fin (c (i * n + j)) || unsym c n i j) := by
  unfold badsym unsym
  cases fin (c (i * n + j)) <;> rfl
theorem unsym_comm (c : Nat → Nat) (n i j : Nat) : unsym c n i j = unsym c n j i := forder_eq_comm _ _ _
theorem unsym_self {c : Nat → Nat} {n i : Nat} (h : fin (c (i * n + i)) = true) : unsym c n i i = false := by
  unfold unsym
  rw [forder_self (fin_notNaN h)]
  rfl

/-- The program looks at the same. -/
theorem valid_eq {n cn : Nat} (r g c : Nat → Nat) (hcn : cn = n * n) :
    allUpTo (fun k => !badrow r g c n k && allUpTo (fun j => !badsym c n k j) n) n =
      (allUpTo (fun k => !bad (r k)) n && (allUpTo (fun k => !bad (g k)) n && (allUpTo (fun k => fin (c k)) cn && allUpTo (fun k => !notpos c n k && allUpTo (fun j => !unsym c n k j) k) n))) := by
  subst hcn
  apply Bool.eq_iff_iff.2
  simp only [Bool.and_eq_true, allUpTo_iff, badrow_eq, badsym_eq, Bool.not_eq_true', Bool.or_eq_false_iff, Bool.not_eq_false']
  constructor
  · intro h
    refine ⟨fun i hi => (h i hi).1.1.1, fun i hi => (h i hi).1.1.2, fun k hk => ?_, fun i hi => ⟨(h i hi).1.2, fun j hj => ((h i hi).2 j (by omega)).2⟩⟩
    have hn : 0 < n := by
      rcases Nat.eq_zero_or_pos n with h0 | h0
      · subst h0; simp at hk
      · exact h0
    have h1 : k / n < n := (Nat.div_lt_iff_lt_mul hn).2 hk
    have := ((h (k / n) h1).2 (k % n) (Nat.mod_lt _ hn)).1
    rwa [Nat.mul_comm, Nat.div_add_mod] at this
  · rintro ⟨h1, h2, h3, h4⟩ i hi
    have hfin : ∀ a b, a < n → b < n → fin (c (a * n + b)) = true := fun a b ha hb => h3 _ (by
      have : (a + 1) * n ≤ n * n := Nat.mul_le_mul_right n ha
      rw [Nat.add_mul, Nat.one_mul] at this
      omega)
    refine ⟨⟨⟨h1 i hi, h2 i hi⟩, (h4 i hi).1⟩, fun j hj => ⟨hfin i j hi hj, ?_⟩⟩
    rcases Nat.lt_trichotomy j i with h | h | h
    · exact (h4 i hi).2 j h
    · subst h; exact unsym_self (hfin j j hi hi)
    · rw [unsym_comm]; exact (h4 j hj).2 i h

noncomputable def lp21 : List (Nat × (St → T)) := [(0, sumAt Try.f21.ntmps 752 [1, 2, 48, 49] [0] F21i)]
theorem lp21_ok : LpOK Try.prog (look lp21) (bodyOf Try.f21) := lp_loops (by kernel_rfl) (by kernel_rfl) fun p hp => by
  simp only [lp21, List.mem_cons, List.not_mem_nil, or_false] at hp
  rcases hp with rfl
  · exact loop21i
theorem auto21 (n gn cn : Nat) (r g c : Nat → Nat) : autoLp cfg7 (look lp21) Try.f21 [.agg [.ro 1 n (.flts .f32 r), .ro 1 gn (.flts .f32 g), .ro 1 cn (.flts .f32 c)]] =
    some ((n.ble 4611686018427387000 || !(bif bif bif decide (Int.ofNat n < 1) then true else decide (Int.ofNat n > 6) then true else Int.ofNat gn != Int.ofNat n then true else Int.ofNat cn != IntKind.i64.wrap (Int.ofNat n * Int.ofNat n)) == false) && ((gn.ble 4611686018427387000 || !(bif bif bif bif decide (Int.ofNat n < 1) then true else decide (Int.ofNat n > 6) then true else Int.ofNat gn != Int.ofNat n then true else Int.ofNat cn != IntKind.i64.wrap (Int.ofNat n * Int.ofNat n) then true else !allUpTo (fun k => !bad (r k)) n) == false) && ((cn.ble 4611686018427387000 || !(bif bif bif bif bif decide (Int.ofNat n < 1) then true else decide (Int.ofNat n > 6) then true else Int.ofNat gn != Int.ofNat n then true else Int.ofNat cn != IntKind.i64.wrap (Int.ofNat n * Int.ofNat n) then true else !allUpTo (fun k => !bad (r k)) n then true else !allUpTo (fun k => !bad (g k)) gn) == false) && bif bif bif bif bif bif bif decide (Int.ofNat n < 1) then true else decide (Int.ofNat n > 6) then true else Int.ofNat gn != Int.ofNat n then true else Int.ofNat cn != IntKind.i64.wrap (Int.ofNat n * Int.ofNat n) then true else !allUpTo (fun k => !bad (r k)) n then true else !allUpTo (fun k => !bad (g k)) gn then true else !allUpTo (fun k => fin (c k)) cn then true else decide (Int.ofNat n = Int.ofNat n) && n.ble 6 && cn.beq (n * n) && bif allUpTo (fun k => !notpos c n k && allUpTo (fun j => !unsym c n k j) k) n then true else true)), A.bool (bif bif bif bif bif bif bif decide (Int.ofNat n < 1) then true else decide (Int.ofNat n > 6) then true else Int.ofNat gn != Int.ofNat n then true else Int.ofNat cn != IntKind.i64.wrap (Int.ofNat n * Int.ofNat n) then true else !allUpTo (fun k => !bad (r k)) n then true else !allUpTo (fun k => !bad (g k)) gn then true else !allUpTo (fun k => fin (c k)) cn then false else bif allUpTo (fun k => !notpos c n k && allUpTo (fun j => !unsym c n k j) k) n then true else false)) := by kernel_rfl
noncomputable def s21 : List A → Option (Bool × A)
  | [.agg [.ro 1 n (.flts .f32 r), .ro 1 gn (.flts .f32 g), .ro 1 cn (.flts .f32 c)]] => some (true, .bool (valid n gn cn r g c))
  | _ => none
theorem s21_at : EnvAt Try.prog 21 s21 := of_auto cfg7_ok lp21_ok Try.func21 (by kernel_rfl) (by kernel_rfl) fun ds cc rr h hc => by
  unfold s21 at h
  split at h
  · rename_i n r gn g cn c
    simp only [Option.some.injEq, Prod.mk.injEq] at h
    obtain ⟨rfl, rfl⟩ := h
    refine auto_fit (auto21 n gn cn r g c) ?_ ?_
    · rw [sizes_eq]
      unfold valid
      cases hs : sizes n gn cn
      · rfl
      · simp only [sizes, decide_eq_true_eq] at hs
        rw [valid_eq r g c hs.2.2.2, hs.2.2.1]
        cases allUpTo (fun k => !bad (r k)) n <;> cases allUpTo (fun k => !bad (g k)) n <;> cases allUpTo (fun k => fin (c k)) cn <;> cases allUpTo (fun k => !notpos c n k && allUpTo (fun j => !unsym c n k j) k) n <;> rfl
    · rw [sizes_eq]
      cases hs : sizes n gn cn
      · simp
      · simp only [sizes, decide_eq_true_eq] at hs
        have h2 := sq_le hs.2.1
        have e1 : n.ble 4611686018427387000 = true := Nat.ble_eq_true_of_le (by omega)
        have e2 : cn.ble 4611686018427387000 = true := Nat.ble_eq_true_of_le (by omega)
        rw [hs.2.2.1, e1, e2]
        simp [hs]
  · cases h

end Go.Fw.C1

/-
  The laws' own functions on circuits.
-/
namespace Go.Fw.C1
open Go.Proofs

/-- What is left behind a slice of length n. -/
def sz1 (left : Int) (n : Nat) : Int := bif decide (IntKind.i64.wrap (left - Int.ofNat n) < 0) then -1 else IntKind.i64.wrap (left - Int.ofNat n)
def szC (n gn cn : Nat) (left : Int) : Int := bif decide (sz1 left n < 0) then -1 else bif decide (sz1 (sz1 left n) gn < 0) then -1 else bif decide (sz1 (sz1 (sz1 left n) gn) cn < 0) then -1 else sz1 (sz1 (sz1 left n) gn) cn

theorem sz1_le {left : Int} {n : Nat} (h0 : 0 ≤ left) (h1 : left ≤ 1048576) (hn : n ≤ 9223372036854775807) : (sz1 left n = -1 ∧ left < n) ∨ (sz1 left n = left - n ∧ (n : Int) ≤ left) := by
  have e : IntKind.i64.wrap (left - Int.ofNat n) = left - n := by
    simp [IntKind.wrap, IntKind.bits, IntKind.signed]
    omega
  unfold sz1
  rw [e]
  by_cases h : left - (n : Int) < 0
  · rw [decide_eq_true h]
    exact .inl ⟨rfl, by omega⟩
  · rw [decide_eq_false h]
    exact .inr ⟨rfl, by omega⟩

theorem szC_le {left : Int} {n gn cn : Nat} (h0 : 0 ≤ left) (h1 : left ≤ 1048576) (hn : n ≤ 9223372036854775807) (hg : gn ≤ 9223372036854775807) (hc : cn ≤ 9223372036854775807) :
    szC n gn cn left = -1 ∨ (0 ≤ szC n gn cn left ∧ szC n gn cn left + n + gn + cn = left) := by
  unfold szC
  rcases sz1_le h0 h1 hn with ⟨e, h⟩ | ⟨e, h⟩
  · rw [e]; exact .inl rfl
  rw [e, decide_eq_false (p := left - (n : Int) < 0) (by omega)]
  rcases sz1_le (left := left - n) (by omega) (by omega) hg with ⟨e, h⟩ | ⟨e, h⟩
  · rw [e]; exact .inl rfl
  rw [e, decide_eq_false (p := left - (n : Int) - gn < 0) (by omega)]
  rcases sz1_le (left := left - n - gn) (by omega) (by omega) hc with ⟨e, h⟩ | ⟨e, h⟩
  · rw [e]; exact .inl rfl
  rw [e, decide_eq_false (p := left - (n : Int) - gn - cn < 0) (by omega)]
  exact .inr ⟨by show 0 ≤ left - (n : Int) - gn - cn; omega, by show left - (n : Int) - gn - cn + n + gn + cn = left; omega⟩

theorem auto51 (n : Nat) (r : Nat → Nat) (left : Int) : autoLp cfg2 (fun _ => none) Try.f51 [.ro 1 n (.flts .f32 r), .int .i64 left] =
    some (bif decide (IntKind.i64.wrap (left - Int.ofNat n) < 0) then true else true, A.int IntKind.i64 (bif decide (IntKind.i64.wrap (left - Int.ofNat n) < 0) then Int.negSucc 0 else IntKind.i64.wrap (left - Int.ofNat n))) := by kernel_rfl
noncomputable def s51 : List A → Option (Bool × A)
  | [.ro 1 n (.flts .f32 r), .int .i64 left] => some (true, .int .i64 (sz1 left n))
  | _ => none
theorem s51_at : EnvAt Try.prog 51 s51 := of_auto cfg2_ok (lp_none _) Try.func51 (by kernel_rfl) (by kernel_rfl) fun ds cc rr h hc => by
  unfold s51 at h
  split at h
  · rename_i n r left
    simp only [Option.some.injEq, Prod.mk.injEq] at h
    obtain ⟨rfl, rfl⟩ := h
    refine auto_fit (auto51 n r left) ?_ ?_
    · rfl
    · simp
  · cases h

noncomputable def env8 : List (Nat × (List A → Option (Bool × A))) := (21, s21) :: (51, s51) :: (17, auto cfg7 Try.f17) :: (19, auto cfg7 Try.f19) :: (20, auto cfg7 Try.f20) :: env7
theorem env8_ok : EnvOK Try.prog (look env8) := (env_cons s21_at (env_cons s51_at (env_cons (auto_at cfg7_ok Try.func17 (by kernel_rfl) (by kernel_rfl)) (env_cons (auto_at cfg7_ok Try.func19 (by kernel_rfl) (by kernel_rfl)) (env_cons (auto_at cfg7_ok Try.func20 (by kernel_rfl) (by kernel_rfl)) env7_ok)))))
noncomputable def cfg8 : Cfg := mkCfg tab [] xts (look env8)
theorem cfg8_ok : CfgOK Try.prog cfg8 := cfg_ok tab_eq (no_fts _) xts_ok env8_ok mixed
theorem auto15 (n gn cn : Nat) (r g c : Nat → Nat) (left : Int) : autoLp cfg8 (fun _ => none) Try.f15 [.agg [.ro 1 n (.flts .f32 r), .ro 1 gn (.flts .f32 g), .ro 1 cn (.flts .f32 c)], .int .i64 left] =
    some (bif decide (sz1 left n < 0) then true else bif decide (sz1 (sz1 left n) gn < 0) then true else bif decide (sz1 (sz1 (sz1 left n) gn) cn < 0) then true else true, A.int IntKind.i64 (bif decide (sz1 left n < 0) then Int.negSucc 0 else bif decide (sz1 (sz1 left n) gn < 0) then Int.negSucc 0 else bif decide (sz1 (sz1 (sz1 left n) gn) cn < 0) then Int.negSucc 0 else sz1 (sz1 (sz1 left n) gn) cn)) := by kernel_rfl
noncomputable def s15 : List A → Option (Bool × A)
  | [.agg [.ro 1 n (.flts .f32 r), .ro 1 gn (.flts .f32 g), .ro 1 cn (.flts .f32 c)], .int .i64 left] => some (true, .int .i64 (szC n gn cn left))
  | _ => none
theorem s15_at : EnvAt Try.prog 15 s15 := of_auto cfg8_ok (lp_none _) Try.func15 (by kernel_rfl) (by kernel_rfl) fun ds cc rr h hc => by
  unfold s15 at h
  split at h
  · rename_i n r gn g cn c left
    simp only [Option.some.injEq, Prod.mk.injEq] at h
    obtain ⟨rfl, rfl⟩ := h
    refine auto_fit (auto15 n gn cn r g c left) ?_ ?_
    · rfl
    · simp
  · cases h

noncomputable def env9 : List (Nat × (List A → Option (Bool × A))) := (15, s15) :: env8
theorem env9_ok : EnvOK Try.prog (look env9) := (env_cons s15_at env8_ok)
noncomputable def cfg9 : Cfg := mkCfg tab [] xts (look env9)
theorem cfg9_ok : CfgOK Try.prog cfg9 := cfg_ok tab_eq (no_fts _) xts_ok env9_ok mixed

theorem allUpTo_all {f : Nat → Bool} (h : ∀ i, f i = true) (m : Nat) : allUpTo f m = true := allUpTo_iff.2 fun i _ => h i
theorem sameF_self (x : Nat) : sameF x x = true := by
  unfold sameF
  cases h : nanF .f64 x
  · cases hz : zeroF .f64 x
    · simp only [nanF, bne_eq_false_iff_eq] at h
      simp [h]
    · simp
  · simp
theorem eqL_self (n : Nat) (r : Nat → Nat) : eqL n n r r = true := by
  unfold eqL
  rw [Nat.beq_refl, allUpTo_all (f := sameAt r r) (fun i => sameF_self _) n]
  rfl
theorem ble_of {n m : Nat} (h : n ≤ m) : n.ble m = true := Nat.ble_eq_true_of_le h

/-- A circuit that came in. -/
def CircA (a : A) : Prop := ∃ n gn cn r g c, (n ≤ 9223372036854775807 ∧ gn ≤ 9223372036854775807 ∧ cn ≤ 9223372036854775807) ∧ ((∀ i, Canon .f32 (r i)) ∧ (∀ i, Canon .f32 (g i)) ∧ (∀ i, Canon .f32 (c i))) ∧
  a = .agg [.ro 1 n (.flts .f32 r), .ro 1 gn (.flts .f32 g), .ro 1 cn (.flts .f32 c)]
/-- Loops that came in. -/
def LoopsA (a : A) : Prop := ∃ n gn cn qn jn r g c q j, (n ≤ 9223372036854775807 ∧ gn ≤ 9223372036854775807 ∧ cn ≤ 9223372036854775807 ∧ qn ≤ 9223372036854775807 ∧ jn ≤ 9223372036854775807) ∧
  a = .agg [.ro 1 n (.flts .f32 r), .ro 1 gn (.flts .f32 g), .ro 1 cn (.flts .f32 c), .ro 1 qn (.flts .f32 q), .ro 1 jn (.flts .f32 j)]
def FltA (a : A) : Prop := ∃ x, Canon .f32 x ∧ a = .flt .f32 x
def IntA (n : Int) : Prop := -9223372036854775808 ≤ n ∧ n ≤ 9223372036854775807

theorem law4 {a : A} (ha : CircA a) : PureCall Try.prog 4 [a] (.bool true) := by
  obtain ⟨n, gn, cn, r, g, c, hs, _, rfl⟩ := ha
  have h : autoLp cfg9 (fun _ => none) Try.f4 [.agg [.ro 1 n (.flts .f32 r), .ro 1 gn (.flts .f32 g), .ro 1 cn (.flts .f32 c)]] =
    some (bif decide (szC n gn cn 1048576 < 0) then true else n.ble 1073741824 && (gn.ble 1073741824 && (cn.ble 1073741824 && true)) && (n.ble 1073741824 && (gn.ble 1073741824 && (cn.ble 1073741824 && true)) && bif !valid n gn cn r g c == valid n gn cn r g c then true else n.ble 1073741824 && (gn.ble 1073741824 && (cn.ble 1073741824 && true)) && true && ((n.ble 4611686018427387904 && bif !eqL n n r r then true else gn.ble 4611686018427387904 && bif !eqL gn gn g g then true else cn.ble 4611686018427387904 && bif !eqL cn cn c c then true else true) && bif !bif !eqL n n r r then false else bif !eqL gn gn g g then false else bif !eqL cn cn c c then false else true then true else true)), A.bool (bif decide (szC n gn cn 1048576 < 0) then true else bif !valid n gn cn r g c == valid n gn cn r g c then false else bif !bif !eqL n n r r then false else bif !eqL gn gn g g then false else bif !eqL cn cn c c then false else true then false else true)) := by kernel_rfl
  have key := (auto_at cfg9_ok Try.func4 (by kernel_rfl) (by kernel_rfl)).2 _ _ _ h
  rcases szC_le (left := 1048576) (by omega) (by omega) hs.1 hs.2.1 hs.2.2 with e | ⟨e0, e⟩
  · rw [e] at key; exact key rfl
  · rw [decide_eq_false (p := szC n gn cn 1048576 < 0) (by omega)] at key
    have h1 : n ≤ 1048576 := by omega
    have h2 : gn ≤ 1048576 := by omega
    have h3 : cn ≤ 1048576 := by omega
    simp only [eqL_self, beq_self_eq_true, Bool.not_true, cond_false, Bool.and_true, ble_of (show n ≤ 1073741824 by omega), ble_of (show gn ≤ 1073741824 by omega), ble_of (show cn ≤ 1073741824 by omega),
      ble_of (show n ≤ 4611686018427387904 by omega), ble_of (show gn ≤ 4611686018427387904 by omega), ble_of (show cn ≤ 4611686018427387904 by omega)] at key
    exact key trivial
end Go.Fw.C1

/-
  Circuits and loops that come in.
-/
namespace Go.Fw.C1
open Go.Proofs
open Go.RowKit (Below)

theorem own : ownKnob Try.prog.godebug = none := by kernel_rfl
theorem laidOut : laidOutB Try.prog = true := by kernel_rfl

section
variable {H : Type} {enc : TypeId × Value → H} {w : World} {spare : Nat → Bool} {held : Bool}

theorem fld {name : String} {o bo : Nat} : (⟨name, 22, o, false, "", "", bo⟩ : Field).offset = o ∧ Try.prog.cellsOf (⟨name, 22, o, false, "", "", bo⟩ : Field).type = 1 ∧ ∃ e, Try.prog.underlying (⟨name, 22, o, false, "", "", bo⟩ : Field).type = some (.slice e) ∧ Try.prog.underlying e = some (.float .f32) ∧ Try.prog.cellsOf e = 1 :=
  ⟨rfl, (by kernel_rfl : Try.prog.cellsOf 22 = 1), 41, Try.underlying22, Try.underlying41, by kernel_rfl⟩

theorem cells_circ {fuel : Nat} {cs : List Value} {x : DataW H × List MemPlace} (h : DataW.trod enc Try.prog w 0 spare held fuel 24 cs = some x) : cs.length = 3 ∧ ∀ i, i < 3 → ∃ a, InFlts w (cs.getD i undef) a :=
  in_struct_flts Try.underlying24 (by kernel_rfl) (fun i f hf => by
    match i, hf with
    | 0, hf => injection hf with hf; subst hf; exact fld
    | 1, hf => injection hf with hf; subst hf; exact fld
    | 2, hf => injection hf with hf; subst hf; exact fld
    | i + 3, hf => simp at hf) h

theorem in_circ {v : Value} {x : DataW H × List MemPlace} (h : ∃ fuel, DataW.trod enc Try.prog w 0 spare held fuel 24 v.cells.toList = some x) : ∃ a, CircA a ∧ RelD w (fun b => b < w.heap.size) v a := by
  obtain ⟨fuel, h⟩ := h
  obtain ⟨hl, hx⟩ := cells_circ h
  obtain ⟨vs, rfl, hs, hg⟩ := agg_of_cells (by omega) hl
  obtain ⟨_, n, r, h1, h2, rfl, h3⟩ := hx 0 (by omega)
  obtain ⟨_, gn, g, h4, h5, rfl, h6⟩ := hx 1 (by omega)
  obtain ⟨_, cn, c, h7, h8, rfl, h9⟩ := hx 2 (by omega)
  rw [hg] at h3 h6 h9
  exact ⟨_, ⟨n, gn, cn, r, g, c, ⟨h1, h4, h7⟩, ⟨h2, h5, h8⟩, rfl⟩, rel_agg3 hs h3 h6 h9⟩

theorem in_loops {v : Value} {x : DataW H × List MemPlace} (h : ∃ fuel, DataW.trod enc Try.prog w 0 spare held fuel 33 v.cells.toList = some x) : ∃ a, LoopsA a ∧ RelD w (fun b => b < w.heap.size) v a := by
  obtain ⟨fuel, h⟩ := h
  obtain ⟨xs, m, _, _, hl, hlen, hx⟩ := DataW.trod_struct Try.underlying33 h
  have hl : v.cells.toList.length = 5 := hl.trans (by kernel_rfl)
  obtain ⟨vs, rfl, hs, hg⟩ := agg_of_cells (by omega) hl
  have hlen' : xs.length = 3 := hlen
  have h0 := hx 0 _ rfl
  rw [show xs[0]? = some (xs[0]'(by omega)) from List.getElem?_eq_getElem _] at h0
  obtain ⟨_, h0⟩ := cells_circ h0
  replace h0 : ∀ i, i < 3 → ∃ a, InFlts w ((List.take (Try.prog.cellsOf 24) (List.drop 0 (Value.agg vs).cells.toList)).getD i undef) a := h0
  have h1 := hx 1 _ rfl
  rw [show xs[1]? = some (xs[1]'(by omega)) from List.getElem?_eq_getElem _] at h1
  obtain ⟨u1, a1, e1, h1⟩ := in_flts Try.underlying22 Try.underlying41 (by kernel_rfl) h1
  have h2 := hx 2 _ rfl
  rw [show xs[2]? = some (xs[2]'(by omega)) from List.getElem?_eq_getElem _] at h2
  obtain ⟨u2, a2, e2, h2⟩ := in_flts Try.underlying22 Try.underlying41 (by kernel_rfl) h2
  replace e1 : List.take (Try.prog.cellsOf 22) (List.drop 3 (Value.agg vs).cells.toList) = [u1] := e1
  replace e2 : List.take (Try.prog.cellsOf 22) (List.drop 4 (Value.agg vs).cells.toList) = [u2] := e2
  rw [show Try.prog.cellsOf 22 = 1 by kernel_rfl] at e1 e2
  have k0 : ∀ i, i < 3 → ((List.take (Try.prog.cellsOf 24) (List.drop 0 (Value.agg vs).cells.toList)).getD i undef) = vs.getD i undef := by
    intro i hi
    rw [show Try.prog.cellsOf 24 = 3 by kernel_rfl, ← hg]
    simp only [List.drop_zero, List.getD, List.getElem?_take, hi, if_true]
  have k1 : vs.getD 3 undef = u1 := by
    have hcl : 3 < (Value.agg vs).cells.toList.length := by omega
    rw [← hg]
    rw [List.drop_eq_getElem_cons hcl] at e1
    simp only [List.take_succ_cons, List.take_zero, List.cons.injEq, and_true] at e1
    simp [List.getD, List.getElem?_eq_getElem hcl, e1]
  have k2 : vs.getD 4 undef = u2 := by
    have hcl : 4 < (Value.agg vs).cells.toList.length := by omega
    rw [← hg]
    rw [List.drop_eq_getElem_cons hcl] at e2
    simp only [List.take_succ_cons, List.take_zero, List.cons.injEq, and_true] at e2
    simp [List.getD, List.getElem?_eq_getElem hcl, e2]
  obtain ⟨_, n, r, b1, _, rfl, b2⟩ := h0 0 (by omega)
  obtain ⟨_, gn, g, b3, _, rfl, b4⟩ := h0 1 (by omega)
  obtain ⟨_, cn, c, b5, _, rfl, b6⟩ := h0 2 (by omega)
  obtain ⟨qn, q, b7, _, rfl, b8⟩ := h1
  obtain ⟨jn, j, b9, _, rfl, b10⟩ := h2
  rw [k0 _ (by omega)] at b2 b4 b6
  rw [← k1] at b8
  rw [← k2] at b10
  exact ⟨_, ⟨n, gn, cn, qn, jn, r, g, c, q, j, ⟨b1, b3, b5, b7, b9⟩, rfl⟩, rel_agg5 hs b2 b4 b6 b8 b10⟩

theorem int_fits {n : Int} (h : (Lit.int .i64 n).wf = true) : IntA n := by
  simp only [Lit.wf, Bool.and_eq_true, decide_eq_true_eq] at h
  exact ⟨by have := h.1; simpa [IntKind.min, IntKind.bits, IntKind.signed] using this, by have := h.2; simpa [IntKind.max, IntKind.bits, IntKind.signed] using this⟩
end
end Go.Fw.C1

/-
  Loops that are valid.
-/
namespace Go.Fw.C1
open Go.Proofs

noncomputable def env10 : List (Nat × (List A → Option (Bool × A))) := (61, auto cfg9 Try.f61) :: (25, auto cfg9 Try.f25) :: env9
theorem env10_ok : EnvOK Try.prog (look env10) := (env_cons (auto_at cfg9_ok Try.func61 (by kernel_rfl) (by kernel_rfl)) (env_cons (auto_at cfg9_ok Try.func25 (by kernel_rfl) (by kernel_rfl)) env9_ok))
noncomputable def cfg10 : Cfg := mkCfg tab [] xts (look env10)
theorem cfg10_ok : CfgOK Try.prog cfg10 := cfg_ok tab_eq (no_fts _) xts_ok env10_ok mixed
def szL (n gn cn qn jn : Nat) (left : Int) : Int := bif decide (szC n gn cn left < 0) then -1 else bif decide (sz1 (szC n gn cn left) qn < 0) then -1 else bif decide (sz1 (sz1 (szC n gn cn left) qn) jn < 0) then -1 else sz1 (sz1 (szC n gn cn left) qn) jn
theorem szL_le {left : Int} {n gn cn qn jn : Nat} (h0 : 0 ≤ left) (h1 : left ≤ 1048576) (hn : n ≤ 9223372036854775807) (hg : gn ≤ 9223372036854775807) (hc : cn ≤ 9223372036854775807) (hq : qn ≤ 9223372036854775807) (hj : jn ≤ 9223372036854775807) :
    szL n gn cn qn jn left = -1 ∨ (0 ≤ szL n gn cn qn jn left ∧ szL n gn cn qn jn left + n + gn + cn + qn + jn = left) := by
  unfold szL
  rcases szC_le h0 h1 hn hg hc with e | ⟨e0, e⟩
  · rw [e]; exact .inl rfl
  rw [decide_eq_false (p := szC n gn cn left < 0) (by omega)]
  generalize szC n gn cn left = x at *
  rcases sz1_le (left := x) e0 (by omega) hq with ⟨e, h⟩ | ⟨e, h⟩
  · rw [e]; exact .inl rfl
  rw [e, decide_eq_false (p := x - (qn : Int) < 0) (by omega)]
  rcases sz1_le (left := x - qn) (by omega) (by omega) hj with ⟨e, h⟩ | ⟨e, h⟩
  · rw [e]; exact .inl rfl
  rw [e, decide_eq_false (p := x - (qn : Int) - jn < 0) (by omega)]
  exact .inr ⟨by show 0 ≤ x - (qn : Int) - jn; omega, by show x - (qn : Int) - jn + n + gn + cn + qn + jn = left; omega⟩
theorem auto22 (n gn cn qn jn : Nat) (r g c q j : Nat → Nat) (left : Int) : autoLp cfg10 (fun _ => none) Try.f22 [.agg [.ro 1 n (.flts .f32 r), .ro 1 gn (.flts .f32 g), .ro 1 cn (.flts .f32 c), .ro 1 qn (.flts .f32 q), .ro 1 jn (.flts .f32 j)], .int .i64 left] =
    some (bif decide (szC n gn cn left < 0) then true else bif decide (sz1 (szC n gn cn left) qn < 0) then true else bif decide (sz1 (sz1 (szC n gn cn left) qn) jn < 0) then true else true, A.int IntKind.i64 (bif decide (szC n gn cn left < 0) then Int.negSucc 0 else bif decide (sz1 (szC n gn cn left) qn < 0) then Int.negSucc 0 else bif decide (sz1 (sz1 (szC n gn cn left) qn) jn < 0) then Int.negSucc 0 else sz1 (sz1 (szC n gn cn left) qn) jn)) := by kernel_rfl
noncomputable def s22 : List A → Option (Bool × A)
  | [.agg [.ro 1 n (.flts .f32 r), .ro 1 gn (.flts .f32 g), .ro 1 cn (.flts .f32 c), .ro 1 qn (.flts .f32 q), .ro 1 jn (.flts .f32 j)], .int .i64 left] => some (true, .int .i64 (szL n gn cn qn jn left))
  | _ => none
theorem s22_at : EnvAt Try.prog 22 s22 := of_auto cfg10_ok (lp_none _) Try.func22 (by kernel_rfl) (by kernel_rfl) fun ds cc rr h hc => by
  unfold s22 at h
  split at h
  · rename_i n r gn g cn c qn q jn j left
    simp only [Option.some.injEq, Prod.mk.injEq] at h
    obtain ⟨rfl, rfl⟩ := h
    refine auto_fit (auto22 n gn cn qn jn r g c q j left) ?_ ?_
    · rfl
    · simp
  · cases h

noncomputable def env11 : List (Nat × (List A → Option (Bool × A))) := (23, auto cfg10 Try.f23) :: (22, s22) :: (24, auto cfg10 Try.f24) :: (26, auto cfg10 Try.f26) :: env10
theorem env11_ok : EnvOK Try.prog (look env11) := (env_cons (auto_at cfg10_ok Try.func23 (by kernel_rfl) (by kernel_rfl)) (env_cons s22_at (env_cons (auto_at cfg10_ok Try.func24 (by kernel_rfl) (by kernel_rfl)) (env_cons (auto_at cfg10_ok Try.func26 (by kernel_rfl) (by kernel_rfl)) env10_ok))))
noncomputable def cfg11 : Cfg := mkCfg tab [] xts (look env11)
theorem cfg11_ok : CfgOK Try.prog cfg11 := cfg_ok tab_eq (no_fts _) xts_ok env11_ok mixed
theorem law5 {a : A} (ha : LoopsA a) : PureCall Try.prog 5 [a] (.bool true) := by
  obtain ⟨n, gn, cn, qn, jn, r, g, c, q, j, hs, rfl⟩ := ha
  have h : autoLp cfg11 (fun _ => none) Try.f5 [.agg [.ro 1 n (.flts .f32 r), .ro 1 gn (.flts .f32 g), .ro 1 cn (.flts .f32 c), .ro 1 qn (.flts .f32 q), .ro 1 jn (.flts .f32 j)]] =
    some (bif decide (szL n gn cn qn jn 1048576 < 0) then true else n.ble 1073741824 && (gn.ble 1073741824 && (cn.ble 1073741824 && true)) && (qn.ble 1073741824 && (jn.ble 1073741824 && true)) && (n.ble 1073741824 && (gn.ble 1073741824 && (cn.ble 1073741824 && true)) && (qn.ble 1073741824 && (jn.ble 1073741824 && true)) && bif !(bif bif valid n gn cn r g c then Int.ofNat qn == Int.ofNat n else false then Int.ofNat jn == Int.ofNat n else false) == bif bif valid n gn cn r g c then Int.ofNat qn == Int.ofNat n else false then Int.ofNat jn == Int.ofNat n else false then true else n.ble 1073741824 && (gn.ble 1073741824 && (cn.ble 1073741824 && true)) && (qn.ble 1073741824 && (jn.ble 1073741824 && true)) && true && (((n.ble 4611686018427387904 && bif !eqL n n r r then true else gn.ble 4611686018427387904 && bif !eqL gn gn g g then true else cn.ble 4611686018427387904 && bif !eqL cn cn c c then true else true) && bif !bif !eqL n n r r then false else bif !eqL gn gn g g then false else bif !eqL cn cn c c then false else true then true else qn.ble 4611686018427387904 && bif !eqL qn qn q q then true else jn.ble 4611686018427387904 && bif !eqL jn jn j j then true else true) && bif !bif !bif !eqL n n r r then false else bif !eqL gn gn g g then false else bif !eqL cn cn c c then false else true then false else bif !eqL qn qn q q then false else bif !eqL jn jn j j then false else true then true else true)), A.bool (bif decide (szL n gn cn qn jn 1048576 < 0) then true else bif !(bif bif valid n gn cn r g c then Int.ofNat qn == Int.ofNat n else false then Int.ofNat jn == Int.ofNat n else false) == bif bif valid n gn cn r g c then Int.ofNat qn == Int.ofNat n else false then Int.ofNat jn == Int.ofNat n else false then false else bif !bif !bif !eqL n n r r then false else bif !eqL gn gn g g then false else bif !eqL cn cn c c then false else true then false else bif !eqL qn qn q q then false else bif !eqL jn jn j j then false else true then false else true)) := by kernel_rfl
  have key := (auto_at cfg11_ok Try.func5 (by kernel_rfl) (by kernel_rfl)).2 _ _ _ h
  rcases szL_le (left := 1048576) (by omega) (by omega) hs.1 hs.2.1 hs.2.2.1 hs.2.2.2.1 hs.2.2.2.2 with e | ⟨e0, e⟩
  · rw [e] at key; exact key rfl
  · rw [decide_eq_false (p := szL n gn cn qn jn 1048576 < 0) (by omega)] at key
    simp only [eqL_self, beq_self_eq_true, Bool.not_true, cond_false, Bool.and_true, ble_of (show n ≤ 1073741824 by omega), ble_of (show gn ≤ 1073741824 by omega), ble_of (show cn ≤ 1073741824 by omega), ble_of (show qn ≤ 1073741824 by omega), ble_of (show jn ≤ 1073741824 by omega),
      ble_of (show n ≤ 4611686018427387904 by omega), ble_of (show gn ≤ 4611686018427387904 by omega), ble_of (show cn ≤ 4611686018427387904 by omega), ble_of (show qn ≤ 4611686018427387904 by omega), ble_of (show jn ≤ 4611686018427387904 by omega)] at key
    exact key trivial
end Go.Fw.C1

/-
  The energy of loops.
-/
namespace Go.Fw.C1
open Go.Proofs

/-- A pair's energy. -/
def eT (n : Nat) (c j : Nat → Nat) (i k : Nat) : Nat := fop .mul .f32 (fop .mul .f32 (fop .mul .f32 (can .f32 1056964608) (c (i * n + k))) (j i)) (j k)
def eIn (n : Nat) (c j : Nat → Nat) (i s : Nat) : Nat → Nat
  | 0 => s
  | k + 1 => fop .add .f32 (eIn n c j i s k) (eT n c j i k)
def eOut (n : Nat) (c j : Nat → Nat) (s : Nat) : Nat → Nat
  | 0 => s
  | i + 1 => eIn n c j i (eOut n c j s i) n
/-- A charge's energy. -/
def gT (g q : Nat → Nat) (k : Nat) : Nat := fop .mul .f32 (fop .mul .f32 (fop .mul .f32 (can .f32 1056964608) (g k)) (q k)) (q k)
def gSum (g q : Nat → Nat) (s : Nat) : Nat → Nat
  | 0 => s
  | k + 1 => fop .add .f32 (gSum g q s k) (gT g q k)

noncomputable def I28j (n gn cn qn jn n0 gn0 cn0 i s z : Nat) (r g c q j r0 g0 c0 : Nat → Nat) (p p2 : Int) (k : Nat) : List A := [.ptr 0 0, .ptr 128 0, .flt .f32 z, .bool false, .flt .f32 (eIn n c j i s k), .int .i64 (Int.ofNat i), .int .i64 p, .int .i64 p2, .int .i64 (Int.ofNat n), .int .i64 (Int.ofNat k)]
noncomputable def J28j (n gn cn qn jn n0 gn0 cn0 i s z : Nat) (r g c q j r0 g0 c0 : Nat → Nat) (p p2 : Int) : List O := [.var [.ro 1 n0 (.flts .f32 r0), .ro 1 gn0 (.flts .f32 g0), .ro 1 cn0 (.flts .f32 c0), .ro 1 qn (.flts .f32 q), .ro 1 jn (.flts .f32 j)], .var [.ro 1 n (.flts .f32 r), .ro 1 gn (.flts .f32 g), .ro 1 cn (.flts .f32 c)]]
theorem round28j (n gn cn qn jn n0 gn0 cn0 i s z : Nat) (r g c q j r0 g0 c0 : Nat → Nat) (p p2 : Int) (k : Nat) (L : XK → List A → List (Option O) → Prop) :
    ((exec cfg10 (fun _ => true) (fun _ => none) 0 1000 (loopOf Try.f28 2) (litSt Try.f28.ntmps 320 [1, 4, 2, 3, 5, 6, 16, 17, 21, 22] [0, 128] (I28j n gn cn qn jn n0 gn0 cn0 i s z r g c q j r0 g0 c0 p p2 k) (J28j n gn cn qn jn n0 gn0 cn0 i s z r g c q j r0 g0 c0 p p2))).rt [1, 4, 2, 3, 5, 6, 16, 17, 21, 22] [0, 128]).Ok L =
    bif decide (Int.ofNat k < Int.ofNat n) then
      bif decide (Int.ofNat k < Int.ofNat jn) && (decide (Int.ofNat i < Int.ofNat jn) && (decide (0 ≤ IntKind.i64.wrap (IntKind.i64.wrap (Int.ofNat i * Int.ofNat n) + Int.ofNat k)) && decide (IntKind.i64.wrap (IntKind.i64.wrap (Int.ofNat i * Int.ofNat n) + Int.ofNat k) < Int.ofNat cn) && true && true)) then
        L (XK.normal) [A.ptr 0 0, A.ptr 128 0, A.flt FloatKind.f32 z, A.bool false, A.flt FloatKind.f32 (fop BinOp.add FloatKind.f32 (eIn n c j i s k) (fop BinOp.mul FloatKind.f32 (fop BinOp.mul FloatKind.f32 (fop BinOp.mul FloatKind.f32 (can FloatKind.f32 1056964608) (c (IntKind.i64.wrap (IntKind.i64.wrap (Int.ofNat i * Int.ofNat n) + Int.ofNat k)).toNat)) (j i)) (j k))), A.int IntKind.i64 (Int.ofNat i), A.int IntKind.i64 p, A.int IntKind.i64 p2, A.int IntKind.i64 (Int.ofNat n), A.int IntKind.i64 (IntKind.i64.wrap (Int.ofNat k + Int.ofNat 1))] [some (O.var [A.ro 1 n0 (Row.flts FloatKind.f32 r0), A.ro 1 gn0 (Row.flts FloatKind.f32 g0), A.ro 1 cn0 (Row.flts FloatKind.f32 c0), A.ro 1 qn (Row.flts FloatKind.f32 q), A.ro 1 jn (Row.flts FloatKind.f32 j)]), some (O.var [A.ro 1 n (Row.flts FloatKind.f32 r), A.ro 1 gn (Row.flts FloatKind.f32 g), A.ro 1 cn (Row.flts FloatKind.f32 c)])]
      else
        False
    else
      L (XK.exit 2) [A.ptr 0 0, A.ptr 128 0, A.flt FloatKind.f32 z, A.bool false, A.flt FloatKind.f32 (eIn n c j i s k), A.int IntKind.i64 (Int.ofNat i), A.int IntKind.i64 p, A.int IntKind.i64 p2, A.int IntKind.i64 (Int.ofNat n), A.int IntKind.i64 (Int.ofNat k)] [some (O.var [A.ro 1 n0 (Row.flts FloatKind.f32 r0), A.ro 1 gn0 (Row.flts FloatKind.f32 g0), A.ro 1 cn0 (Row.flts FloatKind.f32 c0), A.ro 1 qn (Row.flts FloatKind.f32 q), A.ro 1 jn (Row.flts FloatKind.f32 j)]), some (O.var [A.ro 1 n (Row.flts FloatKind.f32 r), A.ro 1 gn (Row.flts FloatKind.f32 g), A.ro 1 cn (Row.flts FloatKind.f32 c)])] := by kernel_rfl
noncomputable def F28j : List A → List (Option O) → Option R3
  | [.ptr 0 0, .ptr 128 0, .flt .f32 z, .bool false, .flt .f32 s, .int .i64 (.ofNat i), .int .i64 p, .int .i64 p2, .int .i64 m, .int .i64 0], [some (.var [.ro 1 n0 (.flts .f32 r0), .ro 1 gn0 (.flts .f32 g0), .ro 1 cn0 (.flts .f32 c0), .ro 1 qn (.flts .f32 q), .ro 1 jn (.flts .f32 j)]), some (.var [.ro 1 n (.flts .f32 r), .ro 1 gn (.flts .f32 g), .ro 1 cn (.flts .f32 c)])] => some (.ite (decide (m = Int.ofNat n) && Nat.blt i n && Nat.ble n 6 && Nat.beq cn (n * n) && Nat.beq jn n) (.leaf .normal (I28j n gn cn qn jn n0 gn0 cn0 i s z r g c q j r0 g0 c0 p p2 (n)) (J28j n gn cn qn jn n0 gn0 cn0 i s z r g c q j r0 g0 c0 p p2)) .fail)
  | _, _ => none
theorem loop28j : CodeOK Try.prog (fun _ σ => sumAt Try.f28.ntmps 320 [1, 4, 2, 3, 5, 6, 16, 17, 21, 22] [0, 128] F28j σ) (.block 2 (.loop (loopOf Try.f28 2))) := by
  refine block_ok (own := fun _ => true) (lp := (fun _ => none)) (un := 0) (fuel := 1000) cfg10_ok (lp_none _) fun az os R hF hok => ?_
  unfold F28j at hF
  split at hF
  · rename_i z s i p p2 m n0 r0 gn0 g0 cn0 c0 qn q jn j n r gn g cn c
    injection hF with hF
    subst hF
    have hg := hok.guard
    have hg' := hg
    simp only [Bool.and_eq_true, Nat.ble_eq, Nat.beq_eq, decide_eq_true_eq] at hg'
    obtain ⟨⟨⟨⟨rfl, hi⟩, hn⟩, hcn⟩, hjn⟩ := hg'
    have hi := blt_lt' hi
    refine for_fact (fun _ => true) (n) (I28j n gn cn qn jn n0 gn0 cn0 i s z r g c q j r0 g0 c0 p p2) (fun _ => J28j n gn cn qn jn n0 gn0 cn0 i s z r g c q j r0 g0 c0 p p2) _ .ret (I28j n gn cn qn jn n0 gn0 cn0 i s z r g c q j r0 g0 c0 p p2) (I28j n gn cn qn jn n0 gn0 cn0 i s z r g c q j r0 g0 c0 p p2) (I28j n gn cn qn jn n0 gn0 cn0 i s z r g c q j r0 g0 c0 p p2 (n)) (J28j n gn cn qn jn n0 gn0 cn0 i s z r g c q j r0 g0 c0 p p2) rfl (OSims.self (J28j n gn cn qn jn n0 gn0 cn0 i s z r g c q j r0 g0 c0 p p2)) (fun _ => rfl) (fun _ => rfl) (fun _ => ALe.self _) (fun _ => rfl) (ALe.self _) (OSims.self (J28j n gn cn qn jn n0 gn0 cn0 i s z r g c q j r0 g0 c0 p p2)) rfl (fun h => by cases h) (fun k hk L h1' h2 h3 => ?_) fun L hL => ?_
    · have h1 := fun a b => h1' a b _ (OSims.self (J28j n gn cn qn jn n0 gn0 cn0 i s z r g c q j r0 g0 c0 p p2))
      rw [round28j]
      by_cases hkm : k < n
      · refine condT (lt_dec hkm) ?_
        rw [wrap_ix hi hkm hn, wrap_succ (by omega)]
        refine condT (by rw [hcn, hjn]; simp only [dec0, lt_dec hkm, lt_dec hi, lt_dec (ix_lt hi hkm hn), Bool.and_self, Bool.and_true]) ?_
        exact h1 hkm rfl
      · refine condE (ge_dec (by omega)) ?_
        obtain rfl : k = n := by omega
        exact h3 rfl
    · exact ⟨fun _ => hL.1 hg, fun N _ h => by cases h⟩
  · cases hF

noncomputable def I27j (n gn cn qn jn i s z : Nat) (r g c q j : Nat → Nat) (k : Nat) : List A := [.ptr 0 0, .flt .f32 z, .bool false, .ptr 0 0, .int .i64 (Int.ofNat n), .flt .f32 (eIn n c j i s k), .int .i64 (Int.ofNat i), .int .i64 (Int.ofNat k)]
noncomputable def J27j (n gn cn qn jn i s z : Nat) (r g c q j : Nat → Nat) : List O := [.var [.ro 1 n (.flts .f32 r), .ro 1 gn (.flts .f32 g), .ro 1 cn (.flts .f32 c), .ro 1 qn (.flts .f32 q), .ro 1 jn (.flts .f32 j)]]
theorem round27j (n gn cn qn jn i s z : Nat) (r g c q j : Nat → Nat) (k : Nat) (L : XK → List A → List (Option O) → Prop) :
    ((exec cfg10 (fun _ => true) (fun _ => none) 0 1000 (loopOf Try.f27 2) (litSt Try.f27.ntmps 304 [1, 2, 3, 4, 5, 6, 7, 8] [0] (I27j n gn cn qn jn i s z r g c q j k) (J27j n gn cn qn jn i s z r g c q j))).rt [1, 2, 3, 4, 5, 6, 7, 8] [0]).Ok L =
    bif decide (Int.ofNat k < Int.ofNat n) then
      bif decide (Int.ofNat k < Int.ofNat jn) && (decide (Int.ofNat i < Int.ofNat jn) && (decide (0 ≤ IntKind.i64.wrap (IntKind.i64.wrap (Int.ofNat i * Int.ofNat n) + Int.ofNat k)) && decide (IntKind.i64.wrap (IntKind.i64.wrap (Int.ofNat i * Int.ofNat n) + Int.ofNat k) < Int.ofNat cn) && true)) then
        L (XK.normal) [A.ptr 0 0, A.flt FloatKind.f32 z, A.bool false, A.ptr 0 0, A.int IntKind.i64 (Int.ofNat n), A.flt FloatKind.f32 (fop BinOp.add FloatKind.f32 (eIn n c j i s k) (fop BinOp.mul FloatKind.f32 (fop BinOp.mul FloatKind.f32 (fop BinOp.mul FloatKind.f32 (can FloatKind.f32 1056964608) (c (IntKind.i64.wrap (IntKind.i64.wrap (Int.ofNat i * Int.ofNat n) + Int.ofNat k)).toNat)) (j i)) (j k))), A.int IntKind.i64 (Int.ofNat i), A.int IntKind.i64 (IntKind.i64.wrap (Int.ofNat k + Int.ofNat 1))] [some (O.var [A.ro 1 n (Row.flts FloatKind.f32 r), A.ro 1 gn (Row.flts FloatKind.f32 g), A.ro 1 cn (Row.flts FloatKind.f32 c), A.ro 1 qn (Row.flts FloatKind.f32 q), A.ro 1 jn (Row.flts FloatKind.f32 j)])]
      else
        False
    else
      L (XK.exit 2) [A.ptr 0 0, A.flt FloatKind.f32 z, A.bool false, A.ptr 0 0, A.int IntKind.i64 (Int.ofNat n), A.flt FloatKind.f32 (eIn n c j i s k), A.int IntKind.i64 (Int.ofNat i), A.int IntKind.i64 (Int.ofNat k)] [some (O.var [A.ro 1 n (Row.flts FloatKind.f32 r), A.ro 1 gn (Row.flts FloatKind.f32 g), A.ro 1 cn (Row.flts FloatKind.f32 c), A.ro 1 qn (Row.flts FloatKind.f32 q), A.ro 1 jn (Row.flts FloatKind.f32 j)])] := by kernel_rfl
noncomputable def F27j : List A → List (Option O) → Option R3
  | [.ptr 0 0, .flt .f32 z, .bool false, .ptr 0 0, .int .i64 m, .flt .f32 s, .int .i64 (.ofNat i), .int .i64 0], [some (.var [.ro 1 n (.flts .f32 r), .ro 1 gn (.flts .f32 g), .ro 1 cn (.flts .f32 c), .ro 1 qn (.flts .f32 q), .ro 1 jn (.flts .f32 j)])] => some (.ite (decide (m = Int.ofNat n) && Nat.blt i n && Nat.ble n 6 && Nat.beq cn (n * n) && Nat.beq jn n) (.leaf .normal (I27j n gn cn qn jn i s z r g c q j (n)) (J27j n gn cn qn jn i s z r g c q j)) .fail)
  | _, _ => none
theorem loop27j : CodeOK Try.prog (fun _ σ => sumAt Try.f27.ntmps 304 [1, 2, 3, 4, 5, 6, 7, 8] [0] F27j σ) (.block 2 (.loop (loopOf Try.f27 2))) := by
  refine block_ok (own := fun _ => true) (lp := (fun _ => none)) (un := 0) (fuel := 1000) cfg10_ok (lp_none _) fun az os R hF hok => ?_
  unfold F27j at hF
  split at hF
  · rename_i z m s i n r gn g cn c qn q jn j
    injection hF with hF
    subst hF
    have hg := hok.guard
    have hg' := hg
    simp only [Bool.and_eq_true, Nat.ble_eq, Nat.beq_eq, decide_eq_true_eq] at hg'
    obtain ⟨⟨⟨⟨rfl, hi⟩, hn⟩, hcn⟩, hjn⟩ := hg'
    have hi := blt_lt' hi
    refine for_fact (fun _ => true) (n) (I27j n gn cn qn jn i s z r g c q j) (fun _ => J27j n gn cn qn jn i s z r g c q j) _ .ret (I27j n gn cn qn jn i s z r g c q j) (I27j n gn cn qn jn i s z r g c q j) (I27j n gn cn qn jn i s z r g c q j (n)) (J27j n gn cn qn jn i s z r g c q j) rfl (OSims.self (J27j n gn cn qn jn i s z r g c q j)) (fun _ => rfl) (fun _ => rfl) (fun _ => ALe.self _) (fun _ => rfl) (ALe.self _) (OSims.self (J27j n gn cn qn jn i s z r g c q j)) rfl (fun h => by cases h) (fun k hk L h1' h2 h3 => ?_) fun L hL => ?_
    · have h1 := fun a b => h1' a b _ (OSims.self (J27j n gn cn qn jn i s z r g c q j))
      rw [round27j]
      by_cases hkm : k < n
      · refine condT (lt_dec hkm) ?_
        rw [wrap_ix hi hkm hn, wrap_succ (by omega)]
        refine condT (by rw [hcn, hjn]; simp only [dec0, lt_dec hkm, lt_dec hi, lt_dec (ix_lt hi hkm hn), Bool.and_self, Bool.and_true]) ?_
        exact h1 hkm rfl
      · refine condE (ge_dec (by omega)) ?_
        obtain rfl : k = n := by omega
        exact h3 rfl
    · exact ⟨fun _ => hL.1 hg, fun N _ h => by cases h⟩
  · cases hF

noncomputable def lpi28i : List (Nat × (St → T)) := [(2, sumAt Try.f28.ntmps 320 [1, 4, 2, 3, 5, 6, 16, 17, 21, 22] [0, 128] F28j)]
theorem lpi28i_ok : LpOK Try.prog (look lpi28i) (loopOf Try.f28 0) := lp_in (lp_loops (by kernel_rfl) (by kernel_rfl) fun p hp => by
  simp only [lpi28i, List.mem_cons, List.not_mem_nil, or_false] at hp
  rcases hp with rfl
  · exact loop28j) _
noncomputable def I28i (n gn cn qn jn n0 gn0 cn0 s z : Nat) (r g c q j r0 g0 c0 : Nat → Nat) (k : Nat) : List A := [.ptr 0 0, .ptr 128 0, .flt .f32 z, .bool false, .flt .f32 (eOut n c j s k), .int .i64 (Int.ofNat n), .int .i64 (Int.ofNat k)]
noncomputable def J28i (n gn cn qn jn n0 gn0 cn0 s z : Nat) (r g c q j r0 g0 c0 : Nat → Nat) : List O := [.var [.ro 1 n0 (.flts .f32 r0), .ro 1 gn0 (.flts .f32 g0), .ro 1 cn0 (.flts .f32 c0), .ro 1 qn (.flts .f32 q), .ro 1 jn (.flts .f32 j)], .var [.ro 1 n (.flts .f32 r), .ro 1 gn (.flts .f32 g), .ro 1 cn (.flts .f32 c)]]
theorem round28i (n gn cn qn jn n0 gn0 cn0 s z : Nat) (r g c q j r0 g0 c0 : Nat → Nat) (k : Nat) (L : XK → List A → List (Option O) → Prop) :
    ((exec cfg10 (fun _ => true) (look lpi28i) 0 1000 (loopOf Try.f28 0) (litSt Try.f28.ntmps 224 [1, 4, 2, 3, 5, 16, 17] [0, 128] (I28i n gn cn qn jn n0 gn0 cn0 s z r g c q j r0 g0 c0 k) (J28i n gn cn qn jn n0 gn0 cn0 s z r g c q j r0 g0 c0))).rt [1, 4, 2, 3, 5, 16, 17] [0, 128]).Ok L =
    bif decide (Int.ofNat k < Int.ofNat n) then
      bif decide (Int.ofNat n = Int.ofNat n) && k.blt n && n.ble 6 && cn.beq (n * n) && jn.beq n then
        L (XK.normal) [A.ptr 0 0, A.ptr 128 0, A.flt FloatKind.f32 z, A.bool false, A.flt FloatKind.f32 (eIn n c j k (eOut n c j s k) n), A.int IntKind.i64 (Int.ofNat n), A.int IntKind.i64 (IntKind.i64.wrap (Int.ofNat k + Int.ofNat 1))] [some (O.var [A.ro 1 n0 (Row.flts FloatKind.f32 r0), A.ro 1 gn0 (Row.flts FloatKind.f32 g0), A.ro 1 cn0 (Row.flts FloatKind.f32 c0), A.ro 1 qn (Row.flts FloatKind.f32 q), A.ro 1 jn (Row.flts FloatKind.f32 j)]), some (O.var [A.ro 1 n (Row.flts FloatKind.f32 r), A.ro 1 gn (Row.flts FloatKind.f32 g), A.ro 1 cn (Row.flts FloatKind.f32 c)])]
      else
        False
    else
      L (XK.exit 0) [A.ptr 0 0, A.ptr 128 0, A.flt FloatKind.f32 z, A.bool false, A.flt FloatKind.f32 (eOut n c j s k), A.int IntKind.i64 (Int.ofNat n), A.int IntKind.i64 (Int.ofNat k)] [some (O.var [A.ro 1 n0 (Row.flts FloatKind.f32 r0), A.ro 1 gn0 (Row.flts FloatKind.f32 g0), A.ro 1 cn0 (Row.flts FloatKind.f32 c0), A.ro 1 qn (Row.flts FloatKind.f32 q), A.ro 1 jn (Row.flts FloatKind.f32 j)]), some (O.var [A.ro 1 n (Row.flts FloatKind.f32 r), A.ro 1 gn (Row.flts FloatKind.f32 g), A.ro 1 cn (Row.flts FloatKind.f32 c)])] := by kernel_rfl
noncomputable def F28i : List A → List (Option O) → Option R3
  | [.ptr 0 0, .ptr 128 0, .flt .f32 z, .bool false, .flt .f32 s, .int .i64 m, .int .i64 0], [some (.var [.ro 1 n0 (.flts .f32 r0), .ro 1 gn0 (.flts .f32 g0), .ro 1 cn0 (.flts .f32 c0), .ro 1 qn (.flts .f32 q), .ro 1 jn (.flts .f32 j)]), some (.var [.ro 1 n (.flts .f32 r), .ro 1 gn (.flts .f32 g), .ro 1 cn (.flts .f32 c)])] => some (.ite (decide (m = Int.ofNat n) && Nat.ble n 6 && Nat.beq cn (n * n) && Nat.beq jn n) (.leaf .normal (I28i n gn cn qn jn n0 gn0 cn0 s z r g c q j r0 g0 c0 (n)) (J28i n gn cn qn jn n0 gn0 cn0 s z r g c q j r0 g0 c0)) .fail)
  | _, _ => none
theorem loop28i : CodeOK Try.prog (fun _ σ => sumAt Try.f28.ntmps 224 [1, 4, 2, 3, 5, 16, 17] [0, 128] F28i σ) (.block 0 (.loop (loopOf Try.f28 0))) := by
  refine block_ok (own := fun _ => true) (lp := (look lpi28i)) (un := 0) (fuel := 1000) cfg10_ok lpi28i_ok fun az os R hF hok => ?_
  unfold F28i at hF
  split at hF
  · rename_i z s m n0 r0 gn0 g0 cn0 c0 qn q jn j n r gn g cn c
    injection hF with hF
    subst hF
    have hg := hok.guard
    have hg' := hg
    simp only [Bool.and_eq_true, Nat.ble_eq, Nat.beq_eq, decide_eq_true_eq] at hg'
    obtain ⟨⟨⟨rfl, hn⟩, hcn⟩, hjn⟩ := hg'
    refine for_fact (fun _ => true) (n) (I28i n gn cn qn jn n0 gn0 cn0 s z r g c q j r0 g0 c0) (fun _ => J28i n gn cn qn jn n0 gn0 cn0 s z r g c q j r0 g0 c0) _ .ret (I28i n gn cn qn jn n0 gn0 cn0 s z r g c q j r0 g0 c0) (I28i n gn cn qn jn n0 gn0 cn0 s z r g c q j r0 g0 c0) (I28i n gn cn qn jn n0 gn0 cn0 s z r g c q j r0 g0 c0 (n)) (J28i n gn cn qn jn n0 gn0 cn0 s z r g c q j r0 g0 c0) rfl (OSims.self (J28i n gn cn qn jn n0 gn0 cn0 s z r g c q j r0 g0 c0)) (fun _ => rfl) (fun _ => rfl) (fun _ => ALe.self _) (fun _ => rfl) (ALe.self _) (OSims.self (J28i n gn cn qn jn n0 gn0 cn0 s z r g c q j r0 g0 c0)) rfl (fun h => by cases h) (fun k hk L h1' h2 h3 => ?_) fun L hL => ?_
    · have h1 := fun a b => h1' a b _ (OSims.self (J28i n gn cn qn jn n0 gn0 cn0 s z r g c q j r0 g0 c0))
      rw [round28i]
      by_cases hkm : k < n
      · refine condT (lt_dec hkm) ?_
        rw [wrap_succ (by omega)]
        refine condT (by simp only [hcn, hjn, Nat.beq_refl, Nat.ble_eq_true_of_le hn, lt_blt hkm, decide_true, Bool.and_self]) ?_
        exact h1 hkm rfl
      · refine condE (ge_dec (by omega)) ?_
        obtain rfl : k = n := by omega
        exact h3 rfl
    · exact ⟨fun _ => hL.1 hg, fun N _ h => by cases h⟩
  · cases hF

noncomputable def lpi27i : List (Nat × (St → T)) := [(2, sumAt Try.f27.ntmps 304 [1, 2, 3, 4, 5, 6, 7, 8] [0] F27j)]
theorem lpi27i_ok : LpOK Try.prog (look lpi27i) (loopOf Try.f27 0) := lp_in (lp_loops (by kernel_rfl) (by kernel_rfl) fun p hp => by
  simp only [lpi27i, List.mem_cons, List.not_mem_nil, or_false] at hp
  rcases hp with rfl
  · exact loop27j) _
noncomputable def I27i (n gn cn qn jn s z : Nat) (r g c q j : Nat → Nat) (k : Nat) : List A := [.ptr 0 0, .flt .f32 z, .bool false, .ptr 0 0, .int .i64 (Int.ofNat n), .flt .f32 (eOut n c j s k), .int .i64 (Int.ofNat k)]
noncomputable def J27i (n gn cn qn jn s z : Nat) (r g c q j : Nat → Nat) : List O := [.var [.ro 1 n (.flts .f32 r), .ro 1 gn (.flts .f32 g), .ro 1 cn (.flts .f32 c), .ro 1 qn (.flts .f32 q), .ro 1 jn (.flts .f32 j)]]
theorem round27i (n gn cn qn jn s z : Nat) (r g c q j : Nat → Nat) (k : Nat) (L : XK → List A → List (Option O) → Prop) :
    ((exec cfg10 (fun _ => true) (look lpi27i) 0 1000 (loopOf Try.f27 0) (litSt Try.f27.ntmps 240 [1, 2, 3, 4, 5, 6, 7] [0] (I27i n gn cn qn jn s z r g c q j k) (J27i n gn cn qn jn s z r g c q j))).rt [1, 2, 3, 4, 5, 6, 7] [0]).Ok L =
    bif decide (Int.ofNat k < Int.ofNat n) then
      bif decide (Int.ofNat n = Int.ofNat n) && k.blt n && n.ble 6 && cn.beq (n * n) && jn.beq n then
        L (XK.normal) [A.ptr 0 0, A.flt FloatKind.f32 z, A.bool false, A.ptr 0 0, A.int IntKind.i64 (Int.ofNat n), A.flt FloatKind.f32 (eIn n c j k (eOut n c j s k) n), A.int IntKind.i64 (IntKind.i64.wrap (Int.ofNat k + Int.ofNat 1))] [some (O.var [A.ro 1 n (Row.flts FloatKind.f32 r), A.ro 1 gn (Row.flts FloatKind.f32 g), A.ro 1 cn (Row.flts FloatKind.f32 c), A.ro 1 qn (Row.flts FloatKind.f32 q), A.ro 1 jn (Row.flts FloatKind.f32 j)])]
      else
        False
    else
      L (XK.exit 0) [A.ptr 0 0, A.flt FloatKind.f32 z, A.bool false, A.ptr 0 0, A.int IntKind.i64 (Int.ofNat n), A.flt FloatKind.f32 (eOut n c j s k), A.int IntKind.i64 (Int.ofNat k)] [some (O.var [A.ro 1 n (Row.flts FloatKind.f32 r), A.ro 1 gn (Row.flts FloatKind.f32 g), A.ro 1 cn (Row.flts FloatKind.f32 c), A.ro 1 qn (Row.flts FloatKind.f32 q), A.ro 1 jn (Row.flts FloatKind.f32 j)])] := by kernel_rfl
noncomputable def F27i : List A → List (Option O) → Option R3
  | [.ptr 0 0, .flt .f32 z, .bool false, .ptr 0 0, .int .i64 m, .flt .f32 s, .int .i64 0], [some (.var [.ro 1 n (.flts .f32 r), .ro 1 gn (.flts .f32 g), .ro 1 cn (.flts .f32 c), .ro 1 qn (.flts .f32 q), .ro 1 jn (.flts .f32 j)])] => some (.ite (decide (m = Int.ofNat n) && Nat.ble n 6 && Nat.beq cn (n * n) && Nat.beq jn n) (.leaf .normal (I27i n gn cn qn jn s z r g c q j (n)) (J27i n gn cn qn jn s z r g c q j)) .fail)
  | _, _ => none
theorem loop27i : CodeOK Try.prog (fun _ σ => sumAt Try.f27.ntmps 240 [1, 2, 3, 4, 5, 6, 7] [0] F27i σ) (.block 0 (.loop (loopOf Try.f27 0))) := by
  refine block_ok (own := fun _ => true) (lp := (look lpi27i)) (un := 0) (fuel := 1000) cfg10_ok lpi27i_ok fun az os R hF hok => ?_
  unfold F27i at hF
  split at hF
  · rename_i z m s n r gn g cn c qn q jn j
    injection hF with hF
    subst hF
    have hg := hok.guard
    have hg' := hg
    simp only [Bool.and_eq_true, Nat.ble_eq, Nat.beq_eq, decide_eq_true_eq] at hg'
    obtain ⟨⟨⟨rfl, hn⟩, hcn⟩, hjn⟩ := hg'
    refine for_fact (fun _ => true) (n) (I27i n gn cn qn jn s z r g c q j) (fun _ => J27i n gn cn qn jn s z r g c q j) _ .ret (I27i n gn cn qn jn s z r g c q j) (I27i n gn cn qn jn s z r g c q j) (I27i n gn cn qn jn s z r g c q j (n)) (J27i n gn cn qn jn s z r g c q j) rfl (OSims.self (J27i n gn cn qn jn s z r g c q j)) (fun _ => rfl) (fun _ => rfl) (fun _ => ALe.self _) (fun _ => rfl) (ALe.self _) (OSims.self (J27i n gn cn qn jn s z r g c q j)) rfl (fun h => by cases h) (fun k hk L h1' h2 h3 => ?_) fun L hL => ?_
    · have h1 := fun a b => h1' a b _ (OSims.self (J27i n gn cn qn jn s z r g c q j))
      rw [round27i]
      by_cases hkm : k < n
      · refine condT (lt_dec hkm) ?_
        rw [wrap_succ (by omega)]
        refine condT (by simp only [hcn, hjn, Nat.beq_refl, Nat.ble_eq_true_of_le hn, lt_blt hkm, decide_true, Bool.and_self]) ?_
        exact h1 hkm rfl
      · refine condE (ge_dec (by omega)) ?_
        obtain rfl : k = n := by omega
        exact h3 rfl
    · exact ⟨fun _ => hL.1 hg, fun N _ h => by cases h⟩
  · cases hF

noncomputable def I28g (n gn cn qn s z : Nat) (r g c q : Nat → Nat) (k : Nat) : List A := [.flt .f32 z, .bool false, .ptr 128 0, .flt .f32 (gSum g q s k), .ro 1 qn (.flts .f32 q), .int .i64 (Int.ofNat qn), .int .i64 (Int.ofNat k)]
noncomputable def J28g (n gn cn qn s z : Nat) (r g c q : Nat → Nat) : List O := [.var [.ro 1 n (.flts .f32 r), .ro 1 gn (.flts .f32 g), .ro 1 cn (.flts .f32 c)]]
theorem round28g (n gn cn qn s z : Nat) (r g c q : Nat → Nat) (k : Nat) (L : XK → List A → List (Option O) → Prop) :
    ((exec cfg10 (fun _ => true) (fun _ => none) 0 1000 (loopOf Try.f28 4) (litSt Try.f28.ntmps 288 [2, 3, 4, 5, 47, 48, 49] [128] (I28g n gn cn qn s z r g c q k) (J28g n gn cn qn s z r g c q))).rt [2, 3, 4, 5, 47, 48, 49] [128]).Ok L =
    bif decide (Int.ofNat k < Int.ofNat qn) then
      bif decide (Int.ofNat k < Int.ofNat qn) then
        bif decide (Int.ofNat k < Int.ofNat gn) then
          L (XK.normal) [A.flt FloatKind.f32 z, A.bool false, A.ptr 128 0, A.flt FloatKind.f32 (fop BinOp.add FloatKind.f32 (gSum g q s k) (fop BinOp.mul FloatKind.f32 (fop BinOp.mul FloatKind.f32 (fop BinOp.mul FloatKind.f32 (can FloatKind.f32 1056964608) (g k)) (q k)) (q k))), A.ro 1 qn (Row.flts FloatKind.f32 q), A.int IntKind.i64 (Int.ofNat qn), A.int IntKind.i64 (IntKind.i64.wrap (Int.ofNat k + Int.ofNat 1))] [some (O.var [A.ro 1 n (Row.flts FloatKind.f32 r), A.ro 1 gn (Row.flts FloatKind.f32 g), A.ro 1 cn (Row.flts FloatKind.f32 c)])]
        else
          False
      else
        False
    else
      L (XK.exit 4) [A.flt FloatKind.f32 z, A.bool false, A.ptr 128 0, A.flt FloatKind.f32 (gSum g q s k), A.ro 1 qn (Row.flts FloatKind.f32 q), A.int IntKind.i64 (Int.ofNat qn), A.int IntKind.i64 (Int.ofNat k)] [some (O.var [A.ro 1 n (Row.flts FloatKind.f32 r), A.ro 1 gn (Row.flts FloatKind.f32 g), A.ro 1 cn (Row.flts FloatKind.f32 c)])] := by kernel_rfl
noncomputable def F28g : List A → List (Option O) → Option R3
  | [.flt .f32 z, .bool false, .ptr 128 0, .flt .f32 s, .ro 1 qn (.flts .f32 q), .int .i64 m, .int .i64 0], [some (.var [.ro 1 n (.flts .f32 r), .ro 1 gn (.flts .f32 g), .ro 1 cn (.flts .f32 c)])] => some (.ite (decide (m = Int.ofNat qn) && Nat.ble qn 6 && Nat.beq gn qn) (.leaf .normal (I28g n gn cn qn s z r g c q (qn)) (J28g n gn cn qn s z r g c q)) .fail)
  | _, _ => none
theorem loop28g : CodeOK Try.prog (fun _ σ => sumAt Try.f28.ntmps 288 [2, 3, 4, 5, 47, 48, 49] [128] F28g σ) (.block 4 (.loop (loopOf Try.f28 4))) := by
  refine block_ok (own := fun _ => true) (lp := (fun _ => none)) (un := 0) (fuel := 1000) cfg10_ok (lp_none _) fun az os R hF hok => ?_
  unfold F28g at hF
  split at hF
  · rename_i z s qn q m n r gn g cn c
    injection hF with hF
    subst hF
    have hg := hok.guard
    have hg' := hg
    simp only [Bool.and_eq_true, Nat.ble_eq, Nat.beq_eq, decide_eq_true_eq] at hg'
    obtain ⟨⟨rfl, hn⟩, hgn⟩ := hg'
    refine for_fact (fun _ => true) (qn) (I28g n gn cn qn s z r g c q) (fun _ => J28g n gn cn qn s z r g c q) _ .ret (I28g n gn cn qn s z r g c q) (I28g n gn cn qn s z r g c q) (I28g n gn cn qn s z r g c q (qn)) (J28g n gn cn qn s z r g c q) rfl (OSims.self (J28g n gn cn qn s z r g c q)) (fun _ => rfl) (fun _ => rfl) (fun _ => ALe.self _) (fun _ => rfl) (ALe.self _) (OSims.self (J28g n gn cn qn s z r g c q)) rfl (fun h => by cases h) (fun k hk L h1' h2 h3 => ?_) fun L hL => ?_
    · have h1 := fun a b => h1' a b _ (OSims.self (J28g n gn cn qn s z r g c q))
      rw [round28g]
      by_cases hkm : k < qn
      · refine condT (lt_dec hkm) ?_
        rw [wrap_succ (by omega)]
        refine condT (by simp only [lt_dec hkm, Bool.and_self, Bool.and_true]) ?_
        refine condT (by rw [hgn]; simp only [lt_dec hkm, Bool.and_self, Bool.and_true]) ?_
        exact h1 hkm rfl
      · refine condE (ge_dec (by omega)) ?_
        obtain rfl : k = qn := by omega
        exact h3 rfl
    · exact ⟨fun _ => hL.1 hg, fun N _ h => by cases h⟩
  · cases hF

noncomputable def I27g (n gn cn qn jn s z : Nat) (r g c q j : Nat → Nat) (k : Nat) : List A := [.ptr 0 0, .flt .f32 z, .bool false, .ptr 0 0, .int .i64 (Int.ofNat n), .flt .f32 (gSum g q s k), .int .i64 (Int.ofNat k)]
noncomputable def J27g (n gn cn qn jn s z : Nat) (r g c q j : Nat → Nat) : List O := [.var [.ro 1 n (.flts .f32 r), .ro 1 gn (.flts .f32 g), .ro 1 cn (.flts .f32 c), .ro 1 qn (.flts .f32 q), .ro 1 jn (.flts .f32 j)]]
theorem round27g (n gn cn qn jn s z : Nat) (r g c q j : Nat → Nat) (k : Nat) (L : XK → List A → List (Option O) → Prop) :
    ((exec cfg10 (fun _ => true) (fun _ => none) 0 1000 (loopOf Try.f27 4) (litSt Try.f27.ntmps 256 [1, 2, 3, 4, 5, 6, 9] [0] (I27g n gn cn qn jn s z r g c q j k) (J27g n gn cn qn jn s z r g c q j))).rt [1, 2, 3, 4, 5, 6, 9] [0]).Ok L =
    bif decide (Int.ofNat k < Int.ofNat n) then
      bif decide (Int.ofNat k < Int.ofNat qn) && (decide (Int.ofNat k < Int.ofNat qn) && (decide (Int.ofNat k < Int.ofNat gn) && true)) then
        L (XK.normal) [A.ptr 0 0, A.flt FloatKind.f32 z, A.bool false, A.ptr 0 0, A.int IntKind.i64 (Int.ofNat n), A.flt FloatKind.f32 (fop BinOp.add FloatKind.f32 (gSum g q s k) (fop BinOp.mul FloatKind.f32 (fop BinOp.mul FloatKind.f32 (fop BinOp.mul FloatKind.f32 (can FloatKind.f32 1056964608) (g k)) (q k)) (q k))), A.int IntKind.i64 (IntKind.i64.wrap (Int.ofNat k + Int.ofNat 1))] [some (O.var [A.ro 1 n (Row.flts FloatKind.f32 r), A.ro 1 gn (Row.flts FloatKind.f32 g), A.ro 1 cn (Row.flts FloatKind.f32 c), A.ro 1 qn (Row.flts FloatKind.f32 q), A.ro 1 jn (Row.flts FloatKind.f32 j)])]
      else
        False
    else
      L (XK.exit 4) [A.ptr 0 0, A.flt FloatKind.f32 z, A.bool false, A.ptr 0 0, A.int IntKind.i64 (Int.ofNat n), A.flt FloatKind.f32 (gSum g q s k), A.int IntKind.i64 (Int.ofNat k)] [some (O.var [A.ro 1 n (Row.flts FloatKind.f32 r), A.ro 1 gn (Row.flts FloatKind.f32 g), A.ro 1 cn (Row.flts FloatKind.f32 c), A.ro 1 qn (Row.flts FloatKind.f32 q), A.ro 1 jn (Row.flts FloatKind.f32 j)])] := by kernel_rfl
noncomputable def F27g : List A → List (Option O) → Option R3
  | [.ptr 0 0, .flt .f32 z, .bool false, .ptr 0 0, .int .i64 m, .flt .f32 s, .int .i64 0], [some (.var [.ro 1 n (.flts .f32 r), .ro 1 gn (.flts .f32 g), .ro 1 cn (.flts .f32 c), .ro 1 qn (.flts .f32 q), .ro 1 jn (.flts .f32 j)])] => some (.ite (decide (m = Int.ofNat n) && Nat.ble n 6 && Nat.beq gn n && Nat.beq qn n) (.leaf .normal (I27g n gn cn qn jn s z r g c q j (n)) (J27g n gn cn qn jn s z r g c q j)) .fail)
  | _, _ => none
theorem loop27g : CodeOK Try.prog (fun _ σ => sumAt Try.f27.ntmps 256 [1, 2, 3, 4, 5, 6, 9] [0] F27g σ) (.block 4 (.loop (loopOf Try.f27 4))) := by
  refine block_ok (own := fun _ => true) (lp := (fun _ => none)) (un := 0) (fuel := 1000) cfg10_ok (lp_none _) fun az os R hF hok => ?_
  unfold F27g at hF
  split at hF
  · rename_i z m s n r gn g cn c qn q jn j
    injection hF with hF
    subst hF
    have hg := hok.guard
    have hg' := hg
    simp only [Bool.and_eq_true, Nat.ble_eq, Nat.beq_eq, decide_eq_true_eq] at hg'
    obtain ⟨⟨⟨rfl, hn⟩, hgn⟩, hqn⟩ := hg'
    refine for_fact (fun _ => true) (n) (I27g n gn cn qn jn s z r g c q j) (fun _ => J27g n gn cn qn jn s z r g c q j) _ .ret (I27g n gn cn qn jn s z r g c q j) (I27g n gn cn qn jn s z r g c q j) (I27g n gn cn qn jn s z r g c q j (n)) (J27g n gn cn qn jn s z r g c q j) rfl (OSims.self (J27g n gn cn qn jn s z r g c q j)) (fun _ => rfl) (fun _ => rfl) (fun _ => ALe.self _) (fun _ => rfl) (ALe.self _) (OSims.self (J27g n gn cn qn jn s z r g c q j)) rfl (fun h => by cases h) (fun k hk L h1' h2 h3 => ?_) fun L hL => ?_
    · have h1 := fun a b => h1' a b _ (OSims.self (J27g n gn cn qn jn s z r g c q j))
      rw [round27g]
      by_cases hkm : k < n
      · refine condT (lt_dec hkm) ?_
        rw [wrap_succ (by omega)]
        refine condT (by rw [hgn, hqn]; simp only [lt_dec hkm, Bool.and_self, Bool.and_true]) ?_
        exact h1 hkm rfl
      · refine condE (ge_dec (by omega)) ?_
        obtain rfl : k = n := by omega
        exact h3 rfl
    · exact ⟨fun _ => hL.1 hg, fun N _ h => by cases h⟩
  · cases hF

/-- The energy of loops. -/
noncomputable def energy (n : Nat) (g c q j : Nat → Nat) : Nat := gSum g q (eOut n c j (can .f32 0) n) n
noncomputable def loopsOk (n gn cn qn jn : Nat) (r g c : Nat → Nat) : Bool := bif bif valid n gn cn r g c then Int.ofNat qn == Int.ofNat n else false then Int.ofNat jn == Int.ofNat n else false
theorem loopsOk_spec {n gn cn qn jn : Nat} {r g c : Nat → Nat} (h : loopsOk n gn cn qn jn r g c = true) : n ≤ 6 ∧ 1 ≤ n ∧ gn = n ∧ cn = n * n ∧ qn = n ∧ jn = n := by
  unfold loopsOk at h
  cases hv : valid n gn cn r g c
  · rw [hv] at h; cases h
  · rw [hv] at h
    unfold valid at hv
    simp only [Bool.and_eq_true, sizes, decide_eq_true_eq] at hv
    by_cases h1 : Int.ofNat qn == Int.ofNat n
    · rw [h1] at h
      have h2 : Int.ofNat qn = Int.ofNat n := eq_of_beq h1
      have h3 : Int.ofNat jn = Int.ofNat n := eq_of_beq h
      injection h2 with h2
      injection h3 with h3
      exact ⟨hv.1.2.1, hv.1.1, hv.1.2.2.1, hv.1.2.2.2, h2, h3⟩
    · simp only [Bool.not_eq_true] at h1
      rw [h1] at h
      cases h
noncomputable def lp28 : List (Nat × (St → T)) := [(0, sumAt Try.f28.ntmps 224 [1, 4, 2, 3, 5, 16, 17] [0, 128] F28i), (4, sumAt Try.f28.ntmps 288 [2, 3, 4, 5, 47, 48, 49] [128] F28g)]
theorem lp28_ok : LpOK Try.prog (look lp28) (bodyOf Try.f28) := lp_loops (by kernel_rfl) (by kernel_rfl) fun p hp => by
  simp only [lp28, List.mem_cons, List.not_mem_nil, or_false] at hp
  rcases hp with rfl | rfl
  · exact loop28i
  · exact loop28g
theorem auto28 (n gn cn qn jn : Nat) (r g c q j : Nat → Nat) : autoLp cfg10 (look lp28) Try.f28 [.agg [.ro 1 n (.flts .f32 r), .ro 1 gn (.flts .f32 g), .ro 1 cn (.flts .f32 c), .ro 1 qn (.flts .f32 q), .ro 1 jn (.flts .f32 j)]] =
    some (bif !bif bif valid n gn cn r g c then Int.ofNat qn == Int.ofNat n else false then Int.ofNat jn == Int.ofNat n else false then true else decide (Int.ofNat n = Int.ofNat n) && n.ble 6 && cn.beq (n * n) && jn.beq n && (decide (Int.ofNat qn = Int.ofNat qn) && qn.ble 6 && gn.beq qn && true), A.tup [A.flt FloatKind.f32 (bif !bif bif valid n gn cn r g c then Int.ofNat qn == Int.ofNat n else false then Int.ofNat jn == Int.ofNat n else false then can FloatKind.f32 0 else gSum g q (eOut n c j (can FloatKind.f32 0) n) qn), A.bool (bif !bif bif valid n gn cn r g c then Int.ofNat qn == Int.ofNat n else false then Int.ofNat jn == Int.ofNat n else false then false else true)]) := by kernel_rfl
noncomputable def s28 : List A → Option (Bool × A)
  | [.agg [.ro 1 n (.flts .f32 r), .ro 1 gn (.flts .f32 g), .ro 1 cn (.flts .f32 c), .ro 1 qn (.flts .f32 q), .ro 1 jn (.flts .f32 j)]] => some (true, .tup [.flt .f32 (bif loopsOk n gn cn qn jn r g c then energy n g c q j else can .f32 0), .bool (loopsOk n gn cn qn jn r g c)])
  | _ => none
theorem s28_at : EnvAt Try.prog 28 s28 := of_auto cfg10_ok lp28_ok Try.func28 (by kernel_rfl) (by kernel_rfl) fun ds cc rr h hc => by
  unfold s28 at h
  split at h
  · rename_i n r gn g cn c qn q jn j
    simp only [Option.some.injEq, Prod.mk.injEq] at h
    obtain ⟨rfl, rfl⟩ := h
    refine auto_fit (auto28 n gn cn qn jn r g c q j) ?_ ?_
    · show A.tup [A.flt .f32 (bif !loopsOk n gn cn qn jn r g c then _ else _), A.bool (bif !loopsOk n gn cn qn jn r g c then false else true)] = _
      cases hl : loopsOk n gn cn qn jn r g c
      · rfl
      · obtain ⟨h1, h2, h3, h4, h5, h6⟩ := loopsOk_spec hl
        simp only [energy, h5, Bool.not_true, cond_false, cond_true]
    · show (bif !loopsOk n gn cn qn jn r g c then true else _) = true
      cases hl : loopsOk n gn cn qn jn r g c
      · rfl
      · obtain ⟨h1, h2, h3, h4, h5, h6⟩ := loopsOk_spec hl
        simp [h1, h3, h4, h5, h6]
  · cases h

noncomputable def lp27 : List (Nat × (St → T)) := [(0, sumAt Try.f27.ntmps 240 [1, 2, 3, 4, 5, 6, 7] [0] F27i), (4, sumAt Try.f27.ntmps 256 [1, 2, 3, 4, 5, 6, 9] [0] F27g)]
theorem lp27_ok : LpOK Try.prog (look lp27) (bodyOf Try.f27) := lp_loops (by kernel_rfl) (by kernel_rfl) fun p hp => by
  simp only [lp27, List.mem_cons, List.not_mem_nil, or_false] at hp
  rcases hp with rfl | rfl
  · exact loop27i
  · exact loop27g
theorem auto27 (n gn cn qn jn : Nat) (r g c q j : Nat → Nat) : autoLp cfg10 (look lp27) Try.f27 [.agg [.ro 1 n (.flts .f32 r), .ro 1 gn (.flts .f32 g), .ro 1 cn (.flts .f32 c), .ro 1 qn (.flts .f32 q), .ro 1 jn (.flts .f32 j)]] =
    some (bif !bif bif valid n gn cn r g c then Int.ofNat qn == Int.ofNat n else false then Int.ofNat jn == Int.ofNat n else false then true else decide (Int.ofNat n = Int.ofNat n) && n.ble 6 && cn.beq (n * n) && jn.beq n && (decide (Int.ofNat n = Int.ofNat n) && n.ble 6 && gn.beq n && qn.beq n && true), A.tup [A.flt FloatKind.f32 (bif !bif bif valid n gn cn r g c then Int.ofNat qn == Int.ofNat n else false then Int.ofNat jn == Int.ofNat n else false then can FloatKind.f32 0 else gSum g q (eOut n c j (can FloatKind.f32 0) n) n), A.bool (bif !bif bif valid n gn cn r g c then Int.ofNat qn == Int.ofNat n else false then Int.ofNat jn == Int.ofNat n else false then false else true)]) := by kernel_rfl
noncomputable def s27 : List A → Option (Bool × A)
  | [.agg [.ro 1 n (.flts .f32 r), .ro 1 gn (.flts .f32 g), .ro 1 cn (.flts .f32 c), .ro 1 qn (.flts .f32 q), .ro 1 jn (.flts .f32 j)]] => some (true, .tup [.flt .f32 (bif loopsOk n gn cn qn jn r g c then energy n g c q j else can .f32 0), .bool (loopsOk n gn cn qn jn r g c)])
  | _ => none
theorem s27_at : EnvAt Try.prog 27 s27 := of_auto cfg10_ok lp27_ok Try.func27 (by kernel_rfl) (by kernel_rfl) fun ds cc rr h hc => by
  unfold s27 at h
  split at h
  · rename_i n r gn g cn c qn q jn j
    simp only [Option.some.injEq, Prod.mk.injEq] at h
    obtain ⟨rfl, rfl⟩ := h
    refine auto_fit (auto27 n gn cn qn jn r g c q j) ?_ ?_
    · show A.tup [A.flt .f32 (bif !loopsOk n gn cn qn jn r g c then _ else _), A.bool (bif !loopsOk n gn cn qn jn r g c then false else true)] = _
      cases hl : loopsOk n gn cn qn jn r g c
      · rfl
      · obtain ⟨h1, h2, h3, h4, h5, h6⟩ := loopsOk_spec hl
        simp only [energy, h5, Bool.not_true, cond_false, cond_true]
    · show (bif !loopsOk n gn cn qn jn r g c then true else _) = true
      cases hl : loopsOk n gn cn qn jn r g c
      · rfl
      · obtain ⟨h1, h2, h3, h4, h5, h6⟩ := loopsOk_spec hl
        simp [h1, h3, h4, h5, h6]
  · cases h

noncomputable def env12 : List (Nat × (List A → Option (Bool × A))) := (28, s28) :: (27, s27) :: env11
theorem env12_ok : EnvOK Try.prog (look env12) := (env_cons s28_at (env_cons s27_at env11_ok))
noncomputable def cfg12 : Cfg := mkCfg tab [] xts (look env12)
theorem cfg12_ok : CfgOK Try.prog cfg12 := cfg_ok tab_eq (no_fts _) xts_ok env12_ok mixed
theorem law6 {a : A} (ha : LoopsA a) : PureCall Try.prog 6 [a] (.bool true) := by
  obtain ⟨n, gn, cn, qn, jn, r, g, c, q, j, hs, rfl⟩ := ha
  have h : autoLp cfg12 (fun _ => none) Try.f6 [.agg [.ro 1 n (.flts .f32 r), .ro 1 gn (.flts .f32 g), .ro 1 cn (.flts .f32 c), .ro 1 qn (.flts .f32 q), .ro 1 jn (.flts .f32 j)]] =
    some (bif decide (szL n gn cn qn jn 1048576 < 0) then true else n.ble 1073741824 && (gn.ble 1073741824 && (cn.ble 1073741824 && true)) && (qn.ble 1073741824 && (jn.ble 1073741824 && true)) && (n.ble 1073741824 && (gn.ble 1073741824 && (cn.ble 1073741824 && true)) && (qn.ble 1073741824 && (jn.ble 1073741824 && true)) && bif bif !sameF (fcvt FloatKind.f32 FloatKind.f64 (bif loopsOk n gn cn qn jn r g c then energy n g c q j else can FloatKind.f32 0)) (fcvt FloatKind.f32 FloatKind.f64 (bif loopsOk n gn cn qn jn r g c then energy n g c q j else can FloatKind.f32 0)) then true else !loopsOk n gn cn qn jn r g c == loopsOk n gn cn qn jn r g c then true else n.ble 1073741824 && (gn.ble 1073741824 && (cn.ble 1073741824 && true)) && (qn.ble 1073741824 && (jn.ble 1073741824 && true)) && true && (((n.ble 4611686018427387904 && bif !eqL n n r r then true else gn.ble 4611686018427387904 && bif !eqL gn gn g g then true else cn.ble 4611686018427387904 && bif !eqL cn cn c c then true else true) && bif !bif !eqL n n r r then false else bif !eqL gn gn g g then false else bif !eqL cn cn c c then false else true then true else qn.ble 4611686018427387904 && bif !eqL qn qn q q then true else jn.ble 4611686018427387904 && bif !eqL jn jn j j then true else true) && bif !bif !bif !eqL n n r r then false else bif !eqL gn gn g g then false else bif !eqL cn cn c c then false else true then false else bif !eqL qn qn q q then false else bif !eqL jn jn j j then false else true then true else true)), A.bool (bif decide (szL n gn cn qn jn 1048576 < 0) then true else bif bif !sameF (fcvt FloatKind.f32 FloatKind.f64 (bif loopsOk n gn cn qn jn r g c then energy n g c q j else can FloatKind.f32 0)) (fcvt FloatKind.f32 FloatKind.f64 (bif loopsOk n gn cn qn jn r g c then energy n g c q j else can FloatKind.f32 0)) then true else !loopsOk n gn cn qn jn r g c == loopsOk n gn cn qn jn r g c then false else bif !bif !bif !eqL n n r r then false else bif !eqL gn gn g g then false else bif !eqL cn cn c c then false else true then false else bif !eqL qn qn q q then false else bif !eqL jn jn j j then false else true then false else true)) := by kernel_rfl
  have key := (auto_at cfg12_ok Try.func6 (by kernel_rfl) (by kernel_rfl)).2 _ _ _ h
  rcases szL_le (left := 1048576) (by omega) (by omega) hs.1 hs.2.1 hs.2.2.1 hs.2.2.2.1 hs.2.2.2.2 with e | ⟨e0, e⟩
  · rw [e] at key; exact key rfl
  · rw [decide_eq_false (p := szL n gn cn qn jn 1048576 < 0) (by omega)] at key
    simp only [eqL_self, sameF_self, bne_self_eq_false, Bool.cond_self, beq_self_eq_true, Bool.not_true, cond_false, Bool.and_true, ble_of (show n ≤ 1073741824 by omega), ble_of (show gn ≤ 1073741824 by omega), ble_of (show cn ≤ 1073741824 by omega), ble_of (show qn ≤ 1073741824 by omega), ble_of (show jn ≤ 1073741824 by omega),
      ble_of (show n ≤ 4611686018427387904 by omega), ble_of (show gn ≤ 4611686018427387904 by omega), ble_of (show cn ≤ 4611686018427387904 by omega), ble_of (show qn ≤ 4611686018427387904 by omega), ble_of (show jn ≤ 4611686018427387904 by omega)] at key
    exact key trivial
end Go.Fw.C1

/-
  Couplings, resonances, qualities.
-/
namespace Go.Fw.C1
open Go.Proofs

def root32 (x : Nat) : Nat := fcvt .f64 .f32 (fsqrt (fcvt .f32 .f64 x))
noncomputable def env13 : List (Nat × (List A → Option (Bool × A))) := (93, auto cfg12 Try.f93) :: (92, auto cfg12 Try.f92) :: env12
theorem env13_ok : EnvOK Try.prog (look env13) := (env_cons (auto_at cfg12_ok Try.func93 (by kernel_rfl) (by kernel_rfl)) (env_cons (auto_at cfg12_ok Try.func92 (by kernel_rfl) (by kernel_rfl)) env12_ok))
noncomputable def cfg13 : Cfg := mkCfg tab [] xts (look env13)
theorem cfg13_ok : CfgOK Try.prog cfg13 := cfg_ok tab_eq (no_fts _) xts_ok env13_ok mixed
theorem auto74 (x : Nat) : autoLp cfg13 (fun _ => none) Try.f74 [.flt .f32 x] =
    some (fcvtOk FloatKind.f64 FloatKind.f32 (fsqrt (fcvt FloatKind.f32 FloatKind.f64 x)) && true && true, A.flt FloatKind.f32 (fcvt FloatKind.f64 FloatKind.f32 (fsqrt (fcvt FloatKind.f32 FloatKind.f64 x)))) := by kernel_rfl
noncomputable def s74 : List A → Option (Bool × A)
  | [.flt .f32 x] => some (true, .flt .f32 (root32 x))
  | _ => none
theorem s74_at : EnvAt Try.prog 74 s74 := of_auto cfg13_ok (lp_none _) Try.func74 (by kernel_rfl) (by kernel_rfl) fun ds cc rr h hc => by
  unfold s74 at h
  split at h
  · rename_i x
    simp only [Option.some.injEq, Prod.mk.injEq] at h
    obtain ⟨rfl, rfl⟩ := h
    refine auto_fit (auto74 x) ?_ ?_
    · rfl
    · simp only [sqrt_ok, Bool.and_true]
  · cases h

theorem auto75 (x : Nat) : autoLp cfg13 (fun _ => none) Try.f75 [.flt .f32 x] =
    some (fcvtOk FloatKind.f64 FloatKind.f32 (fsqrt (fcvt FloatKind.f32 FloatKind.f64 x)) && true, A.flt FloatKind.f32 (fcvt FloatKind.f64 FloatKind.f32 (fsqrt (fcvt FloatKind.f32 FloatKind.f64 x)))) := by kernel_rfl
noncomputable def s75 : List A → Option (Bool × A)
  | [.flt .f32 x] => some (true, .flt .f32 (root32 x))
  | _ => none
theorem s75_at : EnvAt Try.prog 75 s75 := of_auto cfg13_ok (lp_none _) Try.func75 (by kernel_rfl) (by kernel_rfl) fun ds cc rr h hc => by
  unfold s75 at h
  split at h
  · rename_i x
    simp only [Option.some.injEq, Prod.mk.injEq] at h
    obtain ⟨rfl, rfl⟩ := h
    refine auto_fit (auto75 x) ?_ ?_
    · rfl
    · simp only [sqrt_ok, Bool.and_true]
  · cases h

noncomputable def env14 : List (Nat × (List A → Option (Bool × A))) := (74, s74) :: (75, s75) :: (62, auto cfg13 Try.f62) :: (65, auto cfg13 Try.f65) :: env13
theorem env14_ok : EnvOK Try.prog (look env14) := (env_cons s74_at (env_cons s75_at (env_cons (auto_at cfg13_ok Try.func62 (by kernel_rfl) (by kernel_rfl)) (env_cons (auto_at cfg13_ok Try.func65 (by kernel_rfl) (by kernel_rfl)) env13_ok))))
noncomputable def cfg14 : Cfg := mkCfg tab [] xts (look env14)
theorem cfg14_ok : CfgOK Try.prog cfg14 := cfg_ok tab_eq (no_fts _) xts_ok env14_ok mixed
noncomputable def env15 : List (Nat × (List A → Option (Bool × A))) := (76, auto cfg14 Try.f76) :: (77, auto cfg14 Try.f77) :: env14
theorem env15_ok : EnvOK Try.prog (look env15) := (env_cons (auto_at cfg14_ok Try.func76 (by kernel_rfl) (by kernel_rfl)) (env_cons (auto_at cfg14_ok Try.func77 (by kernel_rfl) (by kernel_rfl)) env14_ok))
noncomputable def cfg15 : Cfg := mkCfg tab [] xts (look env15)
theorem cfg15_ok : CfgOK Try.prog cfg15 := cfg_ok tab_eq (no_fts _) xts_ok env15_ok mixed

/-- The index of a loop. -/
def inn (n : Nat) (i : Int) : Bool := bif decide (i ≥ 0) then decide (i ≤ IntKind.i64.wrap (Int.ofNat n - 1)) else false
theorem inn_spec {n : Nat} {i : Int} (hn : 1 ≤ n) (hn6 : n ≤ 6) (h : inn n i = true) : ∃ k, i = Int.ofNat k ∧ k < n := by
  unfold inn at h
  have e : IntKind.i64.wrap (Int.ofNat n - 1) = Int.ofNat (n - 1) := by
    rw [show (Int.ofNat n - 1) = Int.ofNat (n - 1) by simp; omega, wrap_nat (by omega)]
  rw [e] at h
  cases h0 : decide (i ≥ 0)
  · rw [h0] at h; cases h
  · rw [h0] at h
    have h1 := of_decide_eq_true h0
    have h2 : i ≤ Int.ofNat (n - 1) := of_decide_eq_true h
    obtain ⟨k, rfl⟩ := Int.eq_ofNat_of_zero_le h1
    refine ⟨k, rfl, ?_⟩
    simp at h2
    omega
theorem valid_sizes {n gn cn : Nat} {r g c : Nat → Nat} (h : valid n gn cn r g c = true) : 1 ≤ n ∧ n ≤ 6 ∧ gn = n ∧ cn = n * n := by
  unfold valid at h
  simp only [Bool.and_eq_true, sizes, decide_eq_true_eq] at h
  exact h.1
/-- Where the coil of i and j lies. -/
def ixI (n : Nat) (i j : Int) : Nat := (IntKind.i64.wrap (IntKind.i64.wrap (i * Int.ofNat n) + j)).toNat

noncomputable def coupNo (n gn cn : Nat) (r g c : Nat → Nat) (i j : Int) : Bool := bif bif bif !valid n gn cn r g c then true else !inn n i then true else !inn n j then true else i == j
noncomputable def coup (n : Nat) (c : Nat → Nat) (i j : Int) : Nat := fop .quo .f32 (c (ixI n i j)) (root32 (fop .mul .f32 (c (ixI n i i)) (c (ixI n j j))))
theorem coup_ok {n gn cn : Nat} {r g c : Nat → Nat} {i j : Int} (h : coupNo n gn cn r g c i j = false) : ∃ a b, i = Int.ofNat a ∧ j = Int.ofNat b ∧ a < n ∧ b < n ∧ n ≤ 6 ∧ cn = n * n := by
  unfold coupNo at h
  cases hv : valid n gn cn r g c
  · rw [hv] at h; cases h
  cases hi : inn n i
  · rw [hv, hi] at h; cases h
  cases hj : inn n j
  · rw [hv, hi, hj] at h; cases h
  obtain ⟨h1, h2, _, h4⟩ := valid_sizes hv
  obtain ⟨a, rfl, ha⟩ := inn_spec h1 h2 hi
  obtain ⟨b, rfl, hb⟩ := inn_spec h1 h2 hj
  exact ⟨a, b, rfl, rfl, ha, hb, h2, h4⟩
theorem auto41 (n gn cn : Nat) (r g c : Nat → Nat) (i j : Int) : autoLp cfg15 (fun _ => none) Try.f41 [.agg [.ro 1 n (.flts .f32 r), .ro 1 gn (.flts .f32 g), .ro 1 cn (.flts .f32 c)], .int .i64 i, .int .i64 j] =
    some (bif bif bif bif !valid n gn cn r g c then true else !bif decide (i ≥ 0) then decide (i ≤ IntKind.i64.wrap (Int.ofNat n - 1)) else false then true else !bif decide (j ≥ 0) then decide (j ≤ IntKind.i64.wrap (Int.ofNat n - 1)) else false then true else i == j then true else decide (0 ≤ IntKind.i64.wrap (IntKind.i64.wrap (j * Int.ofNat n) + j)) && decide (IntKind.i64.wrap (IntKind.i64.wrap (j * Int.ofNat n) + j) < Int.ofNat cn) && (decide (0 ≤ IntKind.i64.wrap (IntKind.i64.wrap (i * Int.ofNat n) + i)) && decide (IntKind.i64.wrap (IntKind.i64.wrap (i * Int.ofNat n) + i) < Int.ofNat cn) && (decide (0 ≤ IntKind.i64.wrap (IntKind.i64.wrap (i * Int.ofNat n) + j)) && decide (IntKind.i64.wrap (IntKind.i64.wrap (i * Int.ofNat n) + j) < Int.ofNat cn) && true)) && true, A.tup [A.flt FloatKind.f32 (bif bif bif bif !valid n gn cn r g c then true else !bif decide (i ≥ 0) then decide (i ≤ IntKind.i64.wrap (Int.ofNat n - 1)) else false then true else !bif decide (j ≥ 0) then decide (j ≤ IntKind.i64.wrap (Int.ofNat n - 1)) else false then true else i == j then can FloatKind.f32 0 else fop BinOp.quo FloatKind.f32 (c (IntKind.i64.wrap (IntKind.i64.wrap (i * Int.ofNat n) + j)).toNat) (root32 (fop BinOp.mul FloatKind.f32 (c (IntKind.i64.wrap (IntKind.i64.wrap (i * Int.ofNat n) + i)).toNat) (c (IntKind.i64.wrap (IntKind.i64.wrap (j * Int.ofNat n) + j)).toNat)))), A.bool (bif bif bif bif !valid n gn cn r g c then true else !bif decide (i ≥ 0) then decide (i ≤ IntKind.i64.wrap (Int.ofNat n - 1)) else false then true else !bif decide (j ≥ 0) then decide (j ≤ IntKind.i64.wrap (Int.ofNat n - 1)) else false then true else i == j then false else true)]) := by kernel_rfl
noncomputable def s41 : List A → Option (Bool × A)
  | [.agg [.ro 1 n (.flts .f32 r), .ro 1 gn (.flts .f32 g), .ro 1 cn (.flts .f32 c)], .int .i64 i, .int .i64 j] => some (true, .tup [.flt .f32 (bif coupNo n gn cn r g c i j then can .f32 0 else coup n c i j), .bool (bif coupNo n gn cn r g c i j then false else true)])
  | _ => none
theorem s41_at : EnvAt Try.prog 41 s41 := of_auto cfg15_ok (lp_none _) Try.func41 (by kernel_rfl) (by kernel_rfl) fun ds cc rr h hc => by
  unfold s41 at h
  split at h
  · rename_i n r gn g cn c i j
    simp only [Option.some.injEq, Prod.mk.injEq] at h
    obtain ⟨rfl, rfl⟩ := h
    refine auto_fit (auto41 n gn cn r g c i j) ?_ ?_
    · rfl
    · show (bif coupNo n gn cn r g c i j then true else _) = true
      cases h : coupNo n gn cn r g c i j
      · obtain ⟨a, b, rfl, rfl, ha, hb, hn, hcn⟩ := coup_ok h
        simp only [wrap_ix ha ha hn, wrap_ix hb hb hn, wrap_ix ha hb hn, dec0, hcn, lt_dec (ix_lt ha ha hn), lt_dec (ix_lt hb hb hn), lt_dec (ix_lt ha hb hn), Bool.and_self, cond_false]
      · rfl
  · cases h

theorem auto42 (n gn cn : Nat) (r g c : Nat → Nat) (i j : Int) : autoLp cfg15 (fun _ => none) Try.f42 [.agg [.ro 1 n (.flts .f32 r), .ro 1 gn (.flts .f32 g), .ro 1 cn (.flts .f32 c)], .int .i64 i, .int .i64 j] =
    some (bif bif bif !bif valid n gn cn r g c then bif decide (i ≥ 0) then decide (i ≤ IntKind.i64.wrap (Int.ofNat n - 1)) else false else false then true else !bif valid n gn cn r g c then bif decide (j ≥ 0) then decide (j ≤ IntKind.i64.wrap (Int.ofNat n - 1)) else false else false then true else i == j then true else decide (0 ≤ IntKind.i64.wrap (IntKind.i64.wrap (i * Int.ofNat n) + i)) && decide (IntKind.i64.wrap (IntKind.i64.wrap (i * Int.ofNat n) + i) < Int.ofNat cn) && true && (decide (0 ≤ IntKind.i64.wrap (IntKind.i64.wrap (i * Int.ofNat n) + j)) && decide (IntKind.i64.wrap (IntKind.i64.wrap (i * Int.ofNat n) + j) < Int.ofNat cn) && true && true) && (decide (0 ≤ IntKind.i64.wrap (IntKind.i64.wrap (j * Int.ofNat n) + j)) && decide (IntKind.i64.wrap (IntKind.i64.wrap (j * Int.ofNat n) + j) < Int.ofNat cn) && true && true), A.tup [A.flt FloatKind.f32 (bif bif bif !bif valid n gn cn r g c then bif decide (i ≥ 0) then decide (i ≤ IntKind.i64.wrap (Int.ofNat n - 1)) else false else false then true else !bif valid n gn cn r g c then bif decide (j ≥ 0) then decide (j ≤ IntKind.i64.wrap (Int.ofNat n - 1)) else false else false then true else i == j then can FloatKind.f32 0 else fop BinOp.quo FloatKind.f32 (c (IntKind.i64.wrap (IntKind.i64.wrap (i * Int.ofNat n) + j)).toNat) (root32 (fop BinOp.mul FloatKind.f32 (c (IntKind.i64.wrap (IntKind.i64.wrap (i * Int.ofNat n) + i)).toNat) (c (IntKind.i64.wrap (IntKind.i64.wrap (j * Int.ofNat n) + j)).toNat)))), A.bool (bif bif bif !bif valid n gn cn r g c then bif decide (i ≥ 0) then decide (i ≤ IntKind.i64.wrap (Int.ofNat n - 1)) else false else false then true else !bif valid n gn cn r g c then bif decide (j ≥ 0) then decide (j ≤ IntKind.i64.wrap (Int.ofNat n - 1)) else false else false then true else i == j then false else true)]) := by kernel_rfl
noncomputable def s42 : List A → Option (Bool × A)
  | [.agg [.ro 1 n (.flts .f32 r), .ro 1 gn (.flts .f32 g), .ro 1 cn (.flts .f32 c)], .int .i64 i, .int .i64 j] => some (true, .tup [.flt .f32 (bif coupNo n gn cn r g c i j then can .f32 0 else coup n c i j), .bool (bif coupNo n gn cn r g c i j then false else true)])
  | _ => none
theorem s42_at : EnvAt Try.prog 42 s42 := of_auto cfg15_ok (lp_none _) Try.func42 (by kernel_rfl) (by kernel_rfl) fun ds cc rr h hc => by
  unfold s42 at h
  split at h
  · rename_i n r gn g cn c i j
    simp only [Option.some.injEq, Prod.mk.injEq] at h
    obtain ⟨rfl, rfl⟩ := h
    refine auto_fit (auto42 n gn cn r g c i j) ?_ ?_
    · show A.tup [A.flt .f32 (bif bif bif !bif valid n gn cn r g c then inn n i else false then true else !bif valid n gn cn r g c then inn n j else false then true else i == j then _ else _), A.bool (bif bif bif !bif valid n gn cn r g c then inn n i else false then true else !bif valid n gn cn r g c then inn n j else false then true else i == j then _ else _)] = _
      unfold coupNo
      cases valid n gn cn r g c <;> cases inn n i <;> cases inn n j <;> rfl
    · show (bif bif bif !bif valid n gn cn r g c then inn n i else false then true else !bif valid n gn cn r g c then inn n j else false then true else i == j then true else _) = true
      have e : (bif bif !bif valid n gn cn r g c then inn n i else false then true else !bif valid n gn cn r g c then inn n j else false then true else i == j) = coupNo n gn cn r g c i j := by
        unfold coupNo
        cases valid n gn cn r g c <;> cases inn n i <;> cases inn n j <;> rfl
      rw [e]
      cases h : coupNo n gn cn r g c i j
      · obtain ⟨a, b, rfl, rfl, ha, hb, hn, hcn⟩ := coup_ok h
        simp only [wrap_ix ha ha hn, wrap_ix hb hb hn, wrap_ix ha hb hn, dec0, hcn, lt_dec (ix_lt ha ha hn), lt_dec (ix_lt hb hb hn), lt_dec (ix_lt ha hb hn), Bool.and_self, cond_false]
      · rfl
  · cases h


noncomputable def loopNo (n gn cn : Nat) (r g c : Nat → Nat) (i : Int) : Bool := bif !valid n gn cn r g c then true else !inn n i
theorem loopNo_eq (n gn cn : Nat) (r g c : Nat → Nat) (i : Int) : (!bif valid n gn cn r g c then inn n i else false) = loopNo n gn cn r g c i := by
  unfold loopNo
  cases valid n gn cn r g c <;> cases inn n i <;> rfl
theorem loop_ok {n gn cn : Nat} {r g c : Nat → Nat} {i : Int} (h : loopNo n gn cn r g c i = false) : ∃ a, i = Int.ofNat a ∧ a < n ∧ n ≤ 6 ∧ gn = n ∧ cn = n * n := by
  unfold loopNo at h
  cases hv : valid n gn cn r g c
  · rw [hv] at h; cases h
  cases hi : inn n i
  · rw [hv, hi] at h; cases h
  obtain ⟨h1, h2, h3, h4⟩ := valid_sizes hv
  obtain ⟨a, rfl, ha⟩ := inn_spec h1 h2 hi
  exact ⟨a, rfl, ha, h2, h3, h4⟩
noncomputable def reso (n : Nat) (g c : Nat → Nat) (i : Int) : Nat := root32 (fop .quo .f32 (g i.toNat) (c (ixI n i i)))
theorem auto47 (n gn cn : Nat) (r g c : Nat → Nat) (i : Int) : autoLp cfg15 (fun _ => none) Try.f47 [.agg [.ro 1 n (.flts .f32 r), .ro 1 gn (.flts .f32 g), .ro 1 cn (.flts .f32 c)], .int .i64 i] =
    some (bif bif !valid n gn cn r g c then true else !bif decide (i ≥ 0) then decide (i ≤ IntKind.i64.wrap (Int.ofNat n - 1)) else false then true else decide (0 ≤ IntKind.i64.wrap (IntKind.i64.wrap (i * Int.ofNat n) + i)) && decide (IntKind.i64.wrap (IntKind.i64.wrap (i * Int.ofNat n) + i) < Int.ofNat cn) && (decide (0 ≤ i) && decide (i < Int.ofNat gn) && true) && true && true, A.tup [A.flt FloatKind.f32 (bif bif !valid n gn cn r g c then true else !bif decide (i ≥ 0) then decide (i ≤ IntKind.i64.wrap (Int.ofNat n - 1)) else false then can FloatKind.f32 0 else root32 (fop BinOp.quo FloatKind.f32 (g i.toNat) (c (IntKind.i64.wrap (IntKind.i64.wrap (i * Int.ofNat n) + i)).toNat))), A.bool (bif bif !valid n gn cn r g c then true else !bif decide (i ≥ 0) then decide (i ≤ IntKind.i64.wrap (Int.ofNat n - 1)) else false then false else true)]) := by kernel_rfl
noncomputable def s47 : List A → Option (Bool × A)
  | [.agg [.ro 1 n (.flts .f32 r), .ro 1 gn (.flts .f32 g), .ro 1 cn (.flts .f32 c)], .int .i64 i] => some (true, .tup [.flt .f32 (bif loopNo n gn cn r g c i then can .f32 0 else reso n g c i), .bool (bif loopNo n gn cn r g c i then false else true)])
  | _ => none
theorem s47_at : EnvAt Try.prog 47 s47 := of_auto cfg15_ok (lp_none _) Try.func47 (by kernel_rfl) (by kernel_rfl) fun ds cc rr h hc => by
  unfold s47 at h
  split at h
  · rename_i n r gn g cn c i
    simp only [Option.some.injEq, Prod.mk.injEq] at h
    obtain ⟨rfl, rfl⟩ := h
    refine auto_fit (auto47 n gn cn r g c i) ?_ ?_
    · rfl
    · show (bif loopNo n gn cn r g c i then true else _) = true
      cases h : loopNo n gn cn r g c i
      · obtain ⟨a, rfl, ha, hn, hgn, hcn⟩ := loop_ok h
        simp only [wrap_ix ha ha hn, dec0, hcn, hgn, lt_dec ha, lt_dec (ix_lt ha ha hn), Bool.and_self, cond_false]
      · rfl
  · cases h

theorem auto48 (n gn cn : Nat) (r g c : Nat → Nat) (i : Int) : autoLp cfg15 (fun _ => none) Try.f48 [.agg [.ro 1 n (.flts .f32 r), .ro 1 gn (.flts .f32 g), .ro 1 cn (.flts .f32 c)], .int .i64 i] =
    some (bif !bif valid n gn cn r g c then bif decide (i ≥ 0) then decide (i ≤ IntKind.i64.wrap (Int.ofNat n - 1)) else false else false then true else decide (0 ≤ IntKind.i64.wrap (IntKind.i64.wrap (i * Int.ofNat n) + i)) && decide (IntKind.i64.wrap (IntKind.i64.wrap (i * Int.ofNat n) + i) < Int.ofNat cn) && true && (decide (0 ≤ i) && decide (i < Int.ofNat gn) && true) && true && true, A.tup [A.flt FloatKind.f32 (bif !bif valid n gn cn r g c then bif decide (i ≥ 0) then decide (i ≤ IntKind.i64.wrap (Int.ofNat n - 1)) else false else false then can FloatKind.f32 0 else root32 (fop BinOp.quo FloatKind.f32 (g i.toNat) (c (IntKind.i64.wrap (IntKind.i64.wrap (i * Int.ofNat n) + i)).toNat))), A.bool (bif !bif valid n gn cn r g c then bif decide (i ≥ 0) then decide (i ≤ IntKind.i64.wrap (Int.ofNat n - 1)) else false else false then false else true)]) := by kernel_rfl
noncomputable def s48 : List A → Option (Bool × A)
  | [.agg [.ro 1 n (.flts .f32 r), .ro 1 gn (.flts .f32 g), .ro 1 cn (.flts .f32 c)], .int .i64 i] => some (true, .tup [.flt .f32 (bif loopNo n gn cn r g c i then can .f32 0 else reso n g c i), .bool (bif loopNo n gn cn r g c i then false else true)])
  | _ => none
theorem s48_at : EnvAt Try.prog 48 s48 := of_auto cfg15_ok (lp_none _) Try.func48 (by kernel_rfl) (by kernel_rfl) fun ds cc rr h hc => by
  unfold s48 at h
  split at h
  · rename_i n r gn g cn c i
    simp only [Option.some.injEq, Prod.mk.injEq] at h
    obtain ⟨rfl, rfl⟩ := h
    refine auto_fit (auto48 n gn cn r g c i) ?_ ?_
    · rw [← loopNo_eq]; rfl
    · show (bif (!bif valid n gn cn r g c then inn n i else false) then true else _) = true
      rw [loopNo_eq]
      cases h : loopNo n gn cn r g c i
      · obtain ⟨a, rfl, ha, hn, hgn, hcn⟩ := loop_ok h
        simp only [wrap_ix ha ha hn, dec0, hcn, hgn, lt_dec ha, lt_dec (ix_lt ha ha hn), Bool.and_self, cond_false]
      · rfl
  · cases h

noncomputable def qualNo (n gn cn : Nat) (r g c : Nat → Nat) (i : Int) : Bool := bif loopNo n gn cn r g c i then true else forder .f32 (r i.toNat) (can .f32 0) == some .eq
noncomputable def qual (n : Nat) (r g c : Nat → Nat) (i : Int) : Nat := fop .quo .f32 (fop .mul .f32 (reso n g c i) (c (ixI n i i))) (r i.toNat)
theorem auto45 (n gn cn : Nat) (r g c : Nat → Nat) (i : Int) : autoLp cfg15 (fun _ => none) Try.f45 [.agg [.ro 1 n (.flts .f32 r), .ro 1 gn (.flts .f32 g), .ro 1 cn (.flts .f32 c)], .int .i64 i] =
    some ((decide (0 ≤ i) && decide (i < Int.ofNat n) || !(bif !valid n gn cn r g c then true else !bif decide (i ≥ 0) then decide (i ≤ IntKind.i64.wrap (Int.ofNat n - 1)) else false) == false) && bif bif bif !valid n gn cn r g c then true else !bif decide (i ≥ 0) then decide (i ≤ IntKind.i64.wrap (Int.ofNat n - 1)) else false then true else forder FloatKind.f32 (r i.toNat) (can FloatKind.f32 0) == some Ordering.eq then true else decide (0 ≤ i) && decide (i < Int.ofNat n) && (decide (0 ≤ IntKind.i64.wrap (IntKind.i64.wrap (i * Int.ofNat n) + i)) && decide (IntKind.i64.wrap (IntKind.i64.wrap (i * Int.ofNat n) + i) < Int.ofNat cn) && (decide (0 ≤ IntKind.i64.wrap (IntKind.i64.wrap (i * Int.ofNat n) + i)) && decide (IntKind.i64.wrap (IntKind.i64.wrap (i * Int.ofNat n) + i) < Int.ofNat cn) && (decide (0 ≤ i) && decide (i < Int.ofNat gn) && true) && true && true)) && true, A.tup [A.flt FloatKind.f32 (bif bif bif !valid n gn cn r g c then true else !bif decide (i ≥ 0) then decide (i ≤ IntKind.i64.wrap (Int.ofNat n - 1)) else false then true else forder FloatKind.f32 (r i.toNat) (can FloatKind.f32 0) == some Ordering.eq then can FloatKind.f32 0 else fop BinOp.quo FloatKind.f32 (fop BinOp.mul FloatKind.f32 (root32 (fop BinOp.quo FloatKind.f32 (g i.toNat) (c (IntKind.i64.wrap (IntKind.i64.wrap (i * Int.ofNat n) + i)).toNat))) (c (IntKind.i64.wrap (IntKind.i64.wrap (i * Int.ofNat n) + i)).toNat)) (r i.toNat)), A.bool (bif bif bif !valid n gn cn r g c then true else !bif decide (i ≥ 0) then decide (i ≤ IntKind.i64.wrap (Int.ofNat n - 1)) else false then true else forder FloatKind.f32 (r i.toNat) (can FloatKind.f32 0) == some Ordering.eq then false else true)]) := by kernel_rfl
noncomputable def s45 : List A → Option (Bool × A)
  | [.agg [.ro 1 n (.flts .f32 r), .ro 1 gn (.flts .f32 g), .ro 1 cn (.flts .f32 c)], .int .i64 i] => some (true, .tup [.flt .f32 (bif qualNo n gn cn r g c i then can .f32 0 else qual n r g c i), .bool (bif qualNo n gn cn r g c i then false else true)])
  | _ => none
theorem s45_at : EnvAt Try.prog 45 s45 := of_auto cfg15_ok (lp_none _) Try.func45 (by kernel_rfl) (by kernel_rfl) fun ds cc rr h hc => by
  unfold s45 at h
  split at h
  · rename_i n r gn g cn c i
    simp only [Option.some.injEq, Prod.mk.injEq] at h
    obtain ⟨rfl, rfl⟩ := h
    refine auto_fit (auto45 n gn cn r g c i) ?_ ?_
    · rfl
    · show ((decide (0 ≤ i) && decide (i < Int.ofNat n) || !(loopNo n gn cn r g c i == false)) && bif bif loopNo n gn cn r g c i then true else _ then true else _) = true
      cases h : loopNo n gn cn r g c i
      · obtain ⟨a, rfl, ha, hn, hgn, hcn⟩ := loop_ok h
        simp only [wrap_ix ha ha hn, dec0, hcn, hgn, lt_dec ha, lt_dec (ix_lt ha ha hn), Bool.and_self, cond_false, Bool.true_or, Bool.cond_self]
      · simp
  · cases h

theorem auto46 (n gn cn : Nat) (r g c : Nat → Nat) (i : Int) : autoLp cfg15 (fun _ => none) Try.f46 [.agg [.ro 1 n (.flts .f32 r), .ro 1 gn (.flts .f32 g), .ro 1 cn (.flts .f32 c)], .int .i64 i] =
    some ((decide (0 ≤ i) && decide (i < Int.ofNat n) || !(!bif valid n gn cn r g c then bif decide (i ≥ 0) then decide (i ≤ IntKind.i64.wrap (Int.ofNat n - 1)) else false else false) == false) && bif bif !bif valid n gn cn r g c then bif decide (i ≥ 0) then decide (i ≤ IntKind.i64.wrap (Int.ofNat n - 1)) else false else false then true else forder FloatKind.f32 (r i.toNat) (can FloatKind.f32 0) == some Ordering.eq then true else decide (0 ≤ i) && decide (i < Int.ofNat n) && (decide (0 ≤ IntKind.i64.wrap (IntKind.i64.wrap (i * Int.ofNat n) + i)) && decide (IntKind.i64.wrap (IntKind.i64.wrap (i * Int.ofNat n) + i) < Int.ofNat cn) && true && (decide (0 ≤ IntKind.i64.wrap (IntKind.i64.wrap (i * Int.ofNat n) + i)) && decide (IntKind.i64.wrap (IntKind.i64.wrap (i * Int.ofNat n) + i) < Int.ofNat cn) && true && (decide (0 ≤ i) && decide (i < Int.ofNat gn) && true) && true && true)) && true, A.tup [A.flt FloatKind.f32 (bif bif !bif valid n gn cn r g c then bif decide (i ≥ 0) then decide (i ≤ IntKind.i64.wrap (Int.ofNat n - 1)) else false else false then true else forder FloatKind.f32 (r i.toNat) (can FloatKind.f32 0) == some Ordering.eq then can FloatKind.f32 0 else fop BinOp.quo FloatKind.f32 (fop BinOp.mul FloatKind.f32 (root32 (fop BinOp.quo FloatKind.f32 (g i.toNat) (c (IntKind.i64.wrap (IntKind.i64.wrap (i * Int.ofNat n) + i)).toNat))) (c (IntKind.i64.wrap (IntKind.i64.wrap (i * Int.ofNat n) + i)).toNat)) (r i.toNat)), A.bool (bif bif !bif valid n gn cn r g c then bif decide (i ≥ 0) then decide (i ≤ IntKind.i64.wrap (Int.ofNat n - 1)) else false else false then true else forder FloatKind.f32 (r i.toNat) (can FloatKind.f32 0) == some Ordering.eq then false else true)]) := by kernel_rfl
noncomputable def s46 : List A → Option (Bool × A)
  | [.agg [.ro 1 n (.flts .f32 r), .ro 1 gn (.flts .f32 g), .ro 1 cn (.flts .f32 c)], .int .i64 i] => some (true, .tup [.flt .f32 (bif qualNo n gn cn r g c i then can .f32 0 else qual n r g c i), .bool (bif qualNo n gn cn r g c i then false else true)])
  | _ => none
theorem s46_at : EnvAt Try.prog 46 s46 := of_auto cfg15_ok (lp_none _) Try.func46 (by kernel_rfl) (by kernel_rfl) fun ds cc rr h hc => by
  unfold s46 at h
  split at h
  · rename_i n r gn g cn c i
    simp only [Option.some.injEq, Prod.mk.injEq] at h
    obtain ⟨rfl, rfl⟩ := h
    refine auto_fit (auto46 n gn cn r g c i) ?_ ?_
    · unfold qualNo; rw [← loopNo_eq]; rfl
    · show ((decide (0 ≤ i) && decide (i < Int.ofNat n) || !((!bif valid n gn cn r g c then inn n i else false) == false)) && bif bif (!bif valid n gn cn r g c then inn n i else false) then true else _ then true else _) = true
      rw [loopNo_eq]
      cases h : loopNo n gn cn r g c i
      · obtain ⟨a, rfl, ha, hn, hgn, hcn⟩ := loop_ok h
        simp only [wrap_ix ha ha hn, dec0, hcn, hgn, lt_dec ha, lt_dec (ix_lt ha ha hn), Bool.and_self, cond_false, Bool.true_or, Bool.cond_self]
      · simp
  · cases h

noncomputable def env16 : List (Nat × (List A → Option (Bool × A))) := (41, s41) :: (42, s42) :: (45, s45) :: (46, s46) :: (47, s47) :: (48, s48) :: env15
theorem env16_ok : EnvOK Try.prog (look env16) := (env_cons s41_at (env_cons s42_at (env_cons s45_at (env_cons s46_at (env_cons s47_at (env_cons s48_at env15_ok))))))
noncomputable def cfg16 : Cfg := mkCfg tab [] xts (look env16)
theorem cfg16_ok : CfgOK Try.prog cfg16 := cfg_ok tab_eq (no_fts _) xts_ok env16_ok mixed

theorem law10 {a : A} {i j : Int} (ha : CircA a) (_hi : IntA i) (_hj : IntA j) : PureCall Try.prog 10 [a, .int .i64 i, .int .i64 j] (.bool true) := by
  obtain ⟨n, gn, cn, r, g, c, hs, _, rfl⟩ := ha
  have h : autoLp cfg16 (fun _ => none) Try.f10 [.agg [.ro 1 n (.flts .f32 r), .ro 1 gn (.flts .f32 g), .ro 1 cn (.flts .f32 c)], .int .i64 i, .int .i64 j] =
    some (bif decide (szC n gn cn 1048576 < 0) then true else n.ble 1073741824 && (gn.ble 1073741824 && (cn.ble 1073741824 && true)) && (n.ble 1073741824 && (gn.ble 1073741824 && (cn.ble 1073741824 && true)) && bif bif !sameF (fcvt FloatKind.f32 FloatKind.f64 (bif coupNo n gn cn r g c i j then can FloatKind.f32 0 else coup n c i j)) (fcvt FloatKind.f32 FloatKind.f64 (bif coupNo n gn cn r g c i j then can FloatKind.f32 0 else coup n c i j)) then true else !(bif coupNo n gn cn r g c i j then false else true) == bif coupNo n gn cn r g c i j then false else true then true else n.ble 1073741824 && (gn.ble 1073741824 && (cn.ble 1073741824 && true)) && true && ((n.ble 4611686018427387904 && bif !eqL n n r r then true else gn.ble 4611686018427387904 && bif !eqL gn gn g g then true else cn.ble 4611686018427387904 && bif !eqL cn cn c c then true else true) && bif !bif !eqL n n r r then false else bif !eqL gn gn g g then false else bif !eqL cn cn c c then false else true then true else true)), A.bool (bif decide (szC n gn cn 1048576 < 0) then true else bif bif !sameF (fcvt FloatKind.f32 FloatKind.f64 (bif coupNo n gn cn r g c i j then can FloatKind.f32 0 else coup n c i j)) (fcvt FloatKind.f32 FloatKind.f64 (bif coupNo n gn cn r g c i j then can FloatKind.f32 0 else coup n c i j)) then true else !(bif coupNo n gn cn r g c i j then false else true) == bif coupNo n gn cn r g c i j then false else true then false else bif !bif !eqL n n r r then false else bif !eqL gn gn g g then false else bif !eqL cn cn c c then false else true then false else true)) := by kernel_rfl
  have key := (auto_at cfg16_ok Try.func10 (by kernel_rfl) (by kernel_rfl)).2 _ _ _ h
  rcases szC_le (left := 1048576) (by omega) (by omega) hs.1 hs.2.1 hs.2.2 with e | ⟨e0, e⟩
  · rw [e] at key; exact key rfl
  · rw [decide_eq_false (p := szC n gn cn 1048576 < 0) (by omega)] at key
    simp only [eqL_self, sameF_self, bne_self_eq_false, Bool.cond_self, beq_self_eq_true, Bool.not_true, cond_false, Bool.and_true, ble_of (show n ≤ 1073741824 by omega), ble_of (show gn ≤ 1073741824 by omega), ble_of (show cn ≤ 1073741824 by omega),
      ble_of (show n ≤ 4611686018427387904 by omega), ble_of (show gn ≤ 4611686018427387904 by omega), ble_of (show cn ≤ 4611686018427387904 by omega)] at key
    exact key trivial
theorem law12 {a : A} {i : Int} (ha : CircA a) (_hi : IntA i) : PureCall Try.prog 12 [a, .int .i64 i] (.bool true) := by
  obtain ⟨n, gn, cn, r, g, c, hs, _, rfl⟩ := ha
  have h : autoLp cfg16 (fun _ => none) Try.f12 [.agg [.ro 1 n (.flts .f32 r), .ro 1 gn (.flts .f32 g), .ro 1 cn (.flts .f32 c)], .int .i64 i] =
    some (bif decide (szC n gn cn 1048576 < 0) then true else n.ble 1073741824 && (gn.ble 1073741824 && (cn.ble 1073741824 && true)) && (n.ble 1073741824 && (gn.ble 1073741824 && (cn.ble 1073741824 && true)) && bif bif !sameF (fcvt FloatKind.f32 FloatKind.f64 (bif qualNo n gn cn r g c i then can FloatKind.f32 0 else qual n r g c i)) (fcvt FloatKind.f32 FloatKind.f64 (bif qualNo n gn cn r g c i then can FloatKind.f32 0 else qual n r g c i)) then true else !(bif qualNo n gn cn r g c i then false else true) == bif qualNo n gn cn r g c i then false else true then true else n.ble 1073741824 && (gn.ble 1073741824 && (cn.ble 1073741824 && true)) && true && ((n.ble 4611686018427387904 && bif !eqL n n r r then true else gn.ble 4611686018427387904 && bif !eqL gn gn g g then true else cn.ble 4611686018427387904 && bif !eqL cn cn c c then true else true) && bif !bif !eqL n n r r then false else bif !eqL gn gn g g then false else bif !eqL cn cn c c then false else true then true else true)), A.bool (bif decide (szC n gn cn 1048576 < 0) then true else bif bif !sameF (fcvt FloatKind.f32 FloatKind.f64 (bif qualNo n gn cn r g c i then can FloatKind.f32 0 else qual n r g c i)) (fcvt FloatKind.f32 FloatKind.f64 (bif qualNo n gn cn r g c i then can FloatKind.f32 0 else qual n r g c i)) then true else !(bif qualNo n gn cn r g c i then false else true) == bif qualNo n gn cn r g c i then false else true then false else bif !bif !eqL n n r r then false else bif !eqL gn gn g g then false else bif !eqL cn cn c c then false else true then false else true)) := by kernel_rfl
  have key := (auto_at cfg16_ok Try.func12 (by kernel_rfl) (by kernel_rfl)).2 _ _ _ h
  rcases szC_le (left := 1048576) (by omega) (by omega) hs.1 hs.2.1 hs.2.2 with e | ⟨e0, e⟩
  · rw [e] at key; exact key rfl
  · rw [decide_eq_false (p := szC n gn cn 1048576 < 0) (by omega)] at key
    simp only [eqL_self, sameF_self, bne_self_eq_false, Bool.cond_self, beq_self_eq_true, Bool.not_true, cond_false, Bool.and_true, ble_of (show n ≤ 1073741824 by omega), ble_of (show gn ≤ 1073741824 by omega), ble_of (show cn ≤ 1073741824 by omega),
      ble_of (show n ≤ 4611686018427387904 by omega), ble_of (show gn ≤ 4611686018427387904 by omega), ble_of (show cn ≤ 4611686018427387904 by omega)] at key
    exact key trivial
theorem law13 {a : A} {i : Int} (ha : CircA a) (_hi : IntA i) : PureCall Try.prog 13 [a, .int .i64 i] (.bool true) := by
  obtain ⟨n, gn, cn, r, g, c, hs, _, rfl⟩ := ha
  have h : autoLp cfg16 (fun _ => none) Try.f13 [.agg [.ro 1 n (.flts .f32 r), .ro 1 gn (.flts .f32 g), .ro 1 cn (.flts .f32 c)], .int .i64 i] =
    some (bif decide (szC n gn cn 1048576 < 0) then true else n.ble 1073741824 && (gn.ble 1073741824 && (cn.ble 1073741824 && true)) && (n.ble 1073741824 && (gn.ble 1073741824 && (cn.ble 1073741824 && true)) && bif bif !sameF (fcvt FloatKind.f32 FloatKind.f64 (bif loopNo n gn cn r g c i then can FloatKind.f32 0 else reso n g c i)) (fcvt FloatKind.f32 FloatKind.f64 (bif loopNo n gn cn r g c i then can FloatKind.f32 0 else reso n g c i)) then true else !(bif loopNo n gn cn r g c i then false else true) == bif loopNo n gn cn r g c i then false else true then true else n.ble 1073741824 && (gn.ble 1073741824 && (cn.ble 1073741824 && true)) && true && ((n.ble 4611686018427387904 && bif !eqL n n r r then true else gn.ble 4611686018427387904 && bif !eqL gn gn g g then true else cn.ble 4611686018427387904 && bif !eqL cn cn c c then true else true) && bif !bif !eqL n n r r then false else bif !eqL gn gn g g then false else bif !eqL cn cn c c then false else true then true else true)), A.bool (bif decide (szC n gn cn 1048576 < 0) then true else bif bif !sameF (fcvt FloatKind.f32 FloatKind.f64 (bif loopNo n gn cn r g c i then can FloatKind.f32 0 else reso n g c i)) (fcvt FloatKind.f32 FloatKind.f64 (bif loopNo n gn cn r g c i then can FloatKind.f32 0 else reso n g c i)) then true else !(bif loopNo n gn cn r g c i then false else true) == bif loopNo n gn cn r g c i then false else true then false else bif !bif !eqL n n r r then false else bif !eqL gn gn g g then false else bif !eqL cn cn c c then false else true then false else true)) := by kernel_rfl
  have key := (auto_at cfg16_ok Try.func13 (by kernel_rfl) (by kernel_rfl)).2 _ _ _ h
  rcases szC_le (left := 1048576) (by omega) (by omega) hs.1 hs.2.1 hs.2.2 with e | ⟨e0, e⟩
  · rw [e] at key; exact key rfl
  · rw [decide_eq_false (p := szC n gn cn 1048576 < 0) (by omega)] at key
    simp only [eqL_self, sameF_self, bne_self_eq_false, Bool.cond_self, beq_self_eq_true, Bool.not_true, cond_false, Bool.and_true, ble_of (show n ≤ 1073741824 by omega), ble_of (show gn ≤ 1073741824 by omega), ble_of (show cn ≤ 1073741824 by omega),
      ble_of (show n ≤ 4611686018427387904 by omega), ble_of (show gn ≤ 4611686018427387904 by omega), ble_of (show cn ≤ 4611686018427387904 by omega)] at key
    exact key trivial
end Go.Fw.C1

/-
  Circuits compared.
-/
namespace Go.Fw.C1
open Go.Proofs

def valBits (x : Nat) : Int := bif nan x then Int.ofNat 2143289344 else IntKind.i64.wrap (Int.ofNat x)
def bits95 (x y : Nat) : Bool := valBits x == valBits y
def nega (x : Nat) : Bool := decide (IntKind.i64.wrap (Int.ofNat (fcvt .f32 .f64 x)) < 0)
def same82 (x y : Nat) : Bool := bif bif nan x then true else nan y then bif nan x then nan y else false else bif forder .f32 x y == some .eq then nega x == nega y else false
theorem nan_eq (x : Nat) : nan x = isNaN .f32 x := by
  unfold nan
  have := @forder_self_iff .f32 x
  cases h : isNaN .f32 x
  · rw [h] at this; simp only [bne, this]; rfl
  · rw [h] at this; simp only [bne, this]; rfl
theorem auto95 (x y : Nat) : autoLp cfg16 (fun _ => none) Try.f95 [.flt .f32 x, .flt .f32 y] =
    some ((bif forder FloatKind.f32 x x != some Ordering.eq then true else !isNaN FloatKind.f32 x && true) && ((bif forder FloatKind.f32 y y != some Ordering.eq then true else !isNaN FloatKind.f32 y && true) && true), A.bool ((bif forder FloatKind.f32 x x != some Ordering.eq then Int.ofNat 2143289344 else IntKind.i64.wrap (Int.ofNat x)) == bif forder FloatKind.f32 y y != some Ordering.eq then Int.ofNat 2143289344 else IntKind.i64.wrap (Int.ofNat y))) := by kernel_rfl
noncomputable def s95 : List A → Option (Bool × A)
  | [.flt .f32 x, .flt .f32 y] => some (true, .bool (bits95 x y))
  | _ => none
theorem s95_at : EnvAt Try.prog 95 s95 := of_auto cfg16_ok (lp_none _) Try.func95 (by kernel_rfl) (by kernel_rfl) fun ds cc rr h hc => by
  unfold s95 at h
  split at h
  · rename_i x y
    simp only [Option.some.injEq, Prod.mk.injEq] at h
    obtain ⟨rfl, rfl⟩ := h
    refine auto_fit (auto95 x y) ?_ ?_
    · rfl
    · show ((bif nan x then true else !isNaN .f32 x && true) && ((bif nan y then true else !isNaN .f32 y && true) && true)) = true
      rw [nan_eq, nan_eq]
      cases isNaN .f32 x <;> cases isNaN .f32 y <;> rfl
  · cases h

theorem auto82 (x y : Nat) : autoLp cfg16 (fun _ => none) Try.f82 [.flt .f32 x, .flt .f32 y] =
    some (bif bif forder FloatKind.f32 x x != some Ordering.eq then true else forder FloatKind.f32 y y != some Ordering.eq then true else (!isNaN FloatKind.f64 (fcvt FloatKind.f32 FloatKind.f64 x) && true || !(forder FloatKind.f32 x y == some Ordering.eq) == true) && ((!isNaN FloatKind.f64 (fcvt FloatKind.f32 FloatKind.f64 y) && true || !(forder FloatKind.f32 x y == some Ordering.eq) == true) && true), A.bool (bif bif forder FloatKind.f32 x x != some Ordering.eq then true else forder FloatKind.f32 y y != some Ordering.eq then bif forder FloatKind.f32 x x != some Ordering.eq then forder FloatKind.f32 y y != some Ordering.eq else false else bif forder FloatKind.f32 x y == some Ordering.eq then decide (IntKind.i64.wrap (Int.ofNat (fcvt FloatKind.f32 FloatKind.f64 x)) < 0) == decide (IntKind.i64.wrap (Int.ofNat (fcvt FloatKind.f32 FloatKind.f64 y)) < 0) else false)) := by kernel_rfl
noncomputable def s82 : List A → Option (Bool × A)
  | [.flt .f32 x, .flt .f32 y] => some (true, .bool (same82 x y))
  | _ => none
theorem s82_at : EnvAt Try.prog 82 s82 := of_auto cfg16_ok (lp_none _) Try.func82 (by kernel_rfl) (by kernel_rfl) fun ds cc rr h hc => by
  unfold s82 at h
  split at h
  · rename_i x y
    simp only [Option.some.injEq, Prod.mk.injEq] at h
    obtain ⟨rfl, rfl⟩ := h
    refine auto_fit (auto82 x y) ?_ ?_
    · rfl
    · show (bif bif nan x then true else nan y then true else _) = true
      cases hx : nan x
      · cases hy : nan y
        · rw [nan_eq] at hx hy
          simp only [notNaN_fcvt hx, notNaN_fcvt hy]
          simp
        · rfl
      · rfl
  · cases h

noncomputable def env17 : List (Nat × (List A → Option (Bool × A))) := (95, s95) :: (82, s82) :: env16
theorem env17_ok : EnvOK Try.prog (look env17) := (env_cons s95_at (env_cons s82_at env16_ok))
noncomputable def cfg17 : Cfg := mkCfg tab [] xts (look env17)
theorem cfg17_ok : CfgOK Try.prog cfg17 := cfg_ok tab_eq (no_fts _) xts_ok env17_ok mixed
noncomputable def I80 (n m : Nat) (r s : Nat → Nat) (k : Nat) : List A := [.ro 1 n (.flts .f32 r), .ro 1 m (.flts .f32 s), .bool false, .int .i64 (Int.ofNat k)]
theorem round80 (n m : Nat) (r s : Nat → Nat) (k : Nat) (L : XK → List A → List (Option O) → Prop) :
    ((exec cfg17 (fun _ => true) (fun _ => none) 0 1000 (loopOf Try.f80 0) (litSt Try.f80.ntmps 112 [0, 1, 4, 5] [] (I80 n m r s k) [])).rt [0, 1, 4, 5] []).Ok L =
    bif decide (Int.ofNat k < Int.ofNat n) then
      bif decide (Int.ofNat k < Int.ofNat m) && (decide (Int.ofNat k < Int.ofNat n) && true) then
        bif !bits95 (r k) (s k) then
          L (XK.ret) [A.ro 1 n (Row.flts FloatKind.f32 r), A.ro 1 m (Row.flts FloatKind.f32 s), A.bool false, A.int IntKind.i64 (Int.ofNat k)] []
        else
          L (XK.normal) [A.ro 1 n (Row.flts FloatKind.f32 r), A.ro 1 m (Row.flts FloatKind.f32 s), A.bool false, A.int IntKind.i64 (IntKind.i64.wrap (Int.ofNat k + Int.ofNat 1))] []
      else
        False
    else
      L (XK.exit 0) [A.ro 1 n (Row.flts FloatKind.f32 r), A.ro 1 m (Row.flts FloatKind.f32 s), A.bool false, A.int IntKind.i64 (Int.ofNat k)] [] := by kernel_rfl
noncomputable def F80 : List A → List (Option O) → Option R3
  | [.ro 1 n (.flts .f32 r), .ro 1 m (.flts .f32 s), .bool false, .int .i64 0], [] => some (.ite (Nat.beq m n && Nat.ble n 4611686018427387000) (.ite (allUpTo (fun k => bits95 (r k) (s k)) (n)) (.leaf .normal (I80 n m r s (n)) []) (.leaf (.ret) ((I80 n m r s) (firstIdx (fun k => bits95 (r k) (s k)) (n))) [])) .fail)
  | _, _ => none
theorem loop80 : CodeOK Try.prog (fun _ σ => sumAt Try.f80.ntmps 112 [0, 1, 4, 5] [] F80 σ) (.block 0 (.loop (loopOf Try.f80 0))) := by
  refine block_ok (own := fun _ => true) (lp := (fun _ => none)) (un := 0) (fuel := 1000) cfg17_ok (lp_none _) fun az os R hF hok => ?_
  unfold F80 at hF
  split at hF
  · rename_i n r m s
    injection hF with hF
    subst hF
    have hg := hok.guard
    have hg' := hg
    simp only [Bool.and_eq_true, Nat.ble_eq, Nat.beq_eq, decide_eq_true_eq] at hg'
    obtain ⟨hm, hn⟩ := hg'
    refine for_fact0 (fun k => bits95 (r k) (s k)) (n) (I80 n m r s) _ (.ret) (I80 n m r s) (I80 n m r s) (I80 n m r s (n)) rfl (fun _ => rfl) (fun _ => ALe.self _) (fun _ => rfl) (ALe.self _) rfl (fun h => by cases h) (fun k hk L h1 h2 h3 => ?_) fun L hL => ?_
    · rw [round80]
      by_cases hkm : k < n
      · refine condT (lt_dec hkm) ?_
        refine condT (by rw [hm]; simp only [lt_dec hkm, Bool.and_self, Bool.and_true]) ?_
        cases hs : bits95 (r k) (s k)
        · exact h2 hkm hs
        · have := h1 hkm hs
          rw [wrap_succ (by omega)]
          exact this
      · refine condE (ge_dec (by omega)) ?_
        obtain rfl : k = n := by omega
        exact h3 rfl
    · exact ⟨fun h => (hL.1 hg).1 h, fun N hN hf hall => by
        have := (hL.1 hg).2 (allUpTo_false hN hf)
        rw [firstIdx_eq hN hf hall] at this
        exact this⟩
  · cases hF

noncomputable def I81 (n m n2 : Nat) (r s r2 : Nat → Nat) (k : Nat) : List A := [.ro 1 n2 (.flts .f32 r2), .ro 1 m (.flts .f32 s), .fn 82 [], .bool false, .ro 1 n (.flts .f32 r), .int .i64 (Int.ofNat n), .int .i64 (Int.ofNat k)]
theorem round81 (n m n2 : Nat) (r s r2 : Nat → Nat) (k : Nat) (L : XK → List A → List (Option O) → Prop) :
    ((exec cfg17 (fun _ => true) (fun _ => none) 0 1000 (loopOf Try.f81 0) (litSt Try.f81.ntmps 144 [0, 1, 2, 6, 15, 16, 17] [] (I81 n m n2 r s r2 k) [])).rt [0, 1, 2, 6, 15, 16, 17] []).Ok L =
    bif decide (Int.ofNat k < Int.ofNat n) then
      bif decide (Int.ofNat k < Int.ofNat n) then
        bif decide (Int.ofNat k < Int.ofNat m) then
          bif !same82 (r k) (s k) then
            L (XK.ret) [A.ro 1 n2 (Row.flts FloatKind.f32 r2), A.ro 1 m (Row.flts FloatKind.f32 s), A.fn 82 [], A.bool false, A.ro 1 n (Row.flts FloatKind.f32 r), A.int IntKind.i64 (Int.ofNat n), A.int IntKind.i64 (Int.ofNat k)] []
          else
            L (XK.normal) [A.ro 1 n2 (Row.flts FloatKind.f32 r2), A.ro 1 m (Row.flts FloatKind.f32 s), A.fn 82 [], A.bool false, A.ro 1 n (Row.flts FloatKind.f32 r), A.int IntKind.i64 (Int.ofNat n), A.int IntKind.i64 (IntKind.i64.wrap (Int.ofNat k + Int.ofNat 1))] []
        else
          False
      else
        False
    else
      L (XK.exit 0) [A.ro 1 n2 (Row.flts FloatKind.f32 r2), A.ro 1 m (Row.flts FloatKind.f32 s), A.fn 82 [], A.bool false, A.ro 1 n (Row.flts FloatKind.f32 r), A.int IntKind.i64 (Int.ofNat n), A.int IntKind.i64 (Int.ofNat k)] [] := by kernel_rfl
noncomputable def F81 : List A → List (Option O) → Option R3
  | [.ro 1 n2 (.flts .f32 r2), .ro 1 m (.flts .f32 s), .fn 82 [], .bool false, .ro 1 n (.flts .f32 r), .int .i64 l, .int .i64 0], [] => some (.ite (decide (l = Int.ofNat n) && Nat.beq m n && Nat.ble n 4611686018427387000) (.ite (allUpTo (fun k => same82 (r k) (s k)) (n)) (.leaf .normal (I81 n m n2 r s r2 (n)) []) (.leaf (.ret) ((I81 n m n2 r s r2) (firstIdx (fun k => same82 (r k) (s k)) (n))) [])) .fail)
  | _, _ => none
theorem loop81 : CodeOK Try.prog (fun _ σ => sumAt Try.f81.ntmps 144 [0, 1, 2, 6, 15, 16, 17] [] F81 σ) (.block 0 (.loop (loopOf Try.f81 0))) := by
  refine block_ok (own := fun _ => true) (lp := (fun _ => none)) (un := 0) (fuel := 1000) cfg17_ok (lp_none _) fun az os R hF hok => ?_
  unfold F81 at hF
  split at hF
  · rename_i n2 r2 m s n r l
    injection hF with hF
    subst hF
    have hg := hok.guard
    have hg' := hg
    simp only [Bool.and_eq_true, Nat.ble_eq, Nat.beq_eq, decide_eq_true_eq] at hg'
    obtain ⟨⟨rfl, hm⟩, hn⟩ := hg'
    refine for_fact0 (fun k => same82 (r k) (s k)) (n) (I81 n m n2 r s r2) _ (.ret) (I81 n m n2 r s r2) (I81 n m n2 r s r2) (I81 n m n2 r s r2 (n)) rfl (fun _ => rfl) (fun _ => ALe.self _) (fun _ => rfl) (ALe.self _) rfl (fun h => by cases h) (fun k hk L h1 h2 h3 => ?_) fun L hL => ?_
    · rw [round81]
      by_cases hkm : k < n
      · refine condT (lt_dec hkm) ?_
        refine condT (lt_dec hkm) ?_
        refine condT (by rw [hm]; exact lt_dec hkm) ?_
        cases hs : same82 (r k) (s k)
        · exact h2 hkm hs
        · have := h1 hkm hs
          rw [wrap_succ (by omega)]
          exact this
      · refine condE (ge_dec (by omega)) ?_
        obtain rfl : k = n := by omega
        exact h3 rfl
    · exact ⟨fun h => (hL.1 hg).1 h, fun N hN hf hall => by
        have := (hL.1 hg).2 (allUpTo_false hN hf)
        rw [firstIdx_eq hN hf hall] at this
        exact this⟩
  · cases hF

/-- Two lists of the same length, alike at each place. -/
noncomputable def sameL (f : Nat → Bool) (n m : Nat) : Bool := bif Int.ofNat n != Int.ofNat m then false else allUpTo f n
noncomputable def lp80 : List (Nat × (St → T)) := [(0, sumAt Try.f80.ntmps 112 [0, 1, 4, 5] [] F80)]
theorem lp80_ok : LpOK Try.prog (look lp80) (bodyOf Try.f80) := lp_loops (by kernel_rfl) (by kernel_rfl) fun p hp => by
  simp only [lp80, List.mem_cons, List.not_mem_nil, or_false] at hp
  rcases hp with rfl
  · exact loop80
theorem auto80 (n m : Nat) (r s : Nat → Nat) : autoLp cfg17 (look lp80) Try.f80 [.ro 1 n (.flts .f32 r), .ro 1 m (.flts .f32 s)] =
    some (bif Int.ofNat n != Int.ofNat m then true else m.beq n && n.ble 4611686018427387000 && bif allUpTo (fun k => bits95 (r k) (s k)) n then true else true, A.bool (bif Int.ofNat n != Int.ofNat m then false else bif allUpTo (fun k => bits95 (r k) (s k)) n then true else false)) := by kernel_rfl
noncomputable def s80 : List A → Option (Bool × A)
  | [.ro 1 n (.flts .f32 r), .ro 1 m (.flts .f32 s)] => some (Nat.ble n 4611686018427387000, .bool (sameL (fun k => bits95 (r k) (s k)) n m))
  | _ => none
theorem s80_at : EnvAt Try.prog 80 s80 := of_auto cfg17_ok lp80_ok Try.func80 (by kernel_rfl) (by kernel_rfl) fun ds cc rr h hc => by
  unfold s80 at h
  split at h
  · rename_i n r m s
    simp only [Option.some.injEq, Prod.mk.injEq] at h
    obtain ⟨rfl, rfl⟩ := h
    refine auto_fit (auto80 n m r s) ?_ ?_
    · unfold sameL
      cases Int.ofNat n != Int.ofNat m <;> cases allUpTo (fun k => bits95 (r k) (s k)) n <;> rfl
    · rw [ne_nat]
      by_cases h : n = m
      · subst h
        rw [hc]
        simp
      · simp [h]
  · cases h

noncomputable def lp81 : List (Nat × (St → T)) := [(0, sumAt Try.f81.ntmps 144 [0, 1, 2, 6, 15, 16, 17] [] F81)]
theorem lp81_ok : LpOK Try.prog (look lp81) (bodyOf Try.f81) := lp_loops (by kernel_rfl) (by kernel_rfl) fun p hp => by
  simp only [lp81, List.mem_cons, List.not_mem_nil, or_false] at hp
  rcases hp with rfl
  · exact loop81
theorem auto81 (n m : Nat) (r s : Nat → Nat) : autoLp cfg17 (look lp81) Try.f81 [.ro 1 n (.flts .f32 r), .ro 1 m (.flts .f32 s), .fn 82 []] =
    some (bif Int.ofNat n != Int.ofNat m then true else decide (Int.ofNat n = Int.ofNat n) && m.beq n && n.ble 4611686018427387000 && bif allUpTo (fun k => same82 (r k) (s k)) n then true else true, A.bool (bif Int.ofNat n != Int.ofNat m then false else bif allUpTo (fun k => same82 (r k) (s k)) n then true else false)) := by kernel_rfl
noncomputable def s81 : List A → Option (Bool × A)
  | [.ro 1 n (.flts .f32 r), .ro 1 m (.flts .f32 s), .fn 82 []] => some (Nat.ble n 4611686018427387000, .bool (sameL (fun k => same82 (r k) (s k)) n m))
  | _ => none
theorem s81_at : EnvAt Try.prog 81 s81 := of_auto cfg17_ok lp81_ok Try.func81 (by kernel_rfl) (by kernel_rfl) fun ds cc rr h hc => by
  unfold s81 at h
  split at h
  · rename_i n r m s
    simp only [Option.some.injEq, Prod.mk.injEq] at h
    obtain ⟨rfl, rfl⟩ := h
    refine auto_fit (auto81 n m r s) ?_ ?_
    · unfold sameL
      cases Int.ofNat n != Int.ofNat m <;> cases allUpTo (fun k => same82 (r k) (s k)) n <;> rfl
    · rw [ne_nat]
      by_cases h : n = m
      · subst h
        rw [hc]
        simp
      · simp [h]
  · cases h

noncomputable def env18 : List (Nat × (List A → Option (Bool × A))) := (80, s80) :: (81, s81) :: env17
theorem env18_ok : EnvOK Try.prog (look env18) := (env_cons s80_at (env_cons s81_at env17_ok))
noncomputable def cfg18 : Cfg := mkCfg tab [] xts (look env18)
theorem cfg18_ok : CfgOK Try.prog cfg18 := cfg_ok tab_eq (no_fts _) xts_ok env18_ok mixed
noncomputable def env19 : List (Nat × (List A → Option (Bool × A))) := (54, auto cfg18 Try.f54) :: (52, auto cfg18 Try.f52) :: env18
theorem env19_ok : EnvOK Try.prog (look env19) := (env_cons (auto_at cfg18_ok Try.func54 (by kernel_rfl) (by kernel_rfl)) (env_cons (auto_at cfg18_ok Try.func52 (by kernel_rfl) (by kernel_rfl)) env18_ok))
noncomputable def cfg19 : Cfg := mkCfg tab [] xts (look env19)
theorem cfg19_ok : CfgOK Try.prog cfg19 := cfg_ok tab_eq (no_fts _) xts_ok env19_ok mixed
noncomputable def env20 : List (Nat × (List A → Option (Bool × A))) := (16, auto cfg19 Try.f16) :: (18, auto cfg19 Try.f18) :: env19
theorem env20_ok : EnvOK Try.prog (look env20) := (env_cons (auto_at cfg19_ok Try.func16 (by kernel_rfl) (by kernel_rfl)) (env_cons (auto_at cfg19_ok Try.func18 (by kernel_rfl) (by kernel_rfl)) env19_ok))
noncomputable def cfg20 : Cfg := mkCfg tab [] xts (look env20)
theorem cfg20_ok : CfgOK Try.prog cfg20 := cfg_ok tab_eq (no_fts _) xts_ok env20_ok mixed

theorem valBits_eq {x : Nat} (h : Canon .f32 x) : valBits x = Int.ofNat x := by
  have h1 := canon_lt h
  unfold valBits
  rw [nan_eq]
  cases hn : isNaN .f32 x
  · exact wrap_nat (by omega)
  · rw [h1.2 hn]; rfl
theorem bits95_eq {x y : Nat} (hx : Canon .f32 x) (hy : Canon .f32 y) : bits95 x y = decide (x = y) := by
  unfold bits95
  rw [valBits_eq hx, valBits_eq hy]
  by_cases h : x = y
  · subst h; simp
  · simp [h]; omega
theorem same_eq {x y : Nat} (hx : Canon .f32 x) (hy : Canon .f32 y) : same82 x y = bits95 x y := by
  rw [bits95_eq hx hy]
  unfold same82
  rw [nan_eq, nan_eq]
  cases hnx : isNaN .f32 x
  · cases hny : isNaN .f32 y
    · simp only [cond_false]
      cases ho : forder .f32 x y == some .eq
      · by_cases h : x = y
        · subst h; rw [forder_self hnx] at ho; cases ho
        · simp [h]
      · have ho' := eq_of_beq ho
        simp only [cond_true]
        unfold nega
        rw [signbit hnx, signbit hny]
        by_cases hs : (FloatKind.f32.format.read x).neg = (FloatKind.f32.format.read y).neg
        · have := same_bits hx hy ho' hs
          subst this
          simp
        · by_cases h : x = y
          · subst h; exact absurd rfl hs
          · simp only [h, decide_false]
            exact beq_eq_false_iff_ne.2 hs
    · by_cases h : x = y
      · subst h; rw [hnx] at hny; cases hny
      · simp [h]
  · cases hny : isNaN .f32 y
    · by_cases h : x = y
      · subst h; rw [hnx] at hny; cases hny
      · simp [h]
    · have h1 := (canon_lt hx).2 hnx
      have h2 := (canon_lt hy).2 hny
      rw [h1, h2]
      rfl

theorem law3 {a b : A} (ha : CircA a) (hb : CircA b) : PureCall Try.prog 3 [a, b] (.bool true) := by
  obtain ⟨n, gn, cn, r, g, c, hs, hca, rfl⟩ := ha
  obtain ⟨n2, gn2, cn2, r2, g2, c2, hs2, hcb, rfl⟩ := hb
  have h : autoLp cfg20 (fun _ => none) Try.f3 [.agg [.ro 1 n (.flts .f32 r), .ro 1 gn (.flts .f32 g), .ro 1 cn (.flts .f32 c)], .agg [.ro 1 n2 (.flts .f32 r2), .ro 1 gn2 (.flts .f32 g2), .ro 1 cn2 (.flts .f32 c2)]] =
    some (bif decide (szC n gn cn 1048576 < 0) then true else bif decide (szC n2 gn2 cn2 (szC n gn cn 1048576) < 0) then true else n.ble 1073741824 && (gn.ble 1073741824 && (cn.ble 1073741824 && true)) && true && (n2.ble 1073741824 && (gn2.ble 1073741824 && (cn2.ble 1073741824 && true)) && ((gn.ble 4611686018427387000 || !sameL (fun k => bits95 (r k) (r2 k)) n n2 == true) && (n.ble 4611686018427387000 && true) && ((cn.ble 4611686018427387000 || !(bif sameL (fun k => bits95 (r k) (r2 k)) n n2 then sameL (fun k => bits95 (g k) (g2 k)) gn gn2 else false) == true) && true) && true && (n.ble 1073741824 && (gn.ble 1073741824 && (cn.ble 1073741824 && true)) && (n2.ble 1073741824 && (gn2.ble 1073741824 && (cn2.ble 1073741824 && true)) && (n.ble 4611686018427387000 && true && ((gn.ble 4611686018427387000 && true || !sameL (fun k => same82 (r k) (r2 k)) n n2 == true) && ((cn.ble 4611686018427387000 && true || !(bif sameL (fun k => same82 (r k) (r2 k)) n n2 then sameL (fun k => same82 (g k) (g2 k)) gn gn2 else false) == true) && true)) && bif !(bif bif sameL (fun k => same82 (r k) (r2 k)) n n2 then sameL (fun k => same82 (g k) (g2 k)) gn gn2 else false then sameL (fun k => same82 (c k) (c2 k)) cn cn2 else false) == bif bif sameL (fun k => bits95 (r k) (r2 k)) n n2 then sameL (fun k => bits95 (g k) (g2 k)) gn gn2 else false then sameL (fun k => bits95 (c k) (c2 k)) cn cn2 else false then true else n.ble 1073741824 && (gn.ble 1073741824 && (cn.ble 1073741824 && true)) && true && ((n.ble 4611686018427387904 && bif !eqL n n r r then true else gn.ble 4611686018427387904 && bif !eqL gn gn g g then true else cn.ble 4611686018427387904 && bif !eqL cn cn c c then true else true) && bif !bif !eqL n n r r then false else bif !eqL gn gn g g then false else bif !eqL cn cn c c then false else true then true else n2.ble 1073741824 && (gn2.ble 1073741824 && (cn2.ble 1073741824 && true)) && true && ((n2.ble 4611686018427387904 && bif !eqL n2 n2 r2 r2 then true else gn2.ble 4611686018427387904 && bif !eqL gn2 gn2 g2 g2 then true else cn2.ble 4611686018427387904 && bif !eqL cn2 cn2 c2 c2 then true else true) && bif !bif !eqL n2 n2 r2 r2 then false else bif !eqL gn2 gn2 g2 g2 then false else bif !eqL cn2 cn2 c2 c2 then false else true then true else true))))))), A.bool (bif decide (szC n gn cn 1048576 < 0) then true else bif decide (szC n2 gn2 cn2 (szC n gn cn 1048576) < 0) then true else bif !(bif bif sameL (fun k => same82 (r k) (r2 k)) n n2 then sameL (fun k => same82 (g k) (g2 k)) gn gn2 else false then sameL (fun k => same82 (c k) (c2 k)) cn cn2 else false) == bif bif sameL (fun k => bits95 (r k) (r2 k)) n n2 then sameL (fun k => bits95 (g k) (g2 k)) gn gn2 else false then sameL (fun k => bits95 (c k) (c2 k)) cn cn2 else false then false else bif !bif !eqL n n r r then false else bif !eqL gn gn g g then false else bif !eqL cn cn c c then false else true then false else bif !bif !eqL n2 n2 r2 r2 then false else bif !eqL gn2 gn2 g2 g2 then false else bif !eqL cn2 cn2 c2 c2 then false else true then false else true)) := by kernel_rfl
  have key := (auto_at cfg20_ok Try.func3 (by kernel_rfl) (by kernel_rfl)).2 _ _ _ h
  have e1 : (fun k => same82 (r k) (r2 k)) = (fun k => bits95 (r k) (r2 k)) := funext fun k => same_eq (hca.1 k) (hcb.1 k)
  have e2 : (fun k => same82 (g k) (g2 k)) = (fun k => bits95 (g k) (g2 k)) := funext fun k => same_eq (hca.2.1 k) (hcb.2.1 k)
  have e3 : (fun k => same82 (c k) (c2 k)) = (fun k => bits95 (c k) (c2 k)) := funext fun k => same_eq (hca.2.2 k) (hcb.2.2 k)
  rw [e1, e2, e3] at key
  rcases szC_le (left := 1048576) (by omega) (by omega) hs.1 hs.2.1 hs.2.2 with e | ⟨e0, e⟩
  · rw [e] at key; exact key rfl
  rw [decide_eq_false (p := szC n gn cn 1048576 < 0) (by omega)] at key
  rcases szC_le (left := szC n gn cn 1048576) (by omega) (by omega) hs2.1 hs2.2.1 hs2.2.2 with e' | ⟨e0', e'⟩
  · rw [e'] at key; exact key rfl
  rw [decide_eq_false (p := szC n2 gn2 cn2 (szC n gn cn 1048576) < 0) (by omega)] at key
  have b1 : n ≤ 1048576 := by omega
  have b2 : gn ≤ 1048576 := by omega
  have b3 : cn ≤ 1048576 := by omega
  have b4 : n2 ≤ 1048576 := by omega
  have b5 : gn2 ≤ 1048576 := by omega
  have b6 : cn2 ≤ 1048576 := by omega
  clear e e' e0 e0' h
  simp only [eqL_self, beq_self_eq_true, Bool.not_true, cond_false, Bool.and_true, Bool.true_or, ble_of (Nat.le_trans b1 (show 1048576 ≤ 1073741824 by omega)), ble_of (Nat.le_trans b2 (show 1048576 ≤ 1073741824 by omega)), ble_of (Nat.le_trans b3 (show 1048576 ≤ 1073741824 by omega)),
    ble_of (Nat.le_trans b4 (show 1048576 ≤ 1073741824 by omega)), ble_of (Nat.le_trans b5 (show 1048576 ≤ 1073741824 by omega)), ble_of (Nat.le_trans b6 (show 1048576 ≤ 1073741824 by omega)),
    ble_of (Nat.le_trans b1 (show 1048576 ≤ 4611686018427387904 by omega)), ble_of (Nat.le_trans b2 (show 1048576 ≤ 4611686018427387904 by omega)), ble_of (Nat.le_trans b3 (show 1048576 ≤ 4611686018427387904 by omega)),
    ble_of (Nat.le_trans b4 (show 1048576 ≤ 4611686018427387904 by omega)), ble_of (Nat.le_trans b5 (show 1048576 ≤ 4611686018427387904 by omega)), ble_of (Nat.le_trans b6 (show 1048576 ≤ 4611686018427387904 by omega)),
    ble_of (Nat.le_trans b1 (show 1048576 ≤ 4611686018427387000 by omega)), ble_of (Nat.le_trans b2 (show 1048576 ≤ 4611686018427387000 by omega)), ble_of (Nat.le_trans b3 (show 1048576 ≤ 4611686018427387000 by omega))] at key
  exact key trivial
end Go.Fw.C1

/-
  Slices written into; circuits copied.
-/
namespace Go.Fw.C1
open Go.Proofs

theorem of_autoS {cfg : Cfg} (hc : CfgOK Try.prog cfg) {f : Nat} {fn : Func} {lp : Nat → Option (St → T)} {sel : Bool} (hlp : LpOK Try.prog lp (bodyOf fn)) (hf : Try.prog.funcs[f]? = some fn) (hb : fn.body.isSome = true) (hn : (fn.name == "runtime.NumGoroutine") = false)
    {s : List A → Option (Bool × A)} (h : ∀ ds c r, s ds = some (c, r) → c = true → ∃ c', autoS cfg lp sel fn ds = some (c', r) ∧ c' = true) : EnvAt Try.prog f s :=
  ⟨⟨fn, hf, hb, hn⟩, fun ds c r hs hct => by
    obtain ⟨c', h1, h2⟩ := h ds c r hs hct
    exact (autoS_at hc hlp hf hb hn).2 ds c' r h1 h2⟩

/-- Place k holds k0 + k. -/
def heldAt (g : Nat → Nat) (k0 k : Nat) : Bool := forder .f32 (g k) (fofInt .f32 (Int.ofNat (k0 + k))) != some .eq
noncomputable def I70 (m k0 : Nat) (g : Nat → Nat) (k : Nat) : List A := [.ro 1 m (.flts .f32 g), .int .i64 (Int.ofNat (k0 + k)), .int .i64 (Int.ofNat 0), .int .i64 (Int.ofNat k)]
theorem round70 (m k0 : Nat) (g : Nat → Nat) (k : Nat) (L : XK → List A → List (Option O) → Prop) :
    ((exec cfg20 (fun _ => true) (fun _ => none) 0 1000 (loopOf Try.f70 0) (litSt Try.f70.ntmps 32 [0, 1, 4, 5] [] (I70 m k0 g k) [])).rt [0, 1, 4, 5] []).Ok L =
    bif decide (Int.ofNat k < Int.ofNat m) then
      bif decide (Int.ofNat k < Int.ofNat m) then
        bif forder FloatKind.f32 (g k) (fofInt FloatKind.f32 (Int.ofNat (k0 + k))) != some Ordering.eq then
          L (XK.ret) [A.ro 1 m (Row.flts FloatKind.f32 g), A.int IntKind.i64 (Int.ofNat (k0 + k)), A.int IntKind.i64 (Int.negSucc 0), A.int IntKind.i64 (Int.ofNat k)] []
        else
          L (XK.normal) [A.ro 1 m (Row.flts FloatKind.f32 g), A.int IntKind.i64 (IntKind.i64.wrap (Int.ofNat (k0 + k) + Int.ofNat 1)), A.int IntKind.i64 (Int.ofNat 0), A.int IntKind.i64 (IntKind.i64.wrap (Int.ofNat k + Int.ofNat 1))] []
      else
        False
    else
      L (XK.exit 0) [A.ro 1 m (Row.flts FloatKind.f32 g), A.int IntKind.i64 (Int.ofNat (k0 + k)), A.int IntKind.i64 (Int.ofNat 0), A.int IntKind.i64 (Int.ofNat k)] [] := by kernel_rfl
noncomputable def F70 : List A → List (Option O) → Option R3
  | [.ro 1 m (.flts .f32 g), .int .i64 (.ofNat k0), .int .i64 0, .int .i64 0], [] => some (.ite (Nat.ble m 1048577 && Nat.ble k0 1000000000) (.ite (allUpTo (fun k => !heldAt g k0 k) (m)) (.leaf .normal (I70 m k0 g (m)) []) (.leaf (.ret) ((fun k => [.ro 1 m (.flts .f32 g), .int .i64 (Int.ofNat (k0 + k)), .int .i64 (Int.negSucc 0), .int .i64 (Int.ofNat k)]) (firstIdx (fun k => !heldAt g k0 k) (m))) [])) .fail)
  | _, _ => none
theorem loop70 : CodeOK Try.prog (fun _ σ => sumAt Try.f70.ntmps 32 [0, 1, 4, 5] [] F70 σ) (.block 0 (.loop (loopOf Try.f70 0))) := by
  refine block_ok (own := fun _ => true) (lp := (fun _ => none)) (un := 0) (fuel := 1000) cfg20_ok (lp_none _) fun az os R hF hok => ?_
  unfold F70 at hF
  split at hF
  · rename_i m g k0
    injection hF with hF
    subst hF
    have hg := hok.guard
    have hg' := hg
    simp only [Bool.and_eq_true, Nat.ble_eq, Nat.beq_eq, decide_eq_true_eq] at hg'
    obtain ⟨hm, hk0⟩ := hg'
    refine for_fact0 (fun k => !heldAt g k0 k) (m) (I70 m k0 g) _ (.ret) (fun k => [.ro 1 m (.flts .f32 g), .int .i64 (Int.ofNat (k0 + k)), .int .i64 (Int.negSucc 0), .int .i64 (Int.ofNat k)]) (fun k => [.ro 1 m (.flts .f32 g), .int .i64 (Int.ofNat (k0 + k)), .int .i64 (Int.negSucc 0), .int .i64 (Int.ofNat k)]) (I70 m k0 g (m)) rfl (fun _ => rfl) (fun _ => ALe.self _) (fun _ => rfl) (ALe.self _) rfl (fun h => by cases h) (fun k hk L h1 h2 h3 => ?_) fun L hL => ?_
    · rw [round70]
      by_cases hkm : k < m
      · refine condT (lt_dec hkm) ?_
        refine condT (lt_dec hkm) ?_
        show cond (heldAt g k0 k) _ _
        cases hs : heldAt g k0 k
        · have := h1 hkm (by rw [hs]; rfl)
          rw [wrap_succ (by omega), wrap_succ (by omega), Nat.add_assoc]
          exact this
        · exact h2 hkm (by rw [hs]; rfl)
      · refine condE (ge_dec (by omega)) ?_
        obtain rfl : k = m := by omega
        exact h3 rfl
    · exact ⟨fun h => (hL.1 hg).1 h, fun N hN hf hall => by
        have := (hL.1 hg).2 (allUpTo_false hN hf)
        rw [firstIdx_eq hN hf hall] at this
        exact this⟩
  · cases hF

theorem auto91 (n : Nat) (r : Nat → Nat) : autoS cfg20 (fun _ => none) false Try.f91 [.ro 1 n (.flts .f32 r)] =
    some (decide (0 < n) && (decide (0 + n ≤ 1073741824) && true), A.ro 1 (0 + n) (Row.flts FloatKind.f32 r)) := by kernel_rfl
noncomputable def s91 : List A → Option (Bool × A)
  | [.ro 1 n (.flts .f32 r)] => some (decide (0 < n) && decide (n ≤ 1073741824), .ro 1 n (.flts .f32 r))
  | _ => none
theorem s91_at : EnvAt Try.prog 91 s91 := of_autoS cfg20_ok (lp_none _) Try.func91 (by kernel_rfl) (by kernel_rfl) fun ds cc rr h hc => by
  unfold s91 at h
  split at h
  · rename_i n r
    simp only [Option.some.injEq, Prod.mk.injEq] at h
    obtain ⟨rfl, rfl⟩ := h
    refine auto_fit (auto91 n r) ?_ ?_
    · rw [Nat.zero_add]
    · simpa using hc
  · cases h

noncomputable def env21 : List (Nat × (List A → Option (Bool × A))) := (91, s91) :: (64, auto cfg20 Try.f64) :: env20
theorem env21_ok : EnvOK Try.prog (look env21) := (env_cons s91_at (env_cons (auto_at cfg20_ok Try.func64 (by kernel_rfl) (by kernel_rfl)) env20_ok))
noncomputable def cfg21 : Cfg := mkCfg tab [] xts (look env21)
theorem cfg21_ok : CfgOK Try.prog cfg21 := cfg_ok tab_eq (no_fts _) xts_ok env21_ok mixed
theorem auto67 (n gn cn : Nat) (r g c : Nat → Nat) : autoLp cfg21 (fun _ => none) Try.f67 [.agg [.ro 1 n (.flts .f32 r), .ro 1 gn (.flts .f32 g), .ro 1 cn (.flts .f32 c)]] =
    some (decide (0 < gn) && decide (gn ≤ 1073741824) && (decide (0 < n) && decide (n ≤ 1073741824) && true) && (decide (0 < cn) && decide (cn ≤ 1073741824) && true), A.agg [A.ro 1 n (Row.flts FloatKind.f32 r), A.ro 1 gn (Row.flts FloatKind.f32 g), A.ro 1 cn (Row.flts FloatKind.f32 c)]) := by kernel_rfl
noncomputable def s67 : List A → Option (Bool × A)
  | [.agg [.ro 1 n (.flts .f32 r), .ro 1 gn (.flts .f32 g), .ro 1 cn (.flts .f32 c)]] => some (decide (0 < n) && decide (n ≤ 1073741824) && (decide (0 < gn) && decide (gn ≤ 1073741824)) && (decide (0 < cn) && decide (cn ≤ 1073741824)), .agg [.ro 1 n (.flts .f32 r), .ro 1 gn (.flts .f32 g), .ro 1 cn (.flts .f32 c)])
  | _ => none
theorem s67_at : EnvAt Try.prog 67 s67 := of_auto cfg21_ok (lp_none _) Try.func67 (by kernel_rfl) (by kernel_rfl) fun ds cc rr h hc => by
  unfold s67 at h
  split at h
  · rename_i n r gn g cn c
    simp only [Option.some.injEq, Prod.mk.injEq] at h
    obtain ⟨rfl, rfl⟩ := h
    refine auto_fit (auto67 n gn cn r g c) ?_ ?_
    · rfl
    · simp only [Bool.and_eq_true, decide_eq_true_eq] at hc; simp [hc]
  · cases h

/-- 'ifCircuit' is walked in place. -/
noncomputable def fts68 : List (Nat × Func) := [(68, Try.f68)]
theorem fts68_ok (f : Nat) (fn : Func) (h : (f, fn) ∈ fts68) : Try.prog.funcs[f]? = some fn ∧ (fn.name == "runtime.NumGoroutine") = false := by
  simp only [fts68, List.mem_cons, Prod.mk.injEq, List.not_mem_nil, or_false] at h
  obtain ⟨rfl, rfl⟩ := h
  exact ⟨Try.func68, by kernel_rfl⟩
noncomputable def env22 : List (Nat × (List A → Option (Bool × A))) := (67, s67) :: env21
theorem env22_ok : EnvOK Try.prog (look env22) := env_cons s67_at env21_ok
noncomputable def cfg22 : Cfg := mkCfg tab fts68 xts (look env22)
theorem cfg22_ok : CfgOK Try.prog cfg22 := cfg_ok tab_eq fts68_ok xts_ok env22_ok mixed

noncomputable def tuneNo (n gn cn : Nat) (r g c : Nat → Nat) (i : Int) (w : Nat) : Bool := bif loopNo n gn cn r g c i then true else !above w
noncomputable def tuneG (n : Nat) (g c : Nat → Nat) (i : Int) (w : Nat) (j : Nat) : Nat := match decide (j = i.toNat) with
  | true => fop .mul .f32 (fop .mul .f32 w w) (c (ixI n i i))
  | false => g j
noncomputable def tuneOk (n gn cn : Nat) (r g c : Nat → Nat) (i : Int) (w : Nat) : Bool := !tuneNo n gn cn r g c i w && valid n gn cn r (tuneG n g c i w) c
theorem tune_sizes {n gn cn : Nat} {r g c : Nat → Nat} {i : Int} {w : Nat} (h : tuneNo n gn cn r g c i w = false) : ∃ a, i = Int.ofNat a ∧ a < n ∧ 1 ≤ n ∧ n ≤ 6 ∧ gn = n ∧ cn = n * n := by
  unfold tuneNo at h
  cases hl : loopNo n gn cn r g c i
  · obtain ⟨a, h1, h2, h3, h4, h5⟩ := loop_ok hl
    exact ⟨a, h1, h2, by omega, h3, h4, h5⟩
  · rw [hl] at h; cases h
theorem tune_assert {n gn cn : Nat} {r g c : Nat → Nat} {i : Int} {w : Nat} (h : tuneNo n gn cn r g c i w = false) : (decide (0 < n) && decide (n ≤ 1073741824)) = true ∧ (decide (0 < gn) && decide (gn ≤ 1073741824)) = true ∧ (decide (0 < cn) && decide (cn ≤ 1073741824)) = true ∧
    (decide (0 ≤ IntKind.i64.wrap (IntKind.i64.wrap (i * Int.ofNat n) + i)) && decide (IntKind.i64.wrap (IntKind.i64.wrap (i * Int.ofNat n) + i) < Int.ofNat cn)) = true ∧ (decide (0 ≤ i) && decide (i < Int.ofNat gn)) = true := by
  obtain ⟨a, rfl, ha, h1, h2, h3, h4⟩ := tune_sizes h
  have h5 := sq_le h2
  have h6 : 1 * 1 ≤ n * n := Nat.mul_le_mul h1 h1
  rw [wrap_ix ha ha h2, h3, h4]
  refine ⟨?_, ?_, ?_, ?_, ?_⟩
  · simp; omega
  · simp; omega
  · simp only [Bool.and_eq_true, decide_eq_true_eq]; omega
  · rw [dec0, lt_dec (ix_lt ha ha h2)]; rfl
  · rw [dec0, lt_dec ha]; rfl
theorem tuneNo_eq (n gn cn : Nat) (r g c : Nat → Nat) (i : Int) (w : Nat) : (bif !bif valid n gn cn r g c then inn n i else false then true else !above w) = tuneNo n gn cn r g c i w := by
  unfold tuneNo
  rw [← loopNo_eq]
theorem auto30T (n gn cn : Nat) (r g c : Nat → Nat) (i : Int) (w : Nat) : autoS cfg22 (fun _ => none) false Try.f30 [.agg [.ro 1 n (.flts .f32 r), .ro 1 gn (.flts .f32 g), .ro 1 cn (.flts .f32 c)], .int .i64 i, .flt .f32 w] =
    some   ((!bif bif !valid n gn cn r g c then true else !bif decide (i ≥ 0) then decide (i ≤ IntKind.i64.wrap (Int.ofNat n - 1)) else false then true else !above w) &&       (decide (0 < gn) && decide (gn ≤ 1073741824) && (decide (0 < n) && decide (n ≤ 1073741824) && true) && (decide (0 < cn) && decide (cn ≤ 1073741824) && true) &&         (decide (0 ≤ IntKind.i64.wrap (IntKind.i64.wrap (i * Int.ofNat n) + i)) && decide (IntKind.i64.wrap (IntKind.i64.wrap (i * Int.ofNat n) + i) < Int.ofNat cn) && true &&           (decide (0 ≤ i) && decide (i < Int.ofNat gn) &&             (!!valid n gn cn r                     (fun j =>                       match decide (j = i.toNat) with                       | true => fop BinOp.mul FloatKind.f32 (fop BinOp.mul FloatKind.f32 w w) (c (IntKind.i64.wrap (IntKind.i64.wrap (i * Int.ofNat n) + i)).toNat)                       | false => g j)                     c &&               true)))),     A.tup       [A.agg           [A.ro 1 n (Row.flts FloatKind.f32 r),             A.ro 1 gn               (Row.flts FloatKind.f32 fun j =>                 match decide (j = i.toNat) with                 | true => fop BinOp.mul FloatKind.f32 (fop BinOp.mul FloatKind.f32 w w) (c (IntKind.i64.wrap (IntKind.i64.wrap (i * Int.ofNat n) + i)).toNat)                 | false => g j),             A.ro 1 cn (Row.flts FloatKind.f32 c)],         A.bool true]) := by kernel_rfl
noncomputable def s30T : List A → Option (Bool × A)
  | [.agg [.ro 1 n (.flts .f32 r), .ro 1 gn (.flts .f32 g), .ro 1 cn (.flts .f32 c)], .int .i64 i, .flt .f32 w] => some (tuneOk n gn cn r g c i w, .tup [.agg [.ro 1 n (.flts .f32 r), .ro 1 gn (.flts .f32 (tuneG n g c i w)), .ro 1 cn (.flts .f32 c)], .bool true])
  | _ => none
theorem s30T_at : EnvAt Try.prog 30 s30T := of_autoS cfg22_ok (lp_none _) Try.func30 (by kernel_rfl) (by kernel_rfl) fun ds cc rr h hc => by
  unfold s30T at h
  split at h
  · rename_i n r gn g cn c i w
    simp only [Option.some.injEq, Prod.mk.injEq] at h
    obtain ⟨rfl, rfl⟩ := h
    refine auto_fit (auto30T n gn cn r g c i w) ?_ ?_
    · rfl
    · simp only [tuneOk, Bool.and_eq_true, Bool.not_eq_true'] at hc
      obtain ⟨h1, h2, h3, h4, h5⟩ := tune_assert hc.1
      show ((!tuneNo n gn cn r g c i w) && ((decide (0 < gn) && decide (gn ≤ 1073741824)) && ((decide (0 < n) && decide (n ≤ 1073741824)) && true) && ((decide (0 < cn) && decide (cn ≤ 1073741824)) && true) && ((decide (0 ≤ IntKind.i64.wrap (IntKind.i64.wrap (i * Int.ofNat n) + i)) && decide (IntKind.i64.wrap (IntKind.i64.wrap (i * Int.ofNat n) + i) < Int.ofNat cn)) && true && ((decide (0 ≤ i) && decide (i < Int.ofNat gn)) && (!!valid n gn cn r (tuneG n g c i w) c && true))))) = true
      rw [h1, h2, h3, h4, h5, hc.1, hc.2]
      rfl
  · cases h

theorem auto30F (n gn cn : Nat) (r g c : Nat → Nat) (i : Int) (w : Nat) : autoS cfg22 (fun _ => none) true Try.f30 [.agg [.ro 1 n (.flts .f32 r), .ro 1 gn (.flts .f32 g), .ro 1 cn (.flts .f32 c)], .int .i64 i, .flt .f32 w] =
    some   (bif bif bif !valid n gn cn r g c then true else !bif decide (i ≥ 0) then decide (i ≤ IntKind.i64.wrap (Int.ofNat n - 1)) else false then true else !above w then true     else       decide (0 < gn) && decide (gn ≤ 1073741824) && (decide (0 < n) && decide (n ≤ 1073741824) && true) && (decide (0 < cn) && decide (cn ≤ 1073741824) && true) &&         (decide (0 ≤ IntKind.i64.wrap (IntKind.i64.wrap (i * Int.ofNat n) + i)) && decide (IntKind.i64.wrap (IntKind.i64.wrap (i * Int.ofNat n) + i) < Int.ofNat cn) && true &&           (decide (0 ≤ i) && decide (i < Int.ofNat gn) &&             (!valid n gn cn r                   (fun j =>                     match decide (j = i.toNat) with                     | true => fop BinOp.mul FloatKind.f32 (fop BinOp.mul FloatKind.f32 w w) (c (IntKind.i64.wrap (IntKind.i64.wrap (i * Int.ofNat n) + i)).toNat)                     | false => g j)                   c &&               true))),     A.tup [A.agg [A.emp, A.emp, A.emp], A.bool (bif bif bif !valid n gn cn r g c then true else !bif decide (i ≥ 0) then decide (i ≤ IntKind.i64.wrap (Int.ofNat n - 1)) else false then true else !above w then false else false)]) := by kernel_rfl
noncomputable def s30F : List A → Option (Bool × A)
  | [.agg [.ro 1 n (.flts .f32 r), .ro 1 gn (.flts .f32 g), .ro 1 cn (.flts .f32 c)], .int .i64 i, .flt .f32 w] => some (!tuneOk n gn cn r g c i w, .tup [.agg [.emp, .emp, .emp], .bool false])
  | _ => none
theorem s30F_at : EnvAt Try.prog 30 s30F := of_autoS cfg22_ok (lp_none _) Try.func30 (by kernel_rfl) (by kernel_rfl) fun ds cc rr h hc => by
  unfold s30F at h
  split at h
  · rename_i n r gn g cn c i w
    simp only [Option.some.injEq, Prod.mk.injEq] at h
    obtain ⟨rfl, rfl⟩ := h
    refine auto_fit (auto30F n gn cn r g c i w) ?_ ?_
    · simp
    · show (bif tuneNo n gn cn r g c i w then true else ((decide (0 < gn) && decide (gn ≤ 1073741824)) && ((decide (0 < n) && decide (n ≤ 1073741824)) && true) && ((decide (0 < cn) && decide (cn ≤ 1073741824)) && true) && ((decide (0 ≤ IntKind.i64.wrap (IntKind.i64.wrap (i * Int.ofNat n) + i)) && decide (IntKind.i64.wrap (IntKind.i64.wrap (i * Int.ofNat n) + i) < Int.ofNat cn)) && true && ((decide (0 ≤ i) && decide (i < Int.ofNat gn)) && (!valid n gn cn r (tuneG n g c i w) c && true))))) = true
      cases ht : tuneNo n gn cn r g c i w
      · obtain ⟨h1, h2, h3, h4, h5⟩ := tune_assert ht
        rw [h1, h2, h3, h4, h5]
        unfold tuneOk at hc
        rw [ht] at hc
        simpa using hc
      · rfl
  · cases h

theorem auto31T (n gn cn : Nat) (r g c : Nat → Nat) (i : Int) (w : Nat) : autoS cfg22 (fun _ => none) false Try.f31 [.agg [.ro 1 n (.flts .f32 r), .ro 1 gn (.flts .f32 g), .ro 1 cn (.flts .f32 c)], .int .i64 i, .flt .f32 w] =
    some   ((!bif !bif valid n gn cn r g c then bif decide (i ≥ 0) then decide (i ≤ IntKind.i64.wrap (Int.ofNat n - 1)) else false else false then true else !above w) &&       (decide (0 < n) && decide (n ≤ 1073741824) && (decide (0 < gn) && decide (gn ≤ 1073741824)) && (decide (0 < cn) && decide (cn ≤ 1073741824)) &&         (decide (0 ≤ IntKind.i64.wrap (IntKind.i64.wrap (i * Int.ofNat n) + i)) && decide (IntKind.i64.wrap (IntKind.i64.wrap (i * Int.ofNat n) + i) < Int.ofNat cn) && true && true &&           (decide (0 ≤ i) && decide (i < Int.ofNat gn) &&             (!!valid n gn cn r                     (fun j =>                       match decide (j = i.toNat) with                       | true => fop BinOp.mul FloatKind.f32 (fop BinOp.mul FloatKind.f32 w w) (c (IntKind.i64.wrap (IntKind.i64.wrap (i * Int.ofNat n) + i)).toNat)                       | false => g j)                     c &&               true)))),     A.tup       [A.agg           [A.ro 1 n (Row.flts FloatKind.f32 r),             A.ro 1 gn               (Row.flts FloatKind.f32 fun j =>                 match decide (j = i.toNat) with                 | true => fop BinOp.mul FloatKind.f32 (fop BinOp.mul FloatKind.f32 w w) (c (IntKind.i64.wrap (IntKind.i64.wrap (i * Int.ofNat n) + i)).toNat)                 | false => g j),             A.ro 1 cn (Row.flts FloatKind.f32 c)],         A.bool true]) := by kernel_rfl
noncomputable def s31T : List A → Option (Bool × A)
  | [.agg [.ro 1 n (.flts .f32 r), .ro 1 gn (.flts .f32 g), .ro 1 cn (.flts .f32 c)], .int .i64 i, .flt .f32 w] => some (tuneOk n gn cn r g c i w, .tup [.agg [.ro 1 n (.flts .f32 r), .ro 1 gn (.flts .f32 (tuneG n g c i w)), .ro 1 cn (.flts .f32 c)], .bool true])
  | _ => none
theorem s31T_at : EnvAt Try.prog 31 s31T := of_autoS cfg22_ok (lp_none _) Try.func31 (by kernel_rfl) (by kernel_rfl) fun ds cc rr h hc => by
  unfold s31T at h
  split at h
  · rename_i n r gn g cn c i w
    simp only [Option.some.injEq, Prod.mk.injEq] at h
    obtain ⟨rfl, rfl⟩ := h
    refine auto_fit (auto31T n gn cn r g c i w) ?_ ?_
    · rfl
    · simp only [tuneOk, Bool.and_eq_true, Bool.not_eq_true'] at hc
      obtain ⟨h1, h2, h3, h4, h5⟩ := tune_assert hc.1
      show ((!(bif !bif valid n gn cn r g c then inn n i else false then true else !above w)) && ((decide (0 < n) && decide (n ≤ 1073741824)) && (decide (0 < gn) && decide (gn ≤ 1073741824)) && (decide (0 < cn) && decide (cn ≤ 1073741824)) && ((decide (0 ≤ IntKind.i64.wrap (IntKind.i64.wrap (i * Int.ofNat n) + i)) && decide (IntKind.i64.wrap (IntKind.i64.wrap (i * Int.ofNat n) + i) < Int.ofNat cn)) && true && true && ((decide (0 ≤ i) && decide (i < Int.ofNat gn)) && (!!valid n gn cn r (tuneG n g c i w) c && true))))) = true
      rw [h1, h2, h3, h4, h5, tuneNo_eq, hc.1, hc.2]
      rfl
  · cases h

theorem auto31F (n gn cn : Nat) (r g c : Nat → Nat) (i : Int) (w : Nat) : autoS cfg22 (fun _ => none) true Try.f31 [.agg [.ro 1 n (.flts .f32 r), .ro 1 gn (.flts .f32 g), .ro 1 cn (.flts .f32 c)], .int .i64 i, .flt .f32 w] =
    some   (bif bif !bif valid n gn cn r g c then bif decide (i ≥ 0) then decide (i ≤ IntKind.i64.wrap (Int.ofNat n - 1)) else false else false then true else !above w then true     else       decide (0 < n) && decide (n ≤ 1073741824) && (decide (0 < gn) && decide (gn ≤ 1073741824)) && (decide (0 < cn) && decide (cn ≤ 1073741824)) &&         (decide (0 ≤ IntKind.i64.wrap (IntKind.i64.wrap (i * Int.ofNat n) + i)) && decide (IntKind.i64.wrap (IntKind.i64.wrap (i * Int.ofNat n) + i) < Int.ofNat cn) && true && true &&           (decide (0 ≤ i) && decide (i < Int.ofNat gn) &&             (!valid n gn cn r                   (fun j =>                     match decide (j = i.toNat) with                     | true => fop BinOp.mul FloatKind.f32 (fop BinOp.mul FloatKind.f32 w w) (c (IntKind.i64.wrap (IntKind.i64.wrap (i * Int.ofNat n) + i)).toNat)                     | false => g j)                   c &&               true))),     A.tup [A.agg [A.emp, A.emp, A.emp], A.bool (bif bif !bif valid n gn cn r g c then bif decide (i ≥ 0) then decide (i ≤ IntKind.i64.wrap (Int.ofNat n - 1)) else false else false then true else !above w then false else false)]) := by kernel_rfl
noncomputable def s31F : List A → Option (Bool × A)
  | [.agg [.ro 1 n (.flts .f32 r), .ro 1 gn (.flts .f32 g), .ro 1 cn (.flts .f32 c)], .int .i64 i, .flt .f32 w] => some (!tuneOk n gn cn r g c i w, .tup [.agg [.emp, .emp, .emp], .bool false])
  | _ => none
theorem s31F_at : EnvAt Try.prog 31 s31F := of_autoS cfg22_ok (lp_none _) Try.func31 (by kernel_rfl) (by kernel_rfl) fun ds cc rr h hc => by
  unfold s31F at h
  split at h
  · rename_i n r gn g cn c i w
    simp only [Option.some.injEq, Prod.mk.injEq] at h
    obtain ⟨rfl, rfl⟩ := h
    refine auto_fit (auto31F n gn cn r g c i w) ?_ ?_
    · simp
    · show (bif (bif !bif valid n gn cn r g c then inn n i else false then true else !above w) then true else ((decide (0 < n) && decide (n ≤ 1073741824)) && (decide (0 < gn) && decide (gn ≤ 1073741824)) && (decide (0 < cn) && decide (cn ≤ 1073741824)) && ((decide (0 ≤ IntKind.i64.wrap (IntKind.i64.wrap (i * Int.ofNat n) + i)) && decide (IntKind.i64.wrap (IntKind.i64.wrap (i * Int.ofNat n) + i) < Int.ofNat cn)) && true && true && ((decide (0 ≤ i) && decide (i < Int.ofNat gn)) && (!valid n gn cn r (tuneG n g c i w) c && true))))) = true
      rw [tuneNo_eq]
      cases ht : tuneNo n gn cn r g c i w
      · obtain ⟨h1, h2, h3, h4, h5⟩ := tune_assert ht
        rw [h1, h2, h3, h4, h5]
        unfold tuneOk at hc
        rw [ht] at hc
        simpa using hc
      · rfl
  · cases h

end Go.Fw.C1
