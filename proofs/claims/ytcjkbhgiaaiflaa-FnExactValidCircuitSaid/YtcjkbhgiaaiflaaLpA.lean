/-
  The seat's tables.
-/
import Derived.Test.YtcjkbhgiaaiflaaFwB
import Derived.Test.YtcjkbhgiaaiflaaChecked

namespace Go.Fw.C1
open Go.Proofs

def types : List Nat := [41, 45, 4, 3, 2, 22, 27, 37, 24, 33, 85, 84, 50, 97, 102, 104]
def tab : List (Nat × TI) :=
  [(41, { bytes := 4, zero := [A.flt FloatKind.f32 0], fk := some FloatKind.f32 }),
      (45, { bytes := 8, zero := [A.flt FloatKind.f64 0], fk := some FloatKind.f64 }),
      (4, { bytes := 1, zero := [A.bool false], isBool := true }),
      (3, { bytes := 8, zero := [A.int IntKind.i64 (Int.ofNat 0)], ik := some IntKind.i64 }),
      (2, { bytes := 8, zero := [A.int IntKind.i64 (Int.ofNat 0)], ik := some IntKind.i64 }),
      (22, { bytes := 24, zero := [A.emp], elem := some 41 }),
      (27, { agg := true, size := 3, bytes := 72, zero := [A.emp, A.emp, A.emp], fields := [(0, 1), (1, 1), (2, 1)] }),
      (37,
        { agg := true, size := 5, bytes := 120, zero := [A.emp, A.emp, A.emp, A.emp, A.emp],
          fields := [(0, 3), (3, 1), (4, 1)] }),
      (24, { agg := true, size := 3, bytes := 72, zero := [A.emp, A.emp, A.emp], fields := [(0, 1), (1, 1), (2, 1)] }),
      (33,
        { agg := true, size := 5, bytes := 120, zero := [A.emp, A.emp, A.emp, A.emp, A.emp],
          fields := [(0, 3), (3, 1), (4, 1)] }),
      (85, { bytes := 8, zero := [A.cpx FloatKind.f32 0 0], ck := some FloatKind.f32 }),
      (84, { bytes := 16, zero := [A.cpx FloatKind.f64 0 0], ck := some FloatKind.f64 }),
      (50, { bytes := 24, zero := [A.emp], elem := some 85 }), (97, { bytes := 24, zero := [A.emp], elem := some 22 }),
      (102, { bytes := 8, zero := [A.int IntKind.u64 (Int.ofNat 0)], ik := some IntKind.u64 }),
      (104, { bytes := 4, zero := [A.int IntKind.u32 (Int.ofNat 0)], ik := some IntKind.u32 })]
theorem tab_eq : tabOf Try.prog types = some tab := by kernel_rfl

theorem mixed : Try.prog.follows .mixedOrders = true := by kernel_rfl

end Go.Fw.C1

/-
  Slices of floats: copied.
-/
namespace Go.Fw.C1
open Go.Proofs

noncomputable def cfgN : Cfg := mkCfg tab [] [] (look [])

theorem cfgN_ok : CfgOK Try.prog cfgN := cfg_ok tab_eq (fun f fn h => by cases h) (fun f e h => by cases h) (fun f s h => by cases h) mixed

theorem wrap_small {x : Int} (h0 : 0 ≤ x) (h : x ≤ 4611686018427387904) : IntKind.i64.wrap x = x := by
  simp [IntKind.wrap, IntKind.bits, IntKind.signed]
  omega

def F53 : List A → List (Option O) → Option R3
  | [.ro 1 m (.flts .f32 xs), .sl 48 m1, .int .i64 0], [some (.row 41 1 m2 _)] =>
    some (.ite (Nat.beq m1 m && Nat.beq m2 m && Nat.ble m 1073741824) (.leaf .normal [.ro 1 m (.flts .f32 xs), .sl 48 m, .int .i64 (Int.ofNat m)] [.row 41 1 m (.flts .f32 xs)]) .fail)
  | _, _ => none
noncomputable def lp53 : List (Nat × (St → T)) := [(0, sumAt 22 96 [0, 3, 4] [48] F53)]

theorem round53 (m k : Nat) (xs : Nat → Nat) (g : Row A) (L : XK → List A → List (Option O) → Prop) :
    ((exec cfgN (fun _ => false) (fun _ => none) 0 1000 (loopOf Try.f53 0) (litSt 22 96 [0, 3, 4] [48] [.ro 1 m (.flts .f32 xs), .sl 48 m, .int .i64 (Int.ofNat k)] [.row 41 1 m g])).rt [0, 3, 4] [48]).Ok L =
    bif decide (Int.ofNat k < Int.ofNat m) then
      bif true && decide (Int.ofNat k < Int.ofNat m) then
        bif true && decide (Int.ofNat k < Int.ofNat m) then
          L .normal [.ro 1 m (.flts .f32 xs), .sl 48 m, .int .i64 (IntKind.i64.wrap (Int.ofNat k + Int.ofNat 1))]
            [some (.row 41 1 m (.gen fun j => match decide (j = (Int.ofNat k).toNat) with | true => .flt .f32 (xs (Int.ofNat k).toNat) | false => g.at j))]
        else False
      else False
    else L (.exit 0) [.ro 1 m (.flts .f32 xs), .sl 48 m, .int .i64 (Int.ofNat k)] [some (.row 41 1 m g)] := by kernel_rfl

theorem loop53 : CodeOK Try.prog (fun _ σ => sumAt 22 96 [0, 3, 4] [48] F53 σ) (.block 0 (.loop (loopOf Try.f53 0))) := by
  refine block_ok (own := fun _ => false) (lp := fun _ => none) (un := 0) (fuel := 1000) cfgN_ok (lp_none _) fun az os R hF hok => ?_
  unfold F53 at hF
  split at hF
  · rename_i m xs m1 m2 g
    injection hF with hF
    subst hF
    -- at the k-th head the first k places are as they shall be
    have hg := hok.guard
    · have hg' := hg
      simp only [Bool.and_eq_true] at hg'
      have e1 := (Nat.eq_of_beq_eq_true hg'.1.1).symm
      have e2 := (Nat.eq_of_beq_eq_true hg'.1.2).symm
      have e3 := Nat.le_of_ble_eq_true hg'.2
      subst e1 e2
      refine ⟨fun k => [.ro 1 m (.flts .f32 xs), .sl 48 m, .int .i64 (Int.ofNat k)], fun k => [.row 41 1 m (.gen fun i => if i < k then .flt .f32 (xs i) else g.at i)], m,
        fun x az os => x = .exit 0 ∧ az = [.ro 1 m (.flts .f32 xs), .sl 48 m, .int .i64 (Int.ofNat m)] ∧ os = [.row 41 1 m (.flts .f32 xs)], rfl, ⟨⟨41, g, rfl, .inr rfl, fun i _ => by simp [Row.at]⟩, trivial⟩, fun k _ => rfl, fun k => rfl, fun k hk => ?_, ?_⟩
      · rw [round53]
        by_cases hkm : k < m
        · have hd : decide (Int.ofNat k < Int.ofNat m) = true := by simp; omega
          rw [hd, Bool.and_self, cond_true, cond_true, cond_true]
          refine ⟨hkm, ?_, ⟨41, _, rfl, .inr rfl, fun i hi => ?_⟩, trivial⟩
          · rw [wrap_small (by simp; omega) (by simp; omega)]
            rfl
          · show (match decide (i = k) with | true => A.flt .f32 (xs k) | false => if i < k then A.flt .f32 (xs i) else g.at i) = if i < k + 1 then A.flt .f32 (xs i) else g.at i
            by_cases hik : i = k
            · subst hik; simp
            · have : (i < k) = (i < k + 1) := by simp; omega
              simp [hik, this]
        · have hd : decide (Int.ofNat k < Int.ofNat m) = false := by simp; omega
          rw [hd, cond_false]
          have : k = m := by omega
          subst this
          exact ⟨_, [.row 41 1 k (.flts .f32 xs)], ALe.self _, ⟨⟨41, _, rfl, .inr rfl, fun i hi => by simp [Row.at, hi]⟩, trivial⟩, rfl, rfl, rfl, rfl⟩
      · rintro x az os ⟨rfl, rfl, rfl⟩ L hL
        exact hL.1 hg
  · cases hF

theorem res53 (m : Nat) (xs : Nat → Nat) :
    (exec cfgN (fun _ => false) (look lp53) 0 1000 (bodyOf Try.f53) (St.enter Try.f53 [.ro 1 m (.flts .f32 xs)] [] 0)).res cfgN Try.f53 =
    bif decide (Int.ofNat m ≤ 1073741824) then bif Nat.beq (Int.ofNat m).toNat m && Nat.beq (Int.ofNat m).toNat m && Nat.ble m 1073741824 then some (.ro 1 m (.flts .f32 xs)) else none else none := by kernel_rfl

/-- 'toFloat32S'. -/
theorem pure53 {m : Nat} {xs : Nat → Nat} (hm : m ≤ 1073741824) : PureCall Try.prog 53 [.ro 1 m (.flts .f32 xs)] (.ro 1 m (.flts .f32 xs)) := by
  have hres := res53 m xs
  rw [show decide (Int.ofNat m ≤ 1073741824) = true by simp; omega, show (Nat.beq (Int.ofNat m).toNat m && Nat.beq (Int.ofNat m).toNat m && Nat.ble m 1073741824) = true by simp [Nat.ble_eq]; omega] at hres
  refine contract cfgN_ok Try.func53 (by kernel_rfl) (by kernel_rfl) (lp_loops (by kernel_rfl) (by kernel_rfl) fun p hp => ?_) hres (plain_flts _ _ _)
  rw [List.mem_singleton.1 hp]
  exact loop53
end Go.Fw.C1

/-
  Floats compared.
-/
namespace Go.Fw.C1
open Go.Proofs

def xts : List (Nat × Ext) := [(98, .sqrt), (100, .bits64), (101, .bits32)]
theorem xts_ok (f : Nat) (e : Ext) (h : (f, e) ∈ xts) : ∃ fn, XtOK Try.prog f e fn := by
  simp only [xts, List.mem_cons, Prod.mk.injEq, List.not_mem_nil, or_false] at h
  rcases h with ⟨rfl, rfl⟩ | ⟨rfl, rfl⟩ | ⟨rfl, rfl⟩
  · exact ⟨_, Try.func98, by kernel_rfl, by kernel_rfl, by kernel_rfl, by kernel_rfl⟩
  · exact ⟨_, Try.func100, by kernel_rfl, by kernel_rfl, by kernel_rfl, by kernel_rfl⟩
  · exact ⟨_, Try.func101, by kernel_rfl, by kernel_rfl, by kernel_rfl, by kernel_rfl⟩
theorem no_fts (P : Program) (f : Nat) (fn : Func) (h : (f, fn) ∈ ([] : List (Nat × Func))) : P.funcs[f]? = some fn ∧ (fn.name == "runtime.NumGoroutine") = false := by cases h

noncomputable def cfg0 : Cfg := mkCfg tab [] xts (look [])
theorem cfg0_ok : CfgOK Try.prog cfg0 := cfg_ok tab_eq (no_fts _) xts_ok env_nil mixed

/-- The laws' 'sameFloat'. -/
def nanF (k : FloatKind) (x : Nat) : Bool := forder k x x != some .eq
def zeroF (k : FloatKind) (x : Nat) : Bool := forder k x (can k 0) == some .eq
def upF (x : Nat) : Bool := forder .f64 (fop .quo .f64 (can .f64 4607182418800017408) x) (can .f64 0) == some .gt
def sameF (x y : Nat) : Bool :=
  bif (bif nanF .f64 x then true else nanF .f64 y) then (bif nanF .f64 x then nanF .f64 y else false)
  else bif (bif zeroF .f64 x then zeroF .f64 y else false) then (upF x == upF y) else (forder .f64 x y == some .eq)
theorem auto29 (x y : Nat) : auto cfg0 Try.f29 [.flt .f64 x, .flt .f64 y] = some (bif (bif nanF .f64 x then true else nanF .f64 y) then true else bif (bif zeroF .f64 x then zeroF .f64 y else false) then true else true, .bool (sameF x y)) := by kernel_rfl

def spec29 : List A → Option (Bool × A)
  | [.flt .f64 x, .flt .f64 y] => some (true, .bool (sameF x y))
  | _ => none
theorem spec29_at : EnvAt Try.prog 29 spec29 := by
  refine ⟨⟨_, Try.func29, by kernel_rfl, by kernel_rfl⟩, fun ds c r h hc => ?_⟩
  unfold spec29 at h
  split at h
  · rename_i x y
    simp only [Option.some.injEq, Prod.mk.injEq] at h
    obtain ⟨_, rfl⟩ := h
    refine (auto_at cfg0_ok Try.func29 (by kernel_rfl) (by kernel_rfl)).2 _ _ _ (auto29 x y) ?_
    cases (bif nanF .f64 x then true else nanF .f64 y) <;> cases (bif zeroF .f64 x then zeroF .f64 y else false) <;> rfl
  · cases h

/-- The first contracts: functions that call nothing but what the machine has. -/
noncomputable def env1 : List (Nat × (List A → Option (Bool × A))) := [(29, spec29), (96, auto cfg0 Try.f96), (99, auto cfg0 Try.f99)]
theorem env1_ok : EnvOK Try.prog (look env1) :=
  env_cons spec29_at (env_cons (auto_at cfg0_ok Try.func96 (by kernel_rfl) (by kernel_rfl)) (env_cons (auto_at cfg0_ok Try.func99 (by kernel_rfl) (by kernel_rfl)) env_nil))
noncomputable def cfg1 : Cfg := mkCfg tab [] xts (look env1)
theorem cfg1_ok : CfgOK Try.prog cfg1 := cfg_ok tab_eq (no_fts _) xts_ok env1_ok mixed
end Go.Fw.C1

/-
  'eqFloat32S': the law's comparison of two slices.
-/
namespace Go.Fw.C1
open Go.Proofs

def sameAt (xs ys : Nat → Nat) (k : Nat) : Bool := sameF (fcvt .f32 .f64 (xs k)) (fcvt .f32 .f64 (ys k))

theorem round55 (m n k : Nat) (xs ys : Nat → Nat) (L : XK → List A → List (Option O) → Prop) :
    ((exec cfg1 (fun _ => true) (fun _ => none) 0 1000 (loopOf Try.f55 0) (litSt 29 112 [0, 1, 4, 5] [] [.ro 1 m (.flts .f32 xs), .ro 1 n (.flts .f32 ys), .bool false, .int .i64 (Int.ofNat k)] [])).rt [0, 1, 4, 5] []).Ok L =
    bif decide (Int.ofNat k < Int.ofNat m) then
      bif (decide (Int.ofNat k < Int.ofNat n) && (decide (Int.ofNat k < Int.ofNat m) && true)) then
        bif !(sameAt xs ys k) then L .ret [.ro 1 m (.flts .f32 xs), .ro 1 n (.flts .f32 ys), .bool false, .int .i64 (Int.ofNat k)] []
        else L .normal [.ro 1 m (.flts .f32 xs), .ro 1 n (.flts .f32 ys), .bool false, .int .i64 (IntKind.i64.wrap (Int.ofNat k + Int.ofNat 1))] []
      else False
    else L (.exit 0) [.ro 1 m (.flts .f32 xs), .ro 1 n (.flts .f32 ys), .bool false, .int .i64 (Int.ofNat k)] [] := by kernel_rfl

def I55 (m n : Nat) (xs ys : Nat → Nat) (k : Nat) : List A := [.ro 1 m (.flts .f32 xs), .ro 1 n (.flts .f32 ys), .bool false, .int .i64 (Int.ofNat k)]
def F55 : List A → List (Option O) → Option R3
  | [.ro 1 m (.flts .f32 xs), .ro 1 n (.flts .f32 ys), .bool false, .int .i64 0], [] =>
    some (.ite (Nat.ble m n && Nat.ble m 4611686018427387904) (.ite (allUpTo (sameAt xs ys) m) (.leaf .normal (I55 m n xs ys m) []) (.leaf .ret [.ro 1 m (.flts .f32 xs), .ro 1 n (.flts .f32 ys), .bool false, .any] [])) .fail)
  | _, _ => none
def lp55 : List (Nat × (St → T)) := [(0, sumAt 29 112 [0, 1, 4, 5] [] F55)]

theorem lt_dec {k m : Nat} (h : k < m) : decide (Int.ofNat k < Int.ofNat m) = true := by simp; omega
theorem ge_dec {k m : Nat} (h : m ≤ k) : decide (Int.ofNat k < Int.ofNat m) = false := by simp; omega

theorem loop55 : CodeOK Try.prog (fun _ σ => sumAt 29 112 [0, 1, 4, 5] [] F55 σ) (.block 0 (.loop (loopOf Try.f55 0))) := by
  refine block_ok (own := fun _ => true) (lp := fun _ => none) (un := 0) (fuel := 1000) cfg1_ok (lp_none _) fun az os R hF hok => ?_
  unfold F55 at hF
  split at hF
  · rename_i m xs n ys
    injection hF with hF
    subst hF
    have hg := hok.guard
    have hg' := hg
    simp only [Bool.and_eq_true] at hg'
    have e1 := Nat.le_of_ble_eq_true hg'.1
    have e2 := Nat.le_of_ble_eq_true hg'.2
    refine search_fact (os := []) (sameAt xs ys) m (I55 m n xs ys) [] _ [.ro 1 m (.flts .f32 xs), .ro 1 n (.flts .f32 ys), .bool false, .any] (I55 m n xs ys) rfl trivial (fun _ => rfl) rfl (fun _ => ⟨.inr rfl, .inr rfl, .inr rfl, .inl rfl, trivial⟩) rfl (fun k hk L h1 h2 h3 => ?_) fun L hL => ?_
    · show ((exec cfg1 (fun _ => true) (fun _ => none) 0 1000 (loopOf Try.f55 0) (litSt 29 112 [0, 1, 4, 5] [] [.ro 1 m (.flts .f32 xs), .ro 1 n (.flts .f32 ys), .bool false, .int .i64 (Int.ofNat k)] [])).rt [0, 1, 4, 5] []).Ok L
      rw [round55]
      by_cases hkm : k < m
      · rw [lt_dec hkm, lt_dec (show k < n by omega), cond_true]
        show cond (!(sameAt xs ys k)) _ _
        cases hs : sameAt xs ys k
        · exact h2 hkm hs
        · have := h1 hkm hs
          rw [wrap_small (by simp; omega) (by simp; omega)]
          exact this
      · rw [ge_dec (show m ≤ k by omega), cond_false]
        have : k = m := by omega
        subst this
        exact h3 rfl
    · exact ⟨fun h => (hL.1 hg).1 h, fun h => (hL.1 hg).2 h⟩
  · cases hF

theorem lp55_ok : LpOK Try.prog (look lp55) (bodyOf Try.f55) := lp_loops (by kernel_rfl) (by kernel_rfl) fun p hp => by
  rw [List.mem_singleton.1 hp]
  exact loop55

theorem auto55 (m n : Nat) (xs ys : Nat → Nat) : autoLp cfg1 (look lp55) Try.f55 [.ro 1 m (.flts .f32 xs), .ro 1 n (.flts .f32 ys)] =
    some (bif (Int.ofNat m != Int.ofNat n) then true else (Nat.ble m n && Nat.ble m 4611686018427387904) && (bif allUpTo (sameAt xs ys) m then true else true),
      .bool (bif (Int.ofNat m != Int.ofNat n) then false else (bif allUpTo (sameAt xs ys) m then true else false))) := by kernel_rfl

/-- 'eqFloat32S': as long, and the same at each place. -/
def eqL (m n : Nat) (xs ys : Nat → Nat) : Bool := Nat.beq m n && allUpTo (sameAt xs ys) m
def spec55 : List A → Option (Bool × A)
  | [.ro 1 m (.flts .f32 xs), .ro 1 n (.flts .f32 ys)] => some (Nat.ble m 4611686018427387904, .bool (eqL m n xs ys))
  | _ => none
theorem spec55_at : EnvAt Try.prog 55 spec55 := by
  refine ⟨⟨_, Try.func55, by kernel_rfl, by kernel_rfl⟩, fun ds c r h hc => ?_⟩
  unfold spec55 at h
  split at h
  · rename_i m xs n ys
    simp only [Option.some.injEq, Prod.mk.injEq] at h
    obtain ⟨rfl, rfl⟩ := h
    have key := (autoLp_at cfg1_ok lp55_ok Try.func55 (by kernel_rfl) (by kernel_rfl)).2 _ _ _ (auto55 m n xs ys)
    by_cases hmn : m = n
    · subst hmn
      have e1 : (Int.ofNat m != Int.ofNat m) = false := by simp
      have e2 : Nat.ble m m = true := Nat.ble_eq_true_of_le (Nat.le_refl _)
      have e3 : Nat.beq m m = true := Nat.beq_refl m
      rw [e1, e2, hc] at key
      simp only [eqL, e3, Bool.true_and]
      cases hx : allUpTo (sameAt xs ys) m <;> rw [hx] at key <;> exact key rfl
    · have e1 : (Int.ofNat m != Int.ofNat n) = true := by simp; omega
      have e3 : Nat.beq m n = false := by
        cases hb : Nat.beq m n
        · rfl
        · exact absurd (Nat.eq_of_beq_eq_true hb) hmn
      rw [e1] at key
      simp only [eqL, e3, Bool.false_and]
      exact key rfl
  · cases h
end Go.Fw.C1

/-
  The leaves: functions of numbers.
-/
namespace Go.Fw.C1
open Go.Proofs

theorem of_auto {cfg : Cfg} (hc : CfgOK Try.prog cfg) {f : Nat} {fn : Func} {lp : Nat → Option (St → T)} (hlp : LpOK Try.prog lp (bodyOf fn)) (hf : Try.prog.funcs[f]? = some fn) (hb : fn.body.isSome = true) (hn : (fn.name == "runtime.NumGoroutine") = false)
    {s : List A → Option (Bool × A)} (h : ∀ ds c r, s ds = some (c, r) → c = true → ∃ c', autoLp cfg lp fn ds = some (c', r) ∧ c' = true) : EnvAt Try.prog f s :=
  ⟨⟨fn, hf, hb, hn⟩, fun ds c r hs hct => by
    obtain ⟨c', h1, h2⟩ := h ds c r hs hct
    exact (autoLp_at hc hlp hf hb hn).2 ds c' r h1 h2⟩

def nan (x : Nat) : Bool := forder .f32 x x != some .eq
def fin (x : Nat) : Bool := forder .f32 (fop .sub .f32 x x) (can .f32 0) == some .eq
def lt0 (x : Nat) : Bool := forder .f32 x (can .f32 0) == some .lt
def gt0 (x : Nat) : Bool := forder .f32 x (can .f32 0) == some .gt
def ge0 (x : Nat) : Bool := forder .f32 x (can .f32 0) == some .gt || forder .f32 x (can .f32 0) == some .eq
def bad (x : Nat) : Bool := bif !fin x then true else lt0 x
def least (x : Nat) : Bool := bif fin x then ge0 x else false
def above (x : Nat) : Bool := bif fin x then gt0 x else false

def sFin : List A → Option (Bool × A)
  | [.flt .f32 x] => some (true, .bool (fin x))
  | _ => none
def sBad : List A → Option (Bool × A)
  | [.flt .f32 x] => some (true, .bool (bad x))
  | _ => none
def sNotFin : List A → Option (Bool × A)
  | [.flt .f32 x] => some (true, .bool (!fin x))
  | _ => none
def sLeast : List A → Option (Bool × A)
  | [.flt .f32 x] => some (true, .bool (least x))
  | _ => none
def sAbove : List A → Option (Bool × A)
  | [.flt .f32 x] => some (true, .bool (above x))
  | _ => none

theorem flt1 {g : Nat → Bool × A} {ds : List A} {c : Bool} {r : A} {s : List A → Option (Bool × A)} (hs : ∀ ds, s ds = match ds with | [.flt .f32 x] => some (g x) | _ => none) (h : s ds = some (c, r)) : ∃ x, ds = [.flt .f32 x] ∧ g x = (c, r) := by
  rw [hs] at h
  split at h
  · injection h with h; exact ⟨_, rfl, h⟩
  · cases h

theorem s84_at : EnvAt Try.prog 84 sFin := of_auto cfg1_ok (lp_none _) Try.func84 (by kernel_rfl) (by kernel_rfl) fun ds c r h _ => by
  obtain ⟨x, rfl, e⟩ := flt1 (g := fun x => (true, .bool (fin x))) (fun ds => rfl) h
  injection e with e1 e2; subst e2
  exact ⟨_, (by kernel_rfl : autoLp cfg1 (fun _ => none) Try.f84 [.flt .f32 x] = some (true, .bool (fin x))), rfl⟩
theorem s87_at : EnvAt Try.prog 87 sFin := of_auto cfg1_ok (lp_none _) Try.func87 (by kernel_rfl) (by kernel_rfl) fun ds c r h _ => by
  obtain ⟨x, rfl, e⟩ := flt1 (g := fun x => (true, .bool (fin x))) (fun ds => rfl) h
  injection e with e1 e2; subst e2
  exact ⟨_, (by kernel_rfl : autoLp cfg1 (fun _ => none) Try.f87 [.flt .f32 x] = some (true, .bool (fin x))), rfl⟩

noncomputable def env2 : List (Nat × (List A → Option (Bool × A))) := (84, sFin) :: (87, sFin) :: (55, spec55) :: env1
theorem env2_ok : EnvOK Try.prog (look env2) := env_cons s84_at (env_cons s87_at (env_cons spec55_at env1_ok))
noncomputable def cfg2 : Cfg := mkCfg tab [] xts (look env2)
theorem cfg2_ok : CfgOK Try.prog cfg2 := cfg_ok tab_eq (no_fts _) xts_ok env2_ok mixed

theorem s86_at : EnvAt Try.prog 86 sBad := of_auto cfg2_ok (lp_none _) Try.func86 (by kernel_rfl) (by kernel_rfl) fun ds c r h _ => by
  obtain ⟨x, rfl, e⟩ := flt1 (g := fun x => (true, .bool (bad x))) (fun ds => rfl) h
  injection e with e1 e2; subst e2
  exact ⟨_, (by kernel_rfl : autoLp cfg2 (fun _ => none) Try.f86 [.flt .f32 x] = some (true, .bool (bad x))), rfl⟩
theorem s88_at : EnvAt Try.prog 88 sNotFin := of_auto cfg2_ok (lp_none _) Try.func88 (by kernel_rfl) (by kernel_rfl) fun ds c r h _ => by
  obtain ⟨x, rfl, e⟩ := flt1 (g := fun x => (true, .bool (!fin x))) (fun ds => rfl) h
  injection e with e1 e2; subst e2
  exact ⟨_, (by kernel_rfl : autoLp cfg2 (fun _ => none) Try.f88 [.flt .f32 x] = some (true, .bool (!fin x))), rfl⟩
theorem s83_at : EnvAt Try.prog 83 sLeast := of_auto cfg2_ok (lp_none _) Try.func83 (by kernel_rfl) (by kernel_rfl) fun ds c r h _ => by
  obtain ⟨x, rfl, e⟩ := flt1 (g := fun x => (true, .bool (least x))) (fun ds => rfl) h
  injection e with e1 e2; subst e2
  exact ⟨_, (by kernel_rfl : autoLp cfg2 (fun _ => none) Try.f83 [.flt .f32 x] = some (true, .bool (least x))), rfl⟩
theorem s63_at : EnvAt Try.prog 63 sAbove := of_auto cfg2_ok (lp_none _) Try.func63 (by kernel_rfl) (by kernel_rfl) fun ds c r h _ => by
  obtain ⟨x, rfl, e⟩ := flt1 (g := fun x => (true, .bool (above x))) (fun ds => rfl) h
  injection e with e1 e2; subst e2
  exact ⟨_, (by kernel_rfl : autoLp cfg2 (fun _ => none) Try.f63 [.flt .f32 x] = some (true, .bool (above x))), rfl⟩
theorem s66_at : EnvAt Try.prog 66 sAbove := of_auto cfg2_ok (lp_none _) Try.func66 (by kernel_rfl) (by kernel_rfl) fun ds c r h _ => by
  obtain ⟨x, rfl, e⟩ := flt1 (g := fun x => (true, .bool (above x))) (fun ds => rfl) h
  injection e with e1 e2; subst e2
  exact ⟨_, (by kernel_rfl : autoLp cfg2 (fun _ => none) Try.f66 [.flt .f32 x] = some (true, .bool (above x))), rfl⟩

def spec53 : List A → Option (Bool × A)
  | [.ro 1 m (.flts .f32 xs)] => some (Nat.ble m 1073741824, .ro 1 m (.flts .f32 xs))
  | _ => none
theorem spec53_at : EnvAt Try.prog 53 spec53 := by
  refine ⟨⟨_, Try.func53, by kernel_rfl, by kernel_rfl⟩, fun ds c r h hc => ?_⟩
  unfold spec53 at h
  split at h
  · simp only [Option.some.injEq, Prod.mk.injEq] at h
    obtain ⟨rfl, rfl⟩ := h
    exact pure53 (Nat.le_of_ble_eq_true hc)
  · cases h

noncomputable def env3 : List (Nat × (List A → Option (Bool × A))) := (53, spec53) :: (86, sBad) :: (88, sNotFin) :: (83, sLeast) :: (63, sAbove) :: (66, sAbove) ::
  (89, auto cfg2 Try.f89) :: (90, auto cfg2 Try.f90) :: (57, auto cfg2 Try.f57) :: (51, auto cfg2 Try.f51) :: env2
theorem env3_ok : EnvOK Try.prog (look env3) := env_cons spec53_at (env_cons s86_at (env_cons s88_at (env_cons s83_at (env_cons s63_at (env_cons s66_at
  (env_cons (auto_at cfg2_ok Try.func89 (by kernel_rfl) (by kernel_rfl)) (env_cons (auto_at cfg2_ok Try.func90 (by kernel_rfl) (by kernel_rfl)) (env_cons (auto_at cfg2_ok Try.func57 (by kernel_rfl) (by kernel_rfl)) (env_cons (auto_at cfg2_ok Try.func51 (by kernel_rfl) (by kernel_rfl)) env2_ok)))))))))
noncomputable def cfg3 : Cfg := mkCfg tab [] xts (look env3)
theorem cfg3_ok : CfgOK Try.prog cfg3 := cfg_ok tab_eq (no_fts _) xts_ok env3_ok mixed

theorem auto_fit {x : Option (Bool × A)} {c' : Bool} {r' r : A} (h : x = some (c', r')) (h1 : r' = r) (h2 : c' = true) : ∃ c', x = some (c', r) ∧ c' = true := ⟨c', by rw [h, h1], h2⟩
theorem condT {b : Bool} {X Y : Prop} (h : b = true) (hx : X) : cond b X Y := by subst h; exact hx
theorem condE {b : Bool} {X Y : Prop} (h : b = false) (hy : Y) : cond b X Y := by subst h; exact hy
theorem wrap_succ {k : Nat} (h : k ≤ 4611686018427387000) : IntKind.i64.wrap (Int.ofNat k + Int.ofNat 1) = Int.ofNat (k + 1) := wrap_small (by simp; omega) (by simp; omega)
end Go.Fw.C1

/-
  Loops of the library's search functions.
-/
namespace Go.Fw.C1
open Go.Proofs

noncomputable def I97a (n : Nat) (r : Nat → Nat) (k : Nat) : List A := [.ro 1 n (.flts .f32 r), .fn 86 [], .int .i64 (Int.ofNat 0), .int .i64 (Int.ofNat n), .int .i64 (Int.ofNat k)]
theorem round97a (n : Nat) (r : Nat → Nat) (k : Nat) (L : XK → List A → List (Option O) → Prop) :
    ((exec cfg3 (fun _ => true) (fun _ => none) 0 1000 (loopOf Try.f97 0) (litSt Try.f97.ntmps 64 [0, 1, 4, 7, 8] [] (I97a n r k) [])).rt [0, 1, 4, 7, 8] []).Ok L =
    bif decide (Int.ofNat k < Int.ofNat n) then
      bif decide (Int.ofNat k < Int.ofNat n) then
        bif bad (r k) then
          L (XK.ret) [A.ro 1 n (Row.flts FloatKind.f32 r), A.fn 86 [], A.int IntKind.i64 (Int.ofNat k), A.int IntKind.i64 (Int.ofNat n), A.int IntKind.i64 (Int.ofNat k)] []
        else
          L (XK.normal) [A.ro 1 n (Row.flts FloatKind.f32 r), A.fn 86 [], A.int IntKind.i64 (Int.ofNat 0), A.int IntKind.i64 (Int.ofNat n), A.int IntKind.i64 (IntKind.i64.wrap (Int.ofNat k + Int.ofNat 1))] []
      else
        False
    else
      L (XK.exit 0) [A.ro 1 n (Row.flts FloatKind.f32 r), A.fn 86 [], A.int IntKind.i64 (Int.ofNat 0), A.int IntKind.i64 (Int.ofNat n), A.int IntKind.i64 (Int.ofNat k)] [] := by kernel_rfl
noncomputable def F97a : List A → List (Option O) → Option R3
  | [.ro 1 n (.flts .f32 r), .fn 86 [], .int .i64 0, .int .i64 l, .int .i64 0], [] => some (.ite (decide (l = Int.ofNat n) && Nat.ble n 4611686018427387000) (.ite (allUpTo (fun k => !bad (r k)) (n)) (.leaf .normal (I97a n r (n)) []) (.leaf (.ret) ((fun k => [A.ro 1 n (Row.flts FloatKind.f32 r), A.fn 86 [], A.int IntKind.i64 (Int.ofNat k), A.int IntKind.i64 (Int.ofNat n), A.int IntKind.i64 (Int.ofNat k)]) (firstIdx (fun k => !bad (r k)) (n))) [])) .fail)
  | _, _ => none
theorem loop97a : CodeOK Try.prog (fun _ σ => sumAt Try.f97.ntmps 64 [0, 1, 4, 7, 8] [] F97a σ) (.block 0 (.loop (loopOf Try.f97 0))) := by
  refine block_ok (own := fun _ => true) (lp := (fun _ => none)) (un := 0) (fuel := 1000) cfg3_ok (lp_none _) fun az os R hF hok => ?_
  unfold F97a at hF
  split at hF
  · rename_i n r l
    injection hF with hF
    subst hF
    have hg := hok.guard
    have hg' := hg
    simp only [Bool.and_eq_true, Nat.ble_eq, Nat.beq_eq, decide_eq_true_eq] at hg'
    obtain ⟨rfl, hn⟩ := hg'
    refine for_fact0 (fun k => !bad (r k)) (n) (I97a n r) _ (.ret) (fun k => [A.ro 1 n (Row.flts FloatKind.f32 r), A.fn 86 [], A.int IntKind.i64 (Int.ofNat k), A.int IntKind.i64 (Int.ofNat n), A.int IntKind.i64 (Int.ofNat k)]) (fun k => [A.ro 1 n (Row.flts FloatKind.f32 r), A.fn 86 [], A.int IntKind.i64 (Int.ofNat k), A.int IntKind.i64 (Int.ofNat n), A.int IntKind.i64 (Int.ofNat k)]) (I97a n r (n)) rfl (fun _ => rfl) (fun _ => ALe.self _) (fun _ => rfl) (ALe.self _) rfl (fun h => by cases h) (fun k hk L h1 h2 h3 => ?_) fun L hL => ?_
    · rw [round97a]
      by_cases hkm : k < n
      · refine condT (lt_dec hkm) ?_
        refine condT (lt_dec hkm) ?_
        cases hs : bad (r k)
        · have := h1 hkm (by rw [hs]; rfl)
          rw [wrap_succ (by omega)]
          exact this
        · exact h2 hkm (by rw [hs]; rfl)
      · refine condE (ge_dec (by omega)) ?_
        obtain rfl : k = n := by omega
        exact h3 rfl
    · exact ⟨fun h => (hL.1 hg).1 h, fun N hN hf hall => by
        have := (hL.1 hg).2 (allUpTo_false hN hf)
        rw [firstIdx_eq hN hf hall] at this
        exact this⟩
  · cases hF

noncomputable def I97b (n : Nat) (r : Nat → Nat) (k : Nat) : List A := [.ro 1 n (.flts .f32 r), .fn 88 [], .int .i64 (Int.ofNat 0), .int .i64 (Int.ofNat n), .int .i64 (Int.ofNat k)]
theorem round97b (n : Nat) (r : Nat → Nat) (k : Nat) (L : XK → List A → List (Option O) → Prop) :
    ((exec cfg3 (fun _ => true) (fun _ => none) 0 1000 (loopOf Try.f97 0) (litSt Try.f97.ntmps 64 [0, 1, 4, 7, 8] [] (I97b n r k) [])).rt [0, 1, 4, 7, 8] []).Ok L =
    bif decide (Int.ofNat k < Int.ofNat n) then
      bif decide (Int.ofNat k < Int.ofNat n) then
        bif !fin (r k) then
          L (XK.ret) [A.ro 1 n (Row.flts FloatKind.f32 r), A.fn 88 [], A.int IntKind.i64 (Int.ofNat k), A.int IntKind.i64 (Int.ofNat n), A.int IntKind.i64 (Int.ofNat k)] []
        else
          L (XK.normal) [A.ro 1 n (Row.flts FloatKind.f32 r), A.fn 88 [], A.int IntKind.i64 (Int.ofNat 0), A.int IntKind.i64 (Int.ofNat n), A.int IntKind.i64 (IntKind.i64.wrap (Int.ofNat k + Int.ofNat 1))] []
      else
        False
    else
      L (XK.exit 0) [A.ro 1 n (Row.flts FloatKind.f32 r), A.fn 88 [], A.int IntKind.i64 (Int.ofNat 0), A.int IntKind.i64 (Int.ofNat n), A.int IntKind.i64 (Int.ofNat k)] [] := by kernel_rfl
noncomputable def F97b : List A → List (Option O) → Option R3
  | [.ro 1 n (.flts .f32 r), .fn 88 [], .int .i64 0, .int .i64 l, .int .i64 0], [] => some (.ite (decide (l = Int.ofNat n) && Nat.ble n 4611686018427387000) (.ite (allUpTo (fun k => fin (r k)) (n)) (.leaf .normal (I97b n r (n)) []) (.leaf (.ret) ((fun k => [A.ro 1 n (Row.flts FloatKind.f32 r), A.fn 88 [], A.int IntKind.i64 (Int.ofNat k), A.int IntKind.i64 (Int.ofNat n), A.int IntKind.i64 (Int.ofNat k)]) (firstIdx (fun k => fin (r k)) (n))) [])) .fail)
  | _, _ => none
theorem loop97b : CodeOK Try.prog (fun _ σ => sumAt Try.f97.ntmps 64 [0, 1, 4, 7, 8] [] F97b σ) (.block 0 (.loop (loopOf Try.f97 0))) := by
  refine block_ok (own := fun _ => true) (lp := (fun _ => none)) (un := 0) (fuel := 1000) cfg3_ok (lp_none _) fun az os R hF hok => ?_
  unfold F97b at hF
  split at hF
  · rename_i n r l
    injection hF with hF
    subst hF
    have hg := hok.guard
    have hg' := hg
    simp only [Bool.and_eq_true, Nat.ble_eq, Nat.beq_eq, decide_eq_true_eq] at hg'
    obtain ⟨rfl, hn⟩ := hg'
    refine for_fact0 (fun k => fin (r k)) (n) (I97b n r) _ (.ret) (fun k => [A.ro 1 n (Row.flts FloatKind.f32 r), A.fn 88 [], A.int IntKind.i64 (Int.ofNat k), A.int IntKind.i64 (Int.ofNat n), A.int IntKind.i64 (Int.ofNat k)]) (fun k => [A.ro 1 n (Row.flts FloatKind.f32 r), A.fn 88 [], A.int IntKind.i64 (Int.ofNat k), A.int IntKind.i64 (Int.ofNat n), A.int IntKind.i64 (Int.ofNat k)]) (I97b n r (n)) rfl (fun _ => rfl) (fun _ => ALe.self _) (fun _ => rfl) (ALe.self _) rfl (fun h => by cases h) (fun k hk L h1 h2 h3 => ?_) fun L hL => ?_
    · rw [round97b]
      by_cases hkm : k < n
      · refine condT (lt_dec hkm) ?_
        refine condT (lt_dec hkm) ?_
        cases hs : fin (r k)
        · exact h2 hkm hs
        · have := h1 hkm hs
          rw [wrap_succ (by omega)]
          exact this
      · refine condE (ge_dec (by omega)) ?_
        obtain rfl : k = n := by omega
        exact h3 rfl
    · exact ⟨fun h => (hL.1 hg).1 h, fun N hN hf hall => by
        have := (hL.1 hg).2 (allUpTo_false hN hf)
        rw [firstIdx_eq hN hf hall] at this
        exact this⟩
  · cases hF


/-- The first place that is not in order, or -1. -/
noncomputable def idx (f : Nat → Bool) (n : Nat) : Int := bif allUpTo f n then Int.negSucc 0 else Int.ofNat (firstIdx f n)

noncomputable def lp97a : List (Nat × (St → T)) := [(0, sumAt Try.f97.ntmps 64 [0, 1, 4, 7, 8] [] F97a)]
theorem lp97a_ok : LpOK Try.prog (look lp97a) (bodyOf Try.f97) := lp_loops (by kernel_rfl) (by kernel_rfl) fun p hp => by
  simp only [lp97a, List.mem_cons, List.not_mem_nil, or_false] at hp
  rcases hp with rfl
  · exact loop97a
theorem auto97a (n : Nat) (r : Nat → Nat) : autoLp cfg3 (look lp97a) Try.f97 [.ro 1 n (.flts .f32 r), .fn 86 []] =
    some (decide (Int.ofNat n = Int.ofNat n) && n.ble 4611686018427387000 && bif allUpTo (fun k => !bad (r k)) n then true else true, A.int IntKind.i64 (bif allUpTo (fun k => !bad (r k)) n then Int.negSucc 0 else Int.ofNat (Fw.firstIdx (fun k => !bad (r k)) n))) := by kernel_rfl
noncomputable def s97a : List A → Option (Bool × A)
  | [.ro 1 n (.flts .f32 r), .fn 86 []] => some (Nat.ble n 4611686018427387000, .int .i64 (idx (fun k => !bad (r k)) n))
  | _ => none
theorem s97a_at : EnvAt Try.prog 97 s97a := of_auto cfg3_ok lp97a_ok Try.func97 (by kernel_rfl) (by kernel_rfl) fun ds c r h hc => by
  unfold s97a at h
  split at h
  · rename_i n r
    simp only [Option.some.injEq, Prod.mk.injEq] at h
    obtain ⟨rfl, rfl⟩ := h
    refine auto_fit (auto97a n r) ?_ ?_
    · rfl
    · rw [hc]; simp
  · cases h

noncomputable def lp97b : List (Nat × (St → T)) := [(0, sumAt Try.f97.ntmps 64 [0, 1, 4, 7, 8] [] F97b)]
theorem lp97b_ok : LpOK Try.prog (look lp97b) (bodyOf Try.f97) := lp_loops (by kernel_rfl) (by kernel_rfl) fun p hp => by
  simp only [lp97b, List.mem_cons, List.not_mem_nil, or_false] at hp
  rcases hp with rfl
  · exact loop97b
theorem auto97b (n : Nat) (r : Nat → Nat) : autoLp cfg3 (look lp97b) Try.f97 [.ro 1 n (.flts .f32 r), .fn 88 []] =
    some (decide (Int.ofNat n = Int.ofNat n) && n.ble 4611686018427387000 && bif allUpTo (fun k => fin (r k)) n then true else true, A.int IntKind.i64 (bif allUpTo (fun k => fin (r k)) n then Int.negSucc 0 else Int.ofNat (Fw.firstIdx (fun k => fin (r k)) n))) := by kernel_rfl
noncomputable def s97b : List A → Option (Bool × A)
  | [.ro 1 n (.flts .f32 r), .fn 88 []] => some (Nat.ble n 4611686018427387000, .int .i64 (idx (fun k => fin (r k)) n))
  | _ => none
theorem s97b_at : EnvAt Try.prog 97 s97b := of_auto cfg3_ok lp97b_ok Try.func97 (by kernel_rfl) (by kernel_rfl) fun ds c r h hc => by
  unfold s97b at h
  split at h
  · rename_i n r
    simp only [Option.some.injEq, Prod.mk.injEq] at h
    obtain ⟨rfl, rfl⟩ := h
    refine auto_fit (auto97b n r) ?_ ?_
    · rfl
    · rw [hc]; simp
  · cases h

noncomputable def s97 : List A → Option (Bool × A)
  | [.ro 1 n (.flts .f32 r), .fn 86 []] => s97a [.ro 1 n (.flts .f32 r), .fn 86 []]
  | ds => s97b ds
theorem s97_at : EnvAt Try.prog 97 s97 := by
  refine ⟨s97a_at.1, fun ds c r h hc => ?_⟩
  unfold s97 at h
  split at h
  · exact s97a_at.2 _ _ _ h hc
  · exact s97b_at.2 _ _ _ h hc
noncomputable def env4 : List (Nat × (List A → Option (Bool × A))) := (97, s97) :: env3
theorem env4_ok : EnvOK Try.prog (look env4) := env_cons s97_at env3_ok
noncomputable def cfg4 : Cfg := mkCfg tab [] xts (look env4)
theorem cfg4_ok : CfgOK Try.prog cfg4 := cfg_ok tab_eq (no_fts _) xts_ok env4_ok mixed
noncomputable def env5 : List (Nat × (List A → Option (Bool × A))) := (85, auto cfg4 Try.f85) :: env4
theorem env5_ok : EnvOK Try.prog (look env5) := env_cons (auto_at cfg4_ok Try.func85 (by kernel_rfl) (by kernel_rfl)) env4_ok
noncomputable def cfg5 : Cfg := mkCfg tab [] xts (look env5)
theorem cfg5_ok : CfgOK Try.prog cfg5 := cfg_ok tab_eq (no_fts _) xts_ok env5_ok mixed
theorem neg1_ge : decide (Int.negSucc 0 ≥ 0) = false := rfl
theorem idx_ge (f : Nat → Bool) (n : Nat) : decide (idx f n ≥ 0) = !allUpTo f n := by
  unfold idx
  cases allUpTo f n
  · simp
  · rfl
theorem auto58 (n : Nat) (r : Nat → Nat) : autoLp cfg5 (fun _ => none) Try.f58 [.ro 1 n (.flts .f32 r)] =
    some (n.ble 4611686018427387000 && true && true, A.bool !decide (idx (fun k => !bad (r k)) n ≥ 0)) := by kernel_rfl
noncomputable def s58 : List A → Option (Bool × A)
  | [.ro 1 n (.flts .f32 r)] => some (Nat.ble n 4611686018427387000, .bool (allUpTo (fun k => !bad (r k)) n))
  | _ => none
theorem s58_at : EnvAt Try.prog 58 s58 := of_auto cfg5_ok (lp_none _) Try.func58 (by kernel_rfl) (by kernel_rfl) fun ds c r h hc => by
  unfold s58 at h
  split at h
  · rename_i n r
    simp only [Option.some.injEq, Prod.mk.injEq] at h
    obtain ⟨rfl, rfl⟩ := h
    refine auto_fit (auto58 n r) ?_ ?_
    · simp [idx_ge]
    · rw [hc]; simp
  · cases h

theorem auto59 (n : Nat) (r : Nat → Nat) : autoLp cfg5 (fun _ => none) Try.f59 [.ro 1 n (.flts .f32 r)] =
    some (n.ble 4611686018427387000 && true && true, A.bool !decide (idx (fun k => fin (r k)) n ≥ 0)) := by kernel_rfl
noncomputable def s59 : List A → Option (Bool × A)
  | [.ro 1 n (.flts .f32 r)] => some (Nat.ble n 4611686018427387000, .bool (allUpTo (fun k => fin (r k)) n))
  | _ => none
theorem s59_at : EnvAt Try.prog 59 s59 := of_auto cfg5_ok (lp_none _) Try.func59 (by kernel_rfl) (by kernel_rfl) fun ds c r h hc => by
  unfold s59 at h
  split at h
  · rename_i n r
    simp only [Option.some.injEq, Prod.mk.injEq] at h
    obtain ⟨rfl, rfl⟩ := h
    refine auto_fit (auto59 n r) ?_ ?_
    · simp [idx_ge]
    · rw [hc]; simp
  · cases h

end Go.Fw.C1

/-
  Circuits that are valid: the reference's test.
-/
namespace Go.Fw.C1
open Go.Proofs

noncomputable def env6 : List (Nat × (List A → Option (Bool × A))) := (58, s58) :: (59, s59) :: env5
theorem env6_ok : EnvOK Try.prog (look env6) := (env_cons s58_at (env_cons s59_at env5_ok))
noncomputable def cfg6 : Cfg := mkCfg tab [] xts (look env6)
theorem cfg6_ok : CfgOK Try.prog cfg6 := cfg_ok tab_eq (no_fts _) xts_ok env6_ok mixed

theorem blt_lt' {a b : Nat} (h : Nat.blt a b = true) : a < b := by
  unfold Nat.blt at h
  exact Nat.le_of_ble_eq_true h
theorem lt_blt {a b : Nat} (h : a < b) : Nat.blt a b = true := Nat.ble_eq_true_of_le h
theorem mul_lt6 {i n : Nat} (hi : i < n) (hn : n ≤ 6) : i * n + n ≤ n * n := by
  have : (i + 1) * n ≤ n * n := Nat.mul_le_mul_right n hi
  rw [Nat.add_mul, Nat.one_mul] at this
  exact this
theorem sq_le {n : Nat} (hn : n ≤ 6) : n * n ≤ 36 := Nat.mul_le_mul hn hn
theorem ix_lt {i j n : Nat} (hi : i < n) (hj : j < n) (hn : n ≤ 6) : i * n + j < n * n := by
  have := mul_lt6 hi hn
  omega
theorem wrap_nat {x : Nat} (h : x ≤ 4611686018427387000) : IntKind.i64.wrap (Int.ofNat x) = Int.ofNat x := wrap_small (by simp) (by simp; omega)
theorem wrap_ix {i j n : Nat} (hi : i < n) (hj : j < n) (hn : n ≤ 6) : IntKind.i64.wrap (IntKind.i64.wrap (Int.ofNat i * Int.ofNat n) + Int.ofNat j) = Int.ofNat (i * n + j) := by
  have h1 := ix_lt hi hj hn
  have h2 := sq_le hn
  have h3 : (Int.ofNat i * Int.ofNat n) = Int.ofNat (i * n) := rfl
  have h4 : Int.ofNat (i * n) + Int.ofNat j = Int.ofNat (i * n + j) := rfl
  rw [h3, wrap_nat (x := i * n) (by omega), h4, wrap_nat (by omega)]
theorem wrap_mm {n : Nat} (hn : n ≤ 6) : IntKind.i64.wrap (Int.ofNat n * Int.ofNat n) = Int.ofNat (n * n) := by
  have h2 := sq_le hn
  have h3 : (Int.ofNat n * Int.ofNat n) = Int.ofNat (n * n) := rfl
  rw [h3, wrap_nat (by omega)]
theorem dec0 (x : Nat) : decide ((0 : Int) ≤ Int.ofNat x) = true := by simp

/-- Is the coil of i and j not finite, or not that of j and i? -/
noncomputable def badsym (c : Nat → Nat) (n i j : Nat) : Bool := bif !fin (c (i * n + j)) then true else forder .f32 (c (i * n + j)) (c (j * n + i)) != some .eq
noncomputable def badrow (r g c : Nat → Nat) (n i : Nat) : Bool := bif (bif !least (r i) then true else !least (g i)) then true else !(forder .f32 (c (i * n + i)) (can .f32 0) == some .gt)

noncomputable def I56j (n gn cn i : Nat) (r g c : Nat → Nat) (k : Nat) : List A := [.rop (.agg [.ro 1 n (.flts .f32 r), .ro 1 gn (.flts .f32 g), .ro 1 cn (.flts .f32 c)]) 0, .bool false, .int .i64 (Int.ofNat n), .int .i64 (Int.ofNat i), .int .i64 (Int.ofNat k)]
theorem round56j (n gn cn i : Nat) (r g c : Nat → Nat) (k : Nat) (L : XK → List A → List (Option O) → Prop) :
    ((exec cfg6 (fun _ => true) (fun _ => none) 0 1000 (loopOf Try.f56 2) (litSt Try.f56.ntmps 1168 [0, 2, 3, 4, 5] [] (I56j n gn cn i r g c k) [])).rt [0, 2, 3, 4, 5] []).Ok L =
    bif decide (Int.ofNat k < Int.ofNat n) then
      bif (decide (0 ≤ IntKind.i64.wrap (IntKind.i64.wrap (Int.ofNat k * Int.ofNat n) + Int.ofNat i)) && decide (IntKind.i64.wrap (IntKind.i64.wrap (Int.ofNat k * Int.ofNat n) + Int.ofNat i) < Int.ofNat cn) || !(!fin (c (IntKind.i64.wrap (IntKind.i64.wrap (Int.ofNat i * Int.ofNat n) + Int.ofNat k)).toNat)) == false) && ((decide (0 ≤ IntKind.i64.wrap (IntKind.i64.wrap (Int.ofNat i * Int.ofNat n) + Int.ofNat k)) && decide (IntKind.i64.wrap (IntKind.i64.wrap (Int.ofNat i * Int.ofNat n) + Int.ofNat k) < Int.ofNat cn) || !(!fin (c (IntKind.i64.wrap (IntKind.i64.wrap (Int.ofNat i * Int.ofNat n) + Int.ofNat k)).toNat)) == false) && (decide (0 ≤ IntKind.i64.wrap (IntKind.i64.wrap (Int.ofNat i * Int.ofNat n) + Int.ofNat k)) && decide (IntKind.i64.wrap (IntKind.i64.wrap (Int.ofNat i * Int.ofNat n) + Int.ofNat k) < Int.ofNat cn) && true)) then
        bif bif !fin (c (IntKind.i64.wrap (IntKind.i64.wrap (Int.ofNat i * Int.ofNat n) + Int.ofNat k)).toNat) then true else forder FloatKind.f32 (c (IntKind.i64.wrap (IntKind.i64.wrap (Int.ofNat i * Int.ofNat n) + Int.ofNat k)).toNat) (c (IntKind.i64.wrap (IntKind.i64.wrap (Int.ofNat k * Int.ofNat n) + Int.ofNat i)).toNat) != some Ordering.eq then
          L (XK.ret) [(A.agg [A.ro 1 n (Row.flts FloatKind.f32 r), A.ro 1 gn (Row.flts FloatKind.f32 g), A.ro 1 cn (Row.flts FloatKind.f32 c)]).rop 0, A.bool false, A.int IntKind.i64 (Int.ofNat n), A.int IntKind.i64 (Int.ofNat i), A.int IntKind.i64 (Int.ofNat k)] []
        else
          L (XK.normal) [(A.agg [A.ro 1 n (Row.flts FloatKind.f32 r), A.ro 1 gn (Row.flts FloatKind.f32 g), A.ro 1 cn (Row.flts FloatKind.f32 c)]).rop 0, A.bool false, A.int IntKind.i64 (Int.ofNat n), A.int IntKind.i64 (Int.ofNat i), A.int IntKind.i64 (IntKind.i64.wrap (Int.ofNat k + Int.ofNat 1))] []
      else
        False
    else
      L (XK.exit 2) [(A.agg [A.ro 1 n (Row.flts FloatKind.f32 r), A.ro 1 gn (Row.flts FloatKind.f32 g), A.ro 1 cn (Row.flts FloatKind.f32 c)]).rop 0, A.bool false, A.int IntKind.i64 (Int.ofNat n), A.int IntKind.i64 (Int.ofNat i), A.int IntKind.i64 (Int.ofNat k)] [] := by kernel_rfl
noncomputable def F56j : List A → List (Option O) → Option R3
  | [.rop (.agg [.ro 1 n (.flts .f32 r), .ro 1 gn (.flts .f32 g), .ro 1 cn (.flts .f32 c)]) 0, .bool false, .int .i64 m, .int .i64 (.ofNat i), .int .i64 0], [] => some (.ite (decide (m = Int.ofNat n) && Nat.blt i n && Nat.ble n 6 && Nat.beq cn (n * n)) (.ite (allUpTo (fun k => !badsym c n i k) (n)) (.leaf .normal (I56j n gn cn i r g c (n)) []) (.leaf (.ret) ((I56j n gn cn i r g c) (firstIdx (fun k => !badsym c n i k) (n))) [])) .fail)
  | _, _ => none
theorem loop56j : CodeOK Try.prog (fun _ σ => sumAt Try.f56.ntmps 1168 [0, 2, 3, 4, 5] [] F56j σ) (.block 2 (.loop (loopOf Try.f56 2))) := by
  refine block_ok (own := fun _ => true) (lp := (fun _ => none)) (un := 0) (fuel := 1000) cfg6_ok (lp_none _) fun az os R hF hok => ?_
  unfold F56j at hF
  split at hF
  · rename_i n r gn g cn c m i
    injection hF with hF
    subst hF
    have hg := hok.guard
    have hg' := hg
    simp only [Bool.and_eq_true, Nat.ble_eq, Nat.beq_eq, decide_eq_true_eq] at hg'
    obtain ⟨⟨⟨rfl, hi⟩, hn⟩, hcn⟩ := hg'
    have hi := blt_lt' hi
    refine for_fact0 (fun k => !badsym c n i k) (n) (I56j n gn cn i r g c) _ (.ret) (I56j n gn cn i r g c) (I56j n gn cn i r g c) (I56j n gn cn i r g c (n)) rfl (fun _ => rfl) (fun _ => ALe.self _) (fun _ => rfl) (ALe.self _) rfl (fun h => by cases h) (fun k hk L h1 h2 h3 => ?_) fun L hL => ?_
    · rw [round56j]
      by_cases hkm : k < n
      · refine condT (lt_dec hkm) ?_
        rw [wrap_ix hkm hi hn, wrap_ix hi hkm hn]
        refine condT (by rw [hcn]; simp only [dec0, lt_dec (ix_lt hkm hi hn), lt_dec (ix_lt hi hkm hn), Bool.and_self, Bool.true_or, Bool.and_true]) ?_
        show cond (badsym c n i k) _ _
        cases hs : badsym c n i k
        · have := h1 hkm (by rw [hs]; rfl)
          rw [wrap_succ (by omega)]
          exact this
        · exact h2 hkm (by rw [hs]; rfl)
      · refine condE (ge_dec (by omega)) ?_
        obtain rfl : k = n := by omega
        exact h3 rfl
    · exact ⟨fun h => (hL.1 hg).1 h, fun N hN hf hall => by
        have := (hL.1 hg).2 (allUpTo_false hN hf)
        rw [firstIdx_eq hN hf hall] at this
        exact this⟩
  · cases hF

noncomputable def lpi56i : List (Nat × (St → T)) := [(2, sumAt Try.f56.ntmps 1168 [0, 2, 3, 4, 5] [] F56j)]
theorem lpi56i_ok : LpOK Try.prog (look lpi56i) (loopOf Try.f56 0) := lp_in (lp_loops (by kernel_rfl) (by kernel_rfl) fun p hp => by
  simp only [lpi56i, List.mem_cons, List.not_mem_nil, or_false] at hp
  rcases hp with rfl
  · exact loop56j) _
noncomputable def I56i (n gn cn : Nat) (r g c : Nat → Nat) (k : Nat) : List A := [.rop (.agg [.ro 1 n (.flts .f32 r), .ro 1 gn (.flts .f32 g), .ro 1 cn (.flts .f32 c)]) 0, .bool false, .int .i64 (Int.ofNat n), .int .i64 (Int.ofNat k)]
theorem round56i (n gn cn : Nat) (r g c : Nat → Nat) (k : Nat) (L : XK → List A → List (Option O) → Prop) :
    ((exec cfg6 (fun _ => true) (look lpi56i) 0 1000 (loopOf Try.f56 0) (litSt Try.f56.ntmps 544 [0, 2, 3, 4] [] (I56i n gn cn r g c k) [])).rt [0, 2, 3, 4] []).Ok L =
    bif decide (Int.ofNat k < Int.ofNat n) then
      bif decide (Int.ofNat k < Int.ofNat n) then
        bif decide (Int.ofNat k < Int.ofNat gn) || !(!least (r k)) == false then
          bif decide (0 ≤ IntKind.i64.wrap (IntKind.i64.wrap (Int.ofNat k * Int.ofNat n) + Int.ofNat k)) && decide (IntKind.i64.wrap (IntKind.i64.wrap (Int.ofNat k * Int.ofNat n) + Int.ofNat k) < Int.ofNat cn) || !(bif !least (r k) then true else !least (g k)) == false then
            bif bif bif !least (r k) then true else !least (g k) then true else !forder FloatKind.f32 (c (IntKind.i64.wrap (IntKind.i64.wrap (Int.ofNat k * Int.ofNat n) + Int.ofNat k)).toNat) (can FloatKind.f32 0) == some Ordering.gt then
              L (XK.ret) [(A.agg [A.ro 1 n (Row.flts FloatKind.f32 r), A.ro 1 gn (Row.flts FloatKind.f32 g), A.ro 1 cn (Row.flts FloatKind.f32 c)]).rop 0, A.bool false, A.int IntKind.i64 (Int.ofNat n), A.int IntKind.i64 (Int.ofNat k)] []
            else
              bif decide (Int.ofNat n = Int.ofNat n) && k.blt n && n.ble 6 && cn.beq (n * n) then
                bif allUpTo (fun k_1 => !badsym c n k k_1) n then
                  L (XK.normal) [(A.agg [A.ro 1 n (Row.flts FloatKind.f32 r), A.ro 1 gn (Row.flts FloatKind.f32 g), A.ro 1 cn (Row.flts FloatKind.f32 c)]).rop 0, A.bool false, A.int IntKind.i64 (Int.ofNat n), A.int IntKind.i64 (IntKind.i64.wrap (Int.ofNat k + Int.ofNat 1))] []
                else
                  L (XK.ret) [(A.agg [A.ro 1 n (Row.flts FloatKind.f32 r), A.ro 1 gn (Row.flts FloatKind.f32 g), A.ro 1 cn (Row.flts FloatKind.f32 c)]).rop 0, A.bool false, A.int IntKind.i64 (Int.ofNat n), A.int IntKind.i64 (Int.ofNat k)] []
              else
                False
          else
            False
        else
          False
      else
        False
    else
      L (XK.exit 0) [(A.agg [A.ro 1 n (Row.flts FloatKind.f32 r), A.ro 1 gn (Row.flts FloatKind.f32 g), A.ro 1 cn (Row.flts FloatKind.f32 c)]).rop 0, A.bool false, A.int IntKind.i64 (Int.ofNat n), A.int IntKind.i64 (Int.ofNat k)] [] := by kernel_rfl
noncomputable def F56i : List A → List (Option O) → Option R3
  | [.rop (.agg [.ro 1 n (.flts .f32 r), .ro 1 gn (.flts .f32 g), .ro 1 cn (.flts .f32 c)]) 0, .bool false, .int .i64 m, .int .i64 0], [] => some (.ite (decide (m = Int.ofNat n) && Nat.ble n 6 && Nat.beq cn (n * n) && Nat.beq gn n) (.ite (allUpTo (fun k => !badrow r g c n k && allUpTo (fun j => !badsym c n k j) n) (n)) (.leaf .normal (I56i n gn cn r g c (n)) []) (.leaf (.ret) ((I56i n gn cn r g c) (firstIdx (fun k => !badrow r g c n k && allUpTo (fun j => !badsym c n k j) n) (n))) [])) .fail)
  | _, _ => none
theorem loop56i : CodeOK Try.prog (fun _ σ => sumAt Try.f56.ntmps 544 [0, 2, 3, 4] [] F56i σ) (.block 0 (.loop (loopOf Try.f56 0))) := by
  refine block_ok (own := fun _ => true) (lp := (look lpi56i)) (un := 0) (fuel := 1000) cfg6_ok lpi56i_ok fun az os R hF hok => ?_
  unfold F56i at hF
  split at hF
  · rename_i n r gn g cn c m
    injection hF with hF
    subst hF
    have hg := hok.guard
    have hg' := hg
    simp only [Bool.and_eq_true, Nat.ble_eq, Nat.beq_eq, decide_eq_true_eq] at hg'
    obtain ⟨⟨⟨rfl, hn⟩, hcn⟩, hgn⟩ := hg'
    refine for_fact0 (fun k => !badrow r g c n k && allUpTo (fun j => !badsym c n k j) n) (n) (I56i n gn cn r g c) _ (.ret) (I56i n gn cn r g c) (I56i n gn cn r g c) (I56i n gn cn r g c (n)) rfl (fun _ => rfl) (fun _ => ALe.self _) (fun _ => rfl) (ALe.self _) rfl (fun h => by cases h) (fun k hk L h1 h2 h3 => ?_) fun L hL => ?_
    · rw [round56i]
      by_cases hkm : k < n
      · refine condT (lt_dec hkm) ?_
        rw [wrap_ix hkm hkm hn]
        refine condT (lt_dec hkm) ?_
        refine condT (by rw [hgn, lt_dec hkm, Bool.true_or]) ?_
        refine condT (by rw [hcn]; simp only [dec0, lt_dec (ix_lt hkm hkm hn), Bool.and_self, Bool.true_or]) ?_
        show cond (badrow r g c n k) _ _
        cases hs : badrow r g c n k
        · refine condE rfl ?_
          refine condT (by simp only [hcn, Nat.beq_refl, Nat.ble_eq_true_of_le hn, lt_blt hkm, decide_true, Bool.and_self]) ?_
          cases ha : allUpTo (fun j => !badsym c n k j) n
          · exact h2 hkm (by rw [hs, ha]; rfl)
          · have := h1 hkm (by rw [hs, ha]; rfl)
            rw [wrap_succ (by omega)]
            exact this
        · exact h2 hkm (by rw [hs]; rfl)
      · refine condE (ge_dec (by omega)) ?_
        obtain rfl : k = n := by omega
        exact h3 rfl
    · exact ⟨fun h => (hL.1 hg).1 h, fun N hN hf hall => by
        have := (hL.1 hg).2 (allUpTo_false hN hf)
        rw [firstIdx_eq hN hf hall] at this
        exact this⟩
  · cases hF

noncomputable def sizes (n gn cn : Nat) : Bool := decide (1 ≤ n ∧ n ≤ 6 ∧ gn = n ∧ cn = n * n)
theorem ne_nat (a b : Nat) : (Int.ofNat a != Int.ofNat b) = !decide (a = b) := by
  by_cases h : a = b
  · subst h; simp
  · simp [h]; omega
theorem sizes_eq (n gn cn : Nat) : (bif bif bif decide (Int.ofNat n < 1) then true else decide (Int.ofNat n > 6) then true else Int.ofNat gn != Int.ofNat n then true else Int.ofNat cn != IntKind.i64.wrap (Int.ofNat n * Int.ofNat n)) = !sizes n gn cn := by
  by_cases h1 : n < 1
  · rw [show decide (Int.ofNat n < 1) = true by simp; omega]
    simp [sizes]; omega
  rw [show decide (Int.ofNat n < 1) = false by simp; omega]
  by_cases h2 : n > 6
  · rw [show decide (Int.ofNat n > 6) = true by simp; omega]
    simp [sizes]; omega
  rw [show decide (Int.ofNat n > 6) = false by simp; omega, wrap_mm (by omega), ne_nat, ne_nat]
  by_cases h3 : gn = n
  · by_cases h4 : cn = n * n
    · simp [sizes, h3, h4]; omega
    · simp [sizes, h3, h4]
  · simp [sizes, h3]
/-- A valid circuit, as the reference looks. -/
noncomputable def valid (n gn cn : Nat) (r g c : Nat → Nat) : Bool := sizes n gn cn && allUpTo (fun k => !badrow r g c n k && allUpTo (fun j => !badsym c n k j) n) n
noncomputable def lp56 : List (Nat × (St → T)) := [(0, sumAt Try.f56.ntmps 544 [0, 2, 3, 4] [] F56i)]
theorem lp56_ok : LpOK Try.prog (look lp56) (bodyOf Try.f56) := lp_loops (by kernel_rfl) (by kernel_rfl) fun p hp => by
  simp only [lp56, List.mem_cons, List.not_mem_nil, or_false] at hp
  rcases hp with rfl
  · exact loop56i
theorem auto56 (n gn cn : Nat) (r g c : Nat → Nat) : autoLp cfg6 (look lp56) Try.f56 [.rop (.agg [.ro 1 n (.flts .f32 r), .ro 1 gn (.flts .f32 g), .ro 1 cn (.flts .f32 c)]) 0] =
    some (bif bif bif bif decide (Int.ofNat n < 1) then true else decide (Int.ofNat n > 6) then true else Int.ofNat gn != Int.ofNat n then true else Int.ofNat cn != IntKind.i64.wrap (Int.ofNat n * Int.ofNat n) then true else decide (Int.ofNat n = Int.ofNat n) && n.ble 6 && cn.beq (n * n) && gn.beq n && bif allUpTo (fun k => !badrow r g c n k && allUpTo (fun j => !badsym c n k j) n) n then true else true, A.bool (bif bif bif bif decide (Int.ofNat n < 1) then true else decide (Int.ofNat n > 6) then true else Int.ofNat gn != Int.ofNat n then true else Int.ofNat cn != IntKind.i64.wrap (Int.ofNat n * Int.ofNat n) then false else bif allUpTo (fun k => !badrow r g c n k && allUpTo (fun j => !badsym c n k j) n) n then true else false)) := by kernel_rfl
noncomputable def s56 : List A → Option (Bool × A)
  | [.rop (.agg [.ro 1 n (.flts .f32 r), .ro 1 gn (.flts .f32 g), .ro 1 cn (.flts .f32 c)]) 0] => some (true, .bool (valid n gn cn r g c))
  | _ => none
theorem s56_at : EnvAt Try.prog 56 s56 := of_auto cfg6_ok lp56_ok Try.func56 (by kernel_rfl) (by kernel_rfl) fun ds cc rr h hc => by
  unfold s56 at h
  split at h
  · rename_i n r gn g cn c
    simp only [Option.some.injEq, Prod.mk.injEq] at h
    obtain ⟨rfl, rfl⟩ := h
    refine auto_fit (auto56 n gn cn r g c) ?_ ?_
    · rw [sizes_eq]
      unfold valid
      cases sizes n gn cn
      · rfl
      · cases allUpTo (fun k => !badrow r g c n k && allUpTo (fun j => !badsym c n k j) n) n <;> rfl
    · rw [sizes_eq]
      cases hs : sizes n gn cn
      · rfl
      · simp only [sizes, decide_eq_true_eq] at hs
        simp [hs]
  · cases h

end Go.Fw.C1

/-
  Circuits that are valid: the program's test.
-/
namespace Go.Fw.C1
open Go.Proofs

noncomputable def env7 : List (Nat × (List A → Option (Bool × A))) := (56, s56) :: (60, auto cfg6 Try.f60) :: env6
theorem env7_ok : EnvOK Try.prog (look env7) := (env_cons s56_at (env_cons (auto_at cfg6_ok Try.func60 (by kernel_rfl) (by kernel_rfl)) env6_ok))
noncomputable def cfg7 : Cfg := mkCfg tab [] xts (look env7)
theorem cfg7_ok : CfgOK Try.prog cfg7 := cfg_ok tab_eq (no_fts _) xts_ok env7_ok mixed
noncomputable def unsym (c : Nat → Nat) (n i j : Nat) : Bool := forder .f32 (c (i * n + j)) (c (j * n + i)) != some .eq
noncomputable def notpos (c : Nat → Nat) (n i : Nat) : Bool := !(forder .f32 (c (i * n + i)) (can .f32 0) == some .gt)

noncomputable def I21j (n gn cn i : Nat) (p q : Int) (r g c : Nat → Nat) (k : Nat) : List A := [.ptr 0 0, .bool false, .int .i64 (Int.ofNat i), .int .i64 p, .int .i64 q, .int .i64 (Int.ofNat i), .int .i64 (Int.ofNat k)]
noncomputable def J21j (n gn cn i : Nat) (p q : Int) (r g c : Nat → Nat) : List O := [.var [.ro 1 n (.flts .f32 r), .ro 1 gn (.flts .f32 g), .ro 1 cn (.flts .f32 c)]]
theorem round21j (n gn cn i : Nat) (p q : Int) (r g c : Nat → Nat) (k : Nat) (L : XK → List A → List (Option O) → Prop) :
    ((exec cfg7 (fun _ => true) (fun _ => none) 0 1000 (loopOf Try.f21 2) (litSt Try.f21.ntmps 928 [1, 2, 4, 48, 49, 58, 59] [0] (I21j n gn cn i p q r g c k) (J21j n gn cn i p q r g c))).rt [1, 2, 4, 48, 49, 58, 59] [0]).Ok L =
    bif decide (Int.ofNat k < Int.ofNat i) then
      bif decide (0 ≤ IntKind.i64.wrap (IntKind.i64.wrap (Int.ofNat i * Int.ofNat n) + Int.ofNat k)) && decide (IntKind.i64.wrap (IntKind.i64.wrap (Int.ofNat i * Int.ofNat n) + Int.ofNat k) < Int.ofNat cn) && true && true then
        bif decide (0 ≤ IntKind.i64.wrap (IntKind.i64.wrap (Int.ofNat k * Int.ofNat n) + Int.ofNat i)) && decide (IntKind.i64.wrap (IntKind.i64.wrap (Int.ofNat k * Int.ofNat n) + Int.ofNat i) < Int.ofNat cn) && true then
          bif forder FloatKind.f32 (c (IntKind.i64.wrap (IntKind.i64.wrap (Int.ofNat i * Int.ofNat n) + Int.ofNat k)).toNat) (c (IntKind.i64.wrap (IntKind.i64.wrap (Int.ofNat k * Int.ofNat n) + Int.ofNat i)).toNat) != some Ordering.eq then
            L (XK.ret) [A.ptr 0 0, A.bool false, A.int IntKind.i64 (Int.ofNat i), A.int IntKind.i64 p, A.int IntKind.i64 q, A.int IntKind.i64 (Int.ofNat i), A.int IntKind.i64 (Int.ofNat k)] [some (O.var [A.ro 1 n (Row.flts FloatKind.f32 r), A.ro 1 gn (Row.flts FloatKind.f32 g), A.ro 1 cn (Row.flts FloatKind.f32 c)])]
          else
            L (XK.normal) [A.ptr 0 0, A.bool false, A.int IntKind.i64 (Int.ofNat i), A.int IntKind.i64 p, A.int IntKind.i64 q, A.int IntKind.i64 (Int.ofNat i), A.int IntKind.i64 (IntKind.i64.wrap (Int.ofNat k + Int.ofNat 1))] [some (O.var [A.ro 1 n (Row.flts FloatKind.f32 r), A.ro 1 gn (Row.flts FloatKind.f32 g), A.ro 1 cn (Row.flts FloatKind.f32 c)])]
        else
          False
      else
        False
    else
      L (XK.exit 2) [A.ptr 0 0, A.bool false, A.int IntKind.i64 (Int.ofNat i), A.int IntKind.i64 p, A.int IntKind.i64 q, A.int IntKind.i64 (Int.ofNat i), A.int IntKind.i64 (Int.ofNat k)] [some (O.var [A.ro 1 n (Row.flts FloatKind.f32 r), A.ro 1 gn (Row.flts FloatKind.f32 g), A.ro 1 cn (Row.flts FloatKind.f32 c)])] := by kernel_rfl
noncomputable def F21j : List A → List (Option O) → Option R3
  | [.ptr 0 0, .bool false, .int .i64 (.ofNat i), .int .i64 p, .int .i64 q, .int .i64 m, .int .i64 0], [some (.var [.ro 1 n (.flts .f32 r), .ro 1 gn (.flts .f32 g), .ro 1 cn (.flts .f32 c)])] => some (.ite (decide (m = Int.ofNat i) && Nat.blt i n && Nat.ble n 6 && Nat.beq cn (n * n)) (.ite (allUpTo (fun k => !unsym c n i k) (i)) (.leaf .normal (I21j n gn cn i p q r g c (i)) (J21j n gn cn i p q r g c)) (.leaf (.ret) ((I21j n gn cn i p q r g c) (firstIdx (fun k => !unsym c n i k) (i))) (J21j n gn cn i p q r g c))) .fail)
  | _, _ => none
theorem loop21j : CodeOK Try.prog (fun _ σ => sumAt Try.f21.ntmps 928 [1, 2, 4, 48, 49, 58, 59] [0] F21j σ) (.block 2 (.loop (loopOf Try.f21 2))) := by
  refine block_ok (own := fun _ => true) (lp := (fun _ => none)) (un := 0) (fuel := 1000) cfg7_ok (lp_none _) fun az os R hF hok => ?_
  unfold F21j at hF
  split at hF
  · rename_i i p q m n r gn g cn c
    injection hF with hF
    subst hF
    have hg := hok.guard
    have hg' := hg
    simp only [Bool.and_eq_true, Nat.ble_eq, Nat.beq_eq, decide_eq_true_eq] at hg'
    obtain ⟨⟨⟨rfl, hi⟩, hn⟩, hcn⟩ := hg'
    have hi := blt_lt' hi
    refine for_fact (fun k => !unsym c n i k) (i) (I21j n gn cn i p q r g c) (fun _ => J21j n gn cn i p q r g c) _ (.ret) (I21j n gn cn i p q r g c) (I21j n gn cn i p q r g c) (I21j n gn cn i p q r g c (i)) (J21j n gn cn i p q r g c) rfl (OSims.self (J21j n gn cn i p q r g c)) (fun _ => rfl) (fun _ => rfl) (fun _ => ALe.self _) (fun _ => rfl) (ALe.self _) (OSims.self (J21j n gn cn i p q r g c)) rfl (fun h => by cases h) (fun k hk L h1' h2 h3 => ?_) fun L hL => ?_
    · have h1 := fun a b => h1' a b _ (OSims.self (J21j n gn cn i p q r g c))
      rw [round21j]
      by_cases hkm : k < i
      · refine condT (lt_dec hkm) ?_
        have hkn : k < n := by omega
        rw [wrap_ix hkn hi hn, wrap_ix hi hkn hn]
        refine condT (by rw [hcn]; simp only [dec0, lt_dec (ix_lt hkn hi hn), lt_dec (ix_lt hi hkn hn), Bool.and_self, Bool.true_or, Bool.and_true]) ?_
        refine condT (by rw [hcn]; simp only [dec0, lt_dec (ix_lt hkn hi hn), lt_dec (ix_lt hi hkn hn), Bool.and_self, Bool.true_or, Bool.and_true]) ?_
        show cond (unsym c n i k) _ _
        cases hs : unsym c n i k
        · have := h1 hkm (by rw [hs]; rfl)
          rw [wrap_succ (by omega)]
          exact this
        · exact h2 hkm (by rw [hs]; rfl)
      · refine condE (ge_dec (by omega)) ?_
        obtain rfl : k = i := by omega
        exact h3 rfl
    · exact ⟨fun h => (hL.1 hg).1 h, fun N hN hf hall => by
        have := (hL.1 hg).2 (allUpTo_false hN hf)
        rw [firstIdx_eq hN hf hall] at this
        exact this⟩
  · cases hF

noncomputable def lpi21i : List (Nat × (St → T)) := [(2, sumAt Try.f21.ntmps 928 [1, 2, 4, 48, 49, 58, 59] [0] F21j)]
theorem lpi21i_ok : LpOK Try.prog (look lpi21i) (loopOf Try.f21 0) := lp_in (lp_loops (by kernel_rfl) (by kernel_rfl) fun p hp => by
  simp only [lpi21i, List.mem_cons, List.not_mem_nil, or_false] at hp
  rcases hp with rfl
  · exact loop21j) _
noncomputable def I21i (n gn cn : Nat) (r g c : Nat → Nat) (k : Nat) : List A := [.ptr 0 0, .bool false, .int .i64 (Int.ofNat n), .int .i64 (Int.ofNat k)]
noncomputable def J21i (n gn cn : Nat) (r g c : Nat → Nat) : List O := [.var [.ro 1 n (.flts .f32 r), .ro 1 gn (.flts .f32 g), .ro 1 cn (.flts .f32 c)]]
theorem round21i (n gn cn : Nat) (r g c : Nat → Nat) (k : Nat) (L : XK → List A → List (Option O) → Prop) :
    ((exec cfg7 (fun _ => true) (look lpi21i) 0 1000 (loopOf Try.f21 0) (litSt Try.f21.ntmps 752 [1, 2, 48, 49] [0] (I21i n gn cn r g c k) (J21i n gn cn r g c))).rt [1, 2, 48, 49] [0]).Ok L =
    bif decide (Int.ofNat k < Int.ofNat n) then
      bif decide (0 ≤ IntKind.i64.wrap (IntKind.i64.wrap (Int.ofNat k * Int.ofNat n) + Int.ofNat k)) && decide (IntKind.i64.wrap (IntKind.i64.wrap (Int.ofNat k * Int.ofNat n) + Int.ofNat k) < Int.ofNat cn) && true then
        bif !forder FloatKind.f32 (c (IntKind.i64.wrap (IntKind.i64.wrap (Int.ofNat k * Int.ofNat n) + Int.ofNat k)).toNat) (can FloatKind.f32 0) == some Ordering.gt then
          L (XK.ret) [A.ptr 0 0, A.bool false, A.int IntKind.i64 (Int.ofNat n), A.int IntKind.i64 (Int.ofNat k)] [some (O.var [A.ro 1 n (Row.flts FloatKind.f32 r), A.ro 1 gn (Row.flts FloatKind.f32 g), A.ro 1 cn (Row.flts FloatKind.f32 c)])]
        else
          bif decide (Int.ofNat k = Int.ofNat k) && k.blt n && n.ble 6 && cn.beq (n * n) then
            bif allUpTo (fun k_1 => !unsym c n k k_1) k then
              L (XK.normal) [A.ptr 0 0, A.bool false, A.int IntKind.i64 (Int.ofNat n), A.int IntKind.i64 (IntKind.i64.wrap (Int.ofNat k + Int.ofNat 1))] [some (O.var [A.ro 1 n (Row.flts FloatKind.f32 r), A.ro 1 gn (Row.flts FloatKind.f32 g), A.ro 1 cn (Row.flts FloatKind.f32 c)])]
            else
              L (XK.ret) [A.ptr 0 0, A.bool false, A.int IntKind.i64 (Int.ofNat n), A.int IntKind.i64 (Int.ofNat k)] [some (O.var [A.ro 1 n (Row.flts FloatKind.f32 r), A.ro 1 gn (Row.flts FloatKind.f32 g), A.ro 1 cn (Row.flts FloatKind.f32 c)])]
          else
            False
      else
        False
    else
      L (XK.exit 0) [A.ptr 0 0, A.bool false, A.int IntKind.i64 (Int.ofNat n), A.int IntKind.i64 (Int.ofNat k)] [some (O.var [A.ro 1 n (Row.flts FloatKind.f32 r), A.ro 1 gn (Row.flts FloatKind.f32 g), A.ro 1 cn (Row.flts FloatKind.f32 c)])] := by kernel_rfl
noncomputable def F21i : List A → List (Option O) → Option R3
  | [.ptr 0 0, .bool false, .int .i64 m, .int .i64 0], [some (.var [.ro 1 n (.flts .f32 r), .ro 1 gn (.flts .f32 g), .ro 1 cn (.flts .f32 c)])] => some (.ite (decide (m = Int.ofNat n) && Nat.ble n 6 && Nat.beq cn (n * n)) (.ite (allUpTo (fun k => !notpos c n k && allUpTo (fun j => !unsym c n k j) k) (n)) (.leaf .normal (I21i n gn cn r g c (n)) (J21i n gn cn r g c)) (.leaf (.ret) ((I21i n gn cn r g c) (firstIdx (fun k => !notpos c n k && allUpTo (fun j => !unsym c n k j) k) (n))) (J21i n gn cn r g c))) .fail)
  | _, _ => none
theorem loop21i : CodeOK Try.prog (fun _ σ => sumAt Try.f21.ntmps 752 [1, 2, 48, 49] [0] F21i σ) (.block 0 (.loop (loopOf Try.f21 0))) := by
  refine block_ok (own := fun _ => true) (lp := (look lpi21i)) (un := 0) (fuel := 1000) cfg7_ok lpi21i_ok fun az os R hF hok => ?_
  unfold F21i at hF
  split at hF
  · rename_i m n r gn g cn c
    injection hF with hF
    subst hF
    have hg := hok.guard
    have hg' := hg
    simp only [Bool.and_eq_true, Nat.ble_eq, Nat.beq_eq, decide_eq_true_eq] at hg'
    obtain ⟨⟨rfl, hn⟩, hcn⟩ := hg'
    refine for_fact (fun k => !notpos c n k && allUpTo (fun j => !unsym c n k j) k) (n) (I21i n gn cn r g c) (fun _ => J21i n gn cn r g c) _ (.ret) (I21i n gn cn r g c) (I21i n gn cn r g c) (I21i n gn cn r g c (n)) (J21i n gn cn r g c) rfl (OSims.self (J21i n gn cn r g c)) (fun _ => rfl) (fun _ => rfl) (fun _ => ALe.self _) (fun _ => rfl) (ALe.self _) (OSims.self (J21i n gn cn r g c)) rfl (fun h => by cases h) (fun k hk L h1' h2 h3 => ?_) fun L hL => ?_
    · have h1 := fun a b => h1' a b _ (OSims.self (J21i n gn cn r g c))
      rw [round21i]
      by_cases hkm : k < n
      · refine condT (lt_dec hkm) ?_
        rw [wrap_ix hkm hkm hn]
        refine condT (by rw [hcn]; simp only [dec0, lt_dec (ix_lt hkm hkm hn), Bool.and_self, Bool.and_true]) ?_
        show cond (notpos c n k) _ _
        cases hs : notpos c n k
        · refine condE rfl ?_
          refine condT (by simp only [hcn, Nat.beq_refl, Nat.ble_eq_true_of_le hn, lt_blt hkm, decide_true, Bool.and_self]) ?_
          cases ha : allUpTo (fun j => !unsym c n k j) k
          · exact h2 hkm (by rw [hs, ha]; rfl)
          · have := h1 hkm (by rw [hs, ha]; rfl)
            rw [wrap_succ (by omega)]
            exact this
        · exact h2 hkm (by rw [hs]; rfl)
      · refine condE (ge_dec (by omega)) ?_
        obtain rfl : k = n := by omega
        exact h3 rfl
    · exact ⟨fun h => (hL.1 hg).1 h, fun N hN hf hall => by
        have := (hL.1 hg).2 (allUpTo_false hN hf)
        rw [firstIdx_eq hN hf hall] at this
        exact this⟩
  · cases hF


theorem fin_notNaN {x : Nat} (h : fin x = true) : isNaN .f32 x = false := by
  cases hx : isNaN .f32 x
  · rfl
  · unfold fin at h
    rw [fop_nan (.inl hx), forder_none.2 (.inl (isNaN_qnan _))] at h
    cases h
theorem least_bad (x : Nat) : (!least x) = bad x := by
  unfold least bad
  cases hf : fin x
  · rfl
  · have h1 := fin_notNaN hf
    have h2 : forder .f32 x (can .f32 0) ≠ none := fun h => by
      rcases forder_none.1 h with h | h
      · rw [h1] at h; cases h
      · rw [isNaN_zero] at h; cases h
    show (!ge0 x) = lt0 x
    unfold ge0 lt0
    cases ho : forder .f32 x (can .f32 0) with
    | none => exact absurd ho h2
    | some o => cases o <;> rfl
theorem badrow_eq (r g c : Nat → Nat) (n i : Nat) : badrow r g c n i = (bad (r i) || bad (g i) || notpos c n i) := by
  unfold badrow notpos
  rw [least_bad, least_bad]
  cases bad (r i) <;> cases bad (g i) <;> rfl
theorem badsym_eq (c : Nat → Nat) (n i j : Nat) : badsym c n i j = (!fin (c (i * n + j)) || unsym c n i j) := by
  unfold badsym unsym
  cases fin (c (i * n + j)) <;> rfl
theorem unsym_comm (c : Nat → Nat) (n i j : Nat) : unsym c n i j = unsym c n j i := forder_eq_comm _ _ _
theorem unsym_self {c : Nat → Nat} {n i : Nat} (h : fin (c (i * n + i)) = true) : unsym c n i i = false := by
  unfold unsym
  rw [forder_self (fin_notNaN h)]
  rfl

/-- The program looks at the same. -/
theorem valid_eq {n cn : Nat} (r g c : Nat → Nat) (hcn : cn = n * n) :
    allUpTo (fun k => !badrow r g c n k && allUpTo (fun j => !badsym c n k j) n) n =
      (allUpTo (fun k => !bad (r k)) n && (allUpTo (fun k => !bad (g k)) n && (allUpTo (fun k => fin (c k)) cn && allUpTo (fun k => !notpos c n k && allUpTo (fun j => !unsym c n k j) k) n))) := by
  subst hcn
  apply Bool.eq_iff_iff.2
  simp only [Bool.and_eq_true, allUpTo_iff, badrow_eq, badsym_eq, Bool.not_eq_true', Bool.or_eq_false_iff, Bool.not_eq_false']
  constructor
  · intro h
    refine ⟨fun i hi => (h i hi).1.1.1, fun i hi => (h i hi).1.1.2, fun k hk => ?_, fun i hi => ⟨(h i hi).1.2, fun j hj => ((h i hi).2 j (by omega)).2⟩⟩
    have hn : 0 < n := by
      rcases Nat.eq_zero_or_pos n with h0 | h0
      · subst h0; simp at hk
      · exact h0
    have h1 : k / n < n := (Nat.div_lt_iff_lt_mul hn).2 hk
    have := ((h (k / n) h1).2 (k % n) (Nat.mod_lt _ hn)).1
    rwa [Nat.mul_comm, Nat.div_add_mod] at this
  · rintro ⟨h1, h2, h3, h4⟩ i hi
    have hfin : ∀ a b, a < n → b < n → fin (c (a * n + b)) = true := fun a b ha hb => h3 _ (by
      have : (a + 1) * n ≤ n * n := Nat.mul_le_mul_right n ha
      rw [Nat.add_mul, Nat.one_mul] at this
      omega)
    refine ⟨⟨⟨h1 i hi, h2 i hi⟩, (h4 i hi).1⟩, fun j hj => ⟨hfin i j hi hj, ?_⟩⟩
    rcases Nat.lt_trichotomy j i with h | h | h
    · exact (h4 i hi).2 j h
    · subst h; exact unsym_self (hfin j j hi hi)
    · rw [unsym_comm]; exact (h4 j hj).2 i h

noncomputable def lp21 : List (Nat × (St → T)) := [(0, sumAt Try.f21.ntmps 752 [1, 2, 48, 49] [0] F21i)]
theorem lp21_ok : LpOK Try.prog (look lp21) (bodyOf Try.f21) := lp_loops (by kernel_rfl) (by kernel_rfl) fun p hp => by
  simp only [lp21, List.mem_cons, List.not_mem_nil, or_false] at hp
  rcases hp with rfl
  · exact loop21i
theorem auto21 (n gn cn : Nat) (r g c : Nat → Nat) : autoLp cfg7 (look lp21) Try.f21 [.agg [.ro 1 n (.flts .f32 r), .ro 1 gn (.flts .f32 g), .ro 1 cn (.flts .f32 c)]] =
    some ((n.ble 4611686018427387000 || !(bif bif bif decide (Int.ofNat n < 1) then true else decide (Int.ofNat n > 6) then true else Int.ofNat gn != Int.ofNat n then true else Int.ofNat cn != IntKind.i64.wrap (Int.ofNat n * Int.ofNat n)) == false) && ((gn.ble 4611686018427387000 || !(bif bif bif bif decide (Int.ofNat n < 1) then true else decide (Int.ofNat n > 6) then true else Int.ofNat gn != Int.ofNat n then true else Int.ofNat cn != IntKind.i64.wrap (Int.ofNat n * Int.ofNat n) then true else !allUpTo (fun k => !bad (r k)) n) == false) && ((cn.ble 4611686018427387000 || !(bif bif bif bif bif decide (Int.ofNat n < 1) then true else decide (Int.ofNat n > 6) then true else Int.ofNat gn != Int.ofNat n then true else Int.ofNat cn != IntKind.i64.wrap (Int.ofNat n * Int.ofNat n) then true else !allUpTo (fun k => !bad (r k)) n then true else !allUpTo (fun k => !bad (g k)) gn) == false) && bif bif bif bif bif bif bif decide (Int.ofNat n < 1) then true else decide (Int.ofNat n > 6) then true else Int.ofNat gn != Int.ofNat n then true else Int.ofNat cn != IntKind.i64.wrap (Int.ofNat n * Int.ofNat n) then true else !allUpTo (fun k => !bad (r k)) n then true else !allUpTo (fun k => !bad (g k)) gn then true else !allUpTo (fun k => fin (c k)) cn then true else decide (Int.ofNat n = Int.ofNat n) && n.ble 6 && cn.beq (n * n) && bif allUpTo (fun k => !notpos c n k && allUpTo (fun j => !unsym c n k j) k) n then true else true)), A.bool (bif bif bif bif bif bif bif decide (Int.ofNat n < 1) then true else decide (Int.ofNat n > 6) then true else Int.ofNat gn != Int.ofNat n then true else Int.ofNat cn != IntKind.i64.wrap (Int.ofNat n * Int.ofNat n) then true else !allUpTo (fun k => !bad (r k)) n then true else !allUpTo (fun k => !bad (g k)) gn then true else !allUpTo (fun k => fin (c k)) cn then false else bif allUpTo (fun k => !notpos c n k && allUpTo (fun j => !unsym c n k j) k) n then true else false)) := by kernel_rfl
noncomputable def s21 : List A → Option (Bool × A)
  | [.agg [.ro 1 n (.flts .f32 r), .ro 1 gn (.flts .f32 g), .ro 1 cn (.flts .f32 c)]] => some (true, .bool (valid n gn cn r g c))
  | _ => none
theorem s21_at : EnvAt Try.prog 21 s21 := of_auto cfg7_ok lp21_ok Try.func21 (by kernel_rfl) (by kernel_rfl) fun ds cc rr h hc => by
  unfold s21 at h
  split at h
  · rename_i n r gn g cn c
    simp only [Option.some.injEq, Prod.mk.injEq] at h
    obtain ⟨rfl, rfl⟩ := h
    refine auto_fit (auto21 n gn cn r g c) ?_ ?_
    · rw [sizes_eq]
      unfold valid
      cases hs : sizes n gn cn
      · rfl
      · simp only [sizes, decide_eq_true_eq] at hs
        rw [valid_eq r g c hs.2.2.2, hs.2.2.1]
        cases allUpTo (fun k => !bad (r k)) n <;> cases allUpTo (fun k => !bad (g k)) n <;> cases allUpTo (fun k => fin (c k)) cn <;> cases allUpTo (fun k => !notpos c n k && allUpTo (fun j => !unsym c n k j) k) n <;> rfl
    · rw [sizes_eq]
      cases hs : sizes n gn cn
      · simp
      · simp only [sizes, decide_eq_true_eq] at hs
        have h2 := sq_le hs.2.1
        have e1 : n.ble 4611686018427387000 = true := Nat.ble_eq_true_of_le (by omega)
        have e2 : cn.ble 4611686018427387000 = true := Nat.ble_eq_true_of_le (by omega)
        rw [hs.2.2.1, e1, e2]
        simp [hs]
  · cases h

end Go.Fw.C1

/-
  The laws' own functions on circuits.
-/
namespace Go.Fw.C1
open Go.Proofs

/-- What is left behind a slice of length n. -/
def sz1 (left : Int) (n : Nat) : Int := bif decide (IntKind.i64.wrap (left - Int.ofNat n) < 0) then -1 else IntKind.i64.wrap (left - Int.ofNat n)
def szC (n gn cn : Nat) (left : Int) : Int := bif decide (sz1 left n < 0) then -1 else bif decide (sz1 (sz1 left n) gn < 0) then -1 else bif decide (sz1 (sz1 (sz1 left n) gn) cn < 0) then -1 else sz1 (sz1 (sz1 left n) gn) cn

theorem sz1_le {left : Int} {n : Nat} (h0 : 0 ≤ left) (h1 : left ≤ 1048576) (hn : n ≤ 9223372036854775807) : (sz1 left n = -1 ∧ left < n) ∨ (sz1 left n = left - n ∧ (n : Int) ≤ left) := by
  have e : IntKind.i64.wrap (left - Int.ofNat n) = left - n := by
    simp [IntKind.wrap, IntKind.bits, IntKind.signed]
    omega
  unfold sz1
  rw [e]
  by_cases h : left - (n : Int) < 0
  · rw [decide_eq_true h]
    exact .inl ⟨rfl, by omega⟩
  · rw [decide_eq_false h]
    exact .inr ⟨rfl, by omega⟩

theorem szC_le {left : Int} {n gn cn : Nat} (h0 : 0 ≤ left) (h1 : left ≤ 1048576) (hn : n ≤ 9223372036854775807) (hg : gn ≤ 9223372036854775807) (hc : cn ≤ 9223372036854775807) :
    szC n gn cn left = -1 ∨ (0 ≤ szC n gn cn left ∧ szC n gn cn left + n + gn + cn = left) := by
  unfold szC
  rcases sz1_le h0 h1 hn with ⟨e, h⟩ | ⟨e, h⟩
  · rw [e]; exact .inl rfl
  rw [e, decide_eq_false (p := left - (n : Int) < 0) (by omega)]
  rcases sz1_le (left := left - n) (by omega) (by omega) hg with ⟨e, h⟩ | ⟨e, h⟩
  · rw [e]; exact .inl rfl
  rw [e, decide_eq_false (p := left - (n : Int) - gn < 0) (by omega)]
  rcases sz1_le (left := left - n - gn) (by omega) (by omega) hc with ⟨e, h⟩ | ⟨e, h⟩
  · rw [e]; exact .inl rfl
  rw [e, decide_eq_false (p := left - (n : Int) - gn - cn < 0) (by omega)]
  exact .inr ⟨by show 0 ≤ left - (n : Int) - gn - cn; omega, by show left - (n : Int) - gn - cn + n + gn + cn = left; omega⟩

theorem auto51 (n : Nat) (r : Nat → Nat) (left : Int) : autoLp cfg2 (fun _ => none) Try.f51 [.ro 1 n (.flts .f32 r), .int .i64 left] =
    some (bif decide (IntKind.i64.wrap (left - Int.ofNat n) < 0) then true else true, A.int IntKind.i64 (bif decide (IntKind.i64.wrap (left - Int.ofNat n) < 0) then Int.negSucc 0 else IntKind.i64.wrap (left - Int.ofNat n))) := by kernel_rfl
noncomputable def s51 : List A → Option (Bool × A)
  | [.ro 1 n (.flts .f32 r), .int .i64 left] => some (true, .int .i64 (sz1 left n))
  | _ => none
theorem s51_at : EnvAt Try.prog 51 s51 := of_auto cfg2_ok (lp_none _) Try.func51 (by kernel_rfl) (by kernel_rfl) fun ds cc rr h hc => by
  unfold s51 at h
  split at h
  · rename_i n r left
    simp only [Option.some.injEq, Prod.mk.injEq] at h
    obtain ⟨rfl, rfl⟩ := h
    refine auto_fit (auto51 n r left) ?_ ?_
    · rfl
    · simp
  · cases h

noncomputable def env8 : List (Nat × (List A → Option (Bool × A))) := (21, s21) :: (51, s51) :: (17, auto cfg7 Try.f17) :: (19, auto cfg7 Try.f19) :: (20, auto cfg7 Try.f20) :: env7
theorem env8_ok : EnvOK Try.prog (look env8) := (env_cons s21_at (env_cons s51_at (env_cons (auto_at cfg7_ok Try.func17 (by kernel_rfl) (by kernel_rfl)) (env_cons (auto_at cfg7_ok Try.func19 (by kernel_rfl) (by kernel_rfl)) (env_cons (auto_at cfg7_ok Try.func20 (by kernel_rfl) (by kernel_rfl)) env7_ok)))))
noncomputable def cfg8 : Cfg := mkCfg tab [] xts (look env8)
theorem cfg8_ok : CfgOK Try.prog cfg8 := cfg_ok tab_eq (no_fts _) xts_ok env8_ok mixed
theorem auto15 (n gn cn : Nat) (r g c : Nat → Nat) (left : Int) : autoLp cfg8 (fun _ => none) Try.f15 [.agg [.ro 1 n (.flts .f32 r), .ro 1 gn (.flts .f32 g), .ro 1 cn (.flts .f32 c)], .int .i64 left] =
    some (bif decide (sz1 left n < 0) then true else bif decide (sz1 (sz1 left n) gn < 0) then true else bif decide (sz1 (sz1 (sz1 left n) gn) cn < 0) then true else true, A.int IntKind.i64 (bif decide (sz1 left n < 0) then Int.negSucc 0 else bif decide (sz1 (sz1 left n) gn < 0) then Int.negSucc 0 else bif decide (sz1 (sz1 (sz1 left n) gn) cn < 0) then Int.negSucc 0 else sz1 (sz1 (sz1 left n) gn) cn)) := by kernel_rfl
noncomputable def s15 : List A → Option (Bool × A)
  | [.agg [.ro 1 n (.flts .f32 r), .ro 1 gn (.flts .f32 g), .ro 1 cn (.flts .f32 c)], .int .i64 left] => some (true, .int .i64 (szC n gn cn left))
  | _ => none
theorem s15_at : EnvAt Try.prog 15 s15 := of_auto cfg8_ok (lp_none _) Try.func15 (by kernel_rfl) (by kernel_rfl) fun ds cc rr h hc => by
  unfold s15 at h
  split at h
  · rename_i n r gn g cn c left
    simp only [Option.some.injEq, Prod.mk.injEq] at h
    obtain ⟨rfl, rfl⟩ := h
    refine auto_fit (auto15 n gn cn r g c left) ?_ ?_
    · rfl
    · simp
  · cases h

noncomputable def env9 : List (Nat × (List A → Option (Bool × A))) := (15, s15) :: env8
theorem env9_ok : EnvOK Try.prog (look env9) := (env_cons s15_at env8_ok)
noncomputable def cfg9 : Cfg := mkCfg tab [] xts (look env9)
theorem cfg9_ok : CfgOK Try.prog cfg9 := cfg_ok tab_eq (no_fts _) xts_ok env9_ok mixed

theorem allUpTo_all {f : Nat → Bool} (h : ∀ i, f i = true) (m : Nat) : allUpTo f m = true := allUpTo_iff.2 fun i _ => h i
theorem sameF_self (x : Nat) : sameF x x = true := by
  unfold sameF
  cases h : nanF .f64 x
  · cases hz : zeroF .f64 x
    · simp only [nanF, bne_eq_false_iff_eq] at h
      simp [h]
    · simp
  · simp
theorem eqL_self (n : Nat) (r : Nat → Nat) : eqL n n r r = true := by
  unfold eqL
  rw [Nat.beq_refl, allUpTo_all (f := sameAt r r) (fun i => sameF_self _) n]
  rfl
theorem ble_of {n m : Nat} (h : n ≤ m) : n.ble m = true := Nat.ble_eq_true_of_le h

/-- A circuit that came in. -/
def CircA (a : A) : Prop := ∃ n gn cn r g c, (n ≤ 9223372036854775807 ∧ gn ≤ 9223372036854775807 ∧ cn ≤ 9223372036854775807) ∧ ((∀ i, Canon .f32 (r i)) ∧ (∀ i, Canon .f32 (g i)) ∧ (∀ i, Canon .f32 (c i))) ∧
  a = .agg [.ro 1 n (.flts .f32 r), .ro 1 gn (.flts .f32 g), .ro 1 cn (.flts .f32 c)]
/-- Loops that came in. -/
def LoopsA (a : A) : Prop := ∃ n gn cn qn jn r g c q j, (n ≤ 9223372036854775807 ∧ gn ≤ 9223372036854775807 ∧ cn ≤ 9223372036854775807 ∧ qn ≤ 9223372036854775807 ∧ jn ≤ 9223372036854775807) ∧
  a = .agg [.ro 1 n (.flts .f32 r), .ro 1 gn (.flts .f32 g), .ro 1 cn (.flts .f32 c), .ro 1 qn (.flts .f32 q), .ro 1 jn (.flts .f32 j)]
def FltA (a : A) : Prop := ∃ x, Canon .f32 x ∧ a = .flt .f32 x
def IntA (n : Int) : Prop := -9223372036854775808 ≤ n ∧ n ≤ 9223372036854775807

theorem law4 {a : A} (ha : CircA a) : PureCall Try.prog 4 [a] (.bool true) := by
  obtain ⟨n, gn, cn, r, g, c, hs, _, rfl⟩ := ha
  have h : autoLp cfg9 (fun _ => none) Try.f4 [.agg [.ro 1 n (.flts .f32 r), .ro 1 gn (.flts .f32 g), .ro 1 cn (.flts .f32 c)]] =
    some (bif decide (szC n gn cn 1048576 < 0) then true else n.ble 1073741824 && (gn.ble 1073741824 && (cn.ble 1073741824 && true)) && (n.ble 1073741824 && (gn.ble 1073741824 && (cn.ble 1073741824 && true)) && bif !valid n gn cn r g c == valid n gn cn r g c then true else n.ble 1073741824 && (gn.ble 1073741824 && (cn.ble 1073741824 && true)) && true && ((n.ble 4611686018427387904 && bif !eqL n n r r then true else gn.ble 4611686018427387904 && bif !eqL gn gn g g then true else cn.ble 4611686018427387904 && bif !eqL cn cn c c then true else true) && bif !bif !eqL n n r r then false else bif !eqL gn gn g g then false else bif !eqL cn cn c c then false else true then true else true)), A.bool (bif decide (szC n gn cn 1048576 < 0) then true else bif !valid n gn cn r g c == valid n gn cn r g c then false else bif !bif !eqL n n r r then false else bif !eqL gn gn g g then false else bif !eqL cn cn c c then false else true then false else true)) := by kernel_rfl
  have key := (auto_at cfg9_ok Try.func4 (by kernel_rfl) (by kernel_rfl)).2 _ _ _ h
  rcases szC_le (left := 1048576) (by omega) (by omega) hs.1 hs.2.1 hs.2.2 with e | ⟨e0, e⟩
  · rw [e] at key; exact key rfl
  · rw [decide_eq_false (p := szC n gn cn 1048576 < 0) (by omega)] at key
    have h1 : n ≤ 1048576 := by omega
    have h2 : gn ≤ 1048576 := by omega
    have h3 : cn ≤ 1048576 := by omega
    simp only [eqL_self, beq_self_eq_true, Bool.not_true, cond_false, Bool.and_true, ble_of (show n ≤ 1073741824 by omega), ble_of (show gn ≤ 1073741824 by omega), ble_of (show cn ≤ 1073741824 by omega),
      ble_of (show n ≤ 4611686018427387904 by omega), ble_of (show gn ≤ 4611686018427387904 by omega), ble_of (show cn ≤ 4611686018427387904 by omega)] at key
    exact key trivial
end Go.Fw.C1

/-
  Circuits and loops that come in.
-/
namespace Go.Fw.C1
open Go.Proofs
open Go.RowKit (Below)

theorem own : ownKnob Try.prog.godebug = none := by kernel_rfl
theorem laidOut : laidOutB Try.prog = true := by kernel_rfl

section
variable {H : Type} {enc : TypeId × Value → H} {w : World} {spare : Nat → Bool} {held : Bool}

theorem fld {name : String} {o bo : Nat} : (⟨name, 22, o, false, "", "", bo⟩ : Field).offset = o ∧ Try.prog.cellsOf (⟨name, 22, o, false, "", "", bo⟩ : Field).type = 1 ∧ ∃ e, Try.prog.underlying (⟨name, 22, o, false, "", "", bo⟩ : Field).type = some (.slice e) ∧ Try.prog.underlying e = some (.float .f32) ∧ Try.prog.cellsOf e = 1 :=
  ⟨rfl, (by kernel_rfl : Try.prog.cellsOf 22 = 1), 41, Try.underlying22, Try.underlying41, by kernel_rfl⟩

theorem cells_circ {fuel : Nat} {cs : List Value} {x : DataW H × List MemPlace} (h : DataW.trod enc Try.prog w 0 spare held fuel 24 cs = some x) : cs.length = 3 ∧ ∀ i, i < 3 → ∃ a, InFlts w (cs.getD i undef) a :=
  in_struct_flts Try.underlying24 (by kernel_rfl) (fun i f hf => by
    match i, hf with
    | 0, hf => injection hf with hf; subst hf; exact fld
    | 1, hf => injection hf with hf; subst hf; exact fld
    | 2, hf => injection hf with hf; subst hf; exact fld
    | i + 3, hf => simp at hf) h

theorem in_circ {v : Value} {x : DataW H × List MemPlace} (h : ∃ fuel, DataW.trod enc Try.prog w 0 spare held fuel 24 v.cells.toList = some x) : ∃ a, CircA a ∧ RelD w (fun b => b < w.heap.size) v a := by
  obtain ⟨fuel, h⟩ := h
  obtain ⟨hl, hx⟩ := cells_circ h
  obtain ⟨vs, rfl, hs, hg⟩ := agg_of_cells (by omega) hl
  obtain ⟨_, n, r, h1, h2, rfl, h3⟩ := hx 0 (by omega)
  obtain ⟨_, gn, g, h4, h5, rfl, h6⟩ := hx 1 (by omega)
  obtain ⟨_, cn, c, h7, h8, rfl, h9⟩ := hx 2 (by omega)
  rw [hg] at h3 h6 h9
  exact ⟨_, ⟨n, gn, cn, r, g, c, ⟨h1, h4, h7⟩, ⟨h2, h5, h8⟩, rfl⟩, rel_agg3 hs h3 h6 h9⟩

theorem in_loops {v : Value} {x : DataW H × List MemPlace} (h : ∃ fuel, DataW.trod enc Try.prog w 0 spare held fuel 33 v.cells.toList = some x) : ∃ a, LoopsA a ∧ RelD w (fun b => b < w.heap.size) v a := by
  obtain ⟨fuel, h⟩ := h
  obtain ⟨xs, m, _, _, hl, hlen, hx⟩ := DataW.trod_struct Try.underlying33 h
  have hl : v.cells.toList.length = 5 := hl.trans (by kernel_rfl)
  obtain ⟨vs, rfl, hs, hg⟩ := agg_of_cells (by omega) hl
  have hlen' : xs.length = 3 := hlen
  have h0 := hx 0 _ rfl
  rw [show xs[0]? = some (xs[0]'(by omega)) from List.getElem?_eq_getElem _] at h0
  obtain ⟨_, h0⟩ := cells_circ h0
  replace h0 : ∀ i, i < 3 → ∃ a, InFlts w ((List.take (Try.prog.cellsOf 24) (List.drop 0 (Value.agg vs).cells.toList)).getD i undef) a := h0
  have h1 := hx 1 _ rfl
  rw [show xs[1]? = some (xs[1]'(by omega)) from List.getElem?_eq_getElem _] at h1
  obtain ⟨u1, a1, e1, h1⟩ := in_flts Try.underlying22 Try.underlying41 (by kernel_rfl) h1
  have h2 := hx 2 _ rfl
  rw [show xs[2]? = some (xs[2]'(by omega)) from List.getElem?_eq_getElem _] at h2
  obtain ⟨u2, a2, e2, h2⟩ := in_flts Try.underlying22 Try.underlying41 (by kernel_rfl) h2
  replace e1 : List.take (Try.prog.cellsOf 22) (List.drop 3 (Value.agg vs).cells.toList) = [u1] := e1
  replace e2 : List.take (Try.prog.cellsOf 22) (List.drop 4 (Value.agg vs).cells.toList) = [u2] := e2
  rw [show Try.prog.cellsOf 22 = 1 by kernel_rfl] at e1 e2
  have k0 : ∀ i, i < 3 → ((List.take (Try.prog.cellsOf 24) (List.drop 0 (Value.agg vs).cells.toList)).getD i undef) = vs.getD i undef := by
    intro i hi
    rw [show Try.prog.cellsOf 24 = 3 by kernel_rfl, ← hg]
    simp only [List.drop_zero, List.getD, List.getElem?_take, hi, if_true]
  have k1 : vs.getD 3 undef = u1 := by
    have hcl : 3 < (Value.agg vs).cells.toList.length := by omega
    rw [← hg]
    rw [List.drop_eq_getElem_cons hcl] at e1
    simp only [List.take_succ_cons, List.take_zero, List.cons.injEq, and_true] at e1
    simp [List.getD, List.getElem?_eq_getElem hcl, e1]
  have k2 : vs.getD 4 undef = u2 := by
    have hcl : 4 < (Value.agg vs).cells.toList.length := by omega
    rw [← hg]
    rw [List.drop_eq_getElem_cons hcl] at e2
    simp only [List.take_succ_cons, List.take_zero, List.cons.injEq, and_true] at e2
    simp [List.getD, List.getElem?_eq_getElem hcl, e2]
  obtain ⟨_, n, r, b1, _, rfl, b2⟩ := h0 0 (by omega)
  obtain ⟨_, gn, g, b3, _, rfl, b4⟩ := h0 1 (by omega)
  obtain ⟨_, cn, c, b5, _, rfl, b6⟩ := h0 2 (by omega)
  obtain ⟨qn, q, b7, _, rfl, b8⟩ := h1
  obtain ⟨jn, j, b9, _, rfl, b10⟩ := h2
  rw [k0 _ (by omega)] at b2 b4 b6
  rw [← k1] at b8
  rw [← k2] at b10
  exact ⟨_, ⟨n, gn, cn, qn, jn, r, g, c, q, j, ⟨b1, b3, b5, b7, b9⟩, rfl⟩, rel_agg5 hs b2 b4 b6 b8 b10⟩

theorem int_fits {n : Int} (h : (Lit.int .i64 n).wf = true) : IntA n := by
  simp only [Lit.wf, Bool.and_eq_true, decide_eq_true_eq] at h
  exact ⟨by have := h.1; simpa [IntKind.min, IntKind.bits, IntKind.signed] using this, by have := h.2; simpa [IntKind.max, IntKind.bits, IntKind.signed] using this⟩
end
end Go.Fw.C1
