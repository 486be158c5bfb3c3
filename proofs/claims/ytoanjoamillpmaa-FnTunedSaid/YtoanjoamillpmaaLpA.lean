/-
  The seat's tables.
-/
import Derived.Test.YtoanjoamillpmaaFwC
import Derived.Test.YtoanjoamillpmaaChecked
import Derived.Test.YtoanjoamillpmaaFwD

namespace Go.Fw.T1
open Go.Proofs
def types : List Nat := [24, 36, 4, 3, 2, 84, 105, 5, 22, 26, 27, 28, 33, 46, 88, 91, 85, 86]
def tab : List (Nat × TI) :=
  [(24, { bytes := 4, zero := [A.flt FloatKind.f32 0], fk := some FloatKind.f32 }),
    (36, { bytes := 8, zero := [A.flt FloatKind.f64 0], fk := some FloatKind.f64 }),
    (4, { bytes := 1, zero := [A.bool false], isBool := true }),
    (3, { bytes := 8, zero := [A.int IntKind.i64 (Int.ofNat 0)], ik := some IntKind.i64 }),
    (2, { bytes := 8, zero := [A.int IntKind.i64 (Int.ofNat 0)], ik := some IntKind.i64 }),
    (84, { bytes := 8, zero := [A.int IntKind.u64 (Int.ofNat 0)], ik := some IntKind.u64 }),
    (105, { bytes := 4, zero := [A.int IntKind.u32 (Int.ofNat 0)], ik := some IntKind.u32 }),
    (5, { bytes := 1, zero := [A.int IntKind.u8 (Int.ofNat 0)], ik := some IntKind.u8 }),
    (22, { bytes := 24, zero := [A.emp], elem := some 5 }),
    (26, { bytes := 24, zero := [A.emp], elem := some 24 }),
    (27, { agg := true, size := 3, bytes := 72, zero := [A.emp, A.emp, A.emp], fields := [(0, 1), (1, 1), (2, 1)] }),
    (28, { agg := true, size := 3, bytes := 72, zero := [A.emp, A.emp, A.emp], fields := [(0, 1), (1, 1), (2, 1)] }),
    (33, { bytes := 8, zero := [A.cpx FloatKind.f32 0 0], ck := some FloatKind.f32 }),
    (46, { bytes := 24, zero := [A.emp], elem := some 33 }),
    (88, { bytes := 24, zero := [A.emp], elem := some 46 }),
    (91, { bytes := 24, zero := [A.emp], elem := some 26 }),
    (85, { agg := true, size := 3, bytes := 40, zero := [A.emp, A.int IntKind.i64 (Int.ofNat 0), A.int IntKind.u64 (Int.ofNat 0)], fields := [(0, 1), (1, 1), (2, 1)] }),
    (86, { agg := true, size := 3, bytes := 40, zero := [A.emp, A.int IntKind.i64 (Int.ofNat 0), A.int IntKind.u64 (Int.ofNat 0)], fields := [(0, 1), (1, 1), (2, 1)] })]
theorem tab_eq : tabOf Try.prog types = some tab := by kernel_rfl
theorem mixed : Try.prog.follows .mixedOrders = true := by kernel_rfl
end Go.Fw.T1

/-
  Bytes that come in.
-/
namespace Go.Fw.T1
open Go.Proofs
open Go.RowKit (Below)
theorem own : ownKnob Try.prog.godebug = none := by kernel_rfl
theorem laidOut : laidOutB Try.prog = true := by kernel_rfl
section
variable {H : Type} {enc : TypeId × Value → H} {w : World} {spare : Nat → Bool} {held : Bool}
set_option maxRecDepth 100000 in
theorem in_bytesA {r : Reach} {base : Nat} {v : Value} {x : DataW H × List MemPlace} (hv : Value.okWide Try.prog w r base 22 v) (h : ∃ fuel, DataW.trod enc Try.prog w 0 spare held fuel 22 v.cells.toList = some x) :
    ∃ (n : Nat) (b : Nat → Nat), (∀ i, b i < 256) ∧ RelD w (fun b => b < w.heap.size) v (.ro 1 n (.gen fun i => .int .u8 (Int.ofNat (b i)))) := by
  obtain ⟨fuel, h⟩ := h
  obtain ⟨a, l, c, rfl⟩ := Go.WideShapes.okWide_slice Try.underlying22 hv
  obtain ⟨u, n, b, e, hb, hr⟩ := in_bytes Try.underlying22 Try.underlying5 (by kernel_rfl) h
  have e' : [Value.slice a l c] = [u] := e
  simp only [List.cons.injEq, and_true] at e'
  subst e'
  exact ⟨n, b, hb, hr⟩
end
end Go.Fw.T1

/-
  Slices of floats: copied.
-/
namespace Go.Fw.T1
open Go.Proofs
theorem wrap_small {x : Int} (h0 : 0 ≤ x) (h : x ≤ 4611686018427387904) : IntKind.i64.wrap x = x := by
  simp [IntKind.wrap, IntKind.bits, IntKind.signed]
  omega
end Go.Fw.T1

/-
  Floats compared.
-/
namespace Go.Fw.T1
open Go.Proofs
def xts : List (Nat × Ext) := [(72, .sqrt), (75, .bits64)]
theorem xts_ok (f : Nat) (e : Ext) (h : (f, e) ∈ xts) : ∃ fn, XtOK Try.prog f e fn := by
  simp only [xts, List.mem_cons, Prod.mk.injEq, List.not_mem_nil, or_false] at h
  rcases h with ⟨rfl, rfl⟩ | ⟨rfl, rfl⟩
  · exact ⟨_, Try.func72, by kernel_rfl, by kernel_rfl, by kernel_rfl, by kernel_rfl⟩
  · exact ⟨_, Try.func75, by kernel_rfl, by kernel_rfl, by kernel_rfl, by kernel_rfl⟩
theorem no_fts (P : Program) (f : Nat) (fn : Func) (h : (f, fn) ∈ ([] : List (Nat × Func))) : P.funcs[f]? = some fn ∧ (fn.name == "runtime.NumGoroutine") = false := by cases h
noncomputable def cfg0 : Cfg := mkCfg tab [] xts (look [])
theorem cfg0_ok : CfgOK Try.prog cfg0 := cfg_ok tab_eq (no_fts _) xts_ok env_nil mixed
/-- The first contracts: functions that call nothing but what the machine has. -/
noncomputable def env0 : List (Nat × (List A → Option (Bool × A))) := []
theorem env0_ok : EnvOK Try.prog (look env0) := env_nil
noncomputable def env1 : List (Nat × (List A → Option (Bool × A))) := (74, auto cfg0 Try.f74) :: env0
theorem env1_ok : EnvOK Try.prog (look env1) := env_cons (auto_at cfg0_ok Try.func74 (by kernel_rfl) (by kernel_rfl)) env0_ok
noncomputable def cfg1 : Cfg := mkCfg tab [] xts (look env1)
theorem cfg1_ok : CfgOK Try.prog cfg1 := cfg_ok tab_eq (no_fts _) xts_ok env1_ok mixed
end Go.Fw.T1

/-
  'eqFloat32S': the law's comparison of two slices.
-/
namespace Go.Fw.T1
open Go.Proofs
theorem lt_dec {k m : Nat} (h : k < m) : decide (Int.ofNat k < Int.ofNat m) = true := by simp; omega
theorem ge_dec {k m : Nat} (h : m ≤ k) : decide (Int.ofNat k < Int.ofNat m) = false := by simp; omega
end Go.Fw.T1

/-
  The leaves: functions of numbers.
-/
namespace Go.Fw.T1
open Go.Proofs
theorem of_auto {cfg : Cfg} (hc : CfgOK Try.prog cfg) {f : Nat} {fn : Func} {lp : Nat → Option (St → T)} (hlp : LpOK Try.prog lp (bodyOf fn)) (hf : Try.prog.funcs[f]? = some fn) (hb : fn.body.isSome = true) (hn : (fn.name == "runtime.NumGoroutine") = false)
    {s : List A → Option (Bool × A)} (h : ∀ ds c r, s ds = some (c, r) → c = true → ∃ c', autoLp cfg lp fn ds = some (c', r) ∧ c' = true) : EnvAt Try.prog f s :=
  ⟨⟨fn, hf, hb, hn⟩, fun ds c r hs hct => by
    obtain ⟨c', h1, h2⟩ := h ds c r hs hct
    exact (autoLp_at hc hlp hf hb hn).2 ds c' r h1 h2⟩
def nan (x : Nat) : Bool := forder .f32 x x != some .eq
def fin (x : Nat) : Bool := forder .f32 (fop .sub .f32 x x) (can .f32 0) == some .eq
def lt0 (x : Nat) : Bool := forder .f32 x (can .f32 0) == some .lt
def gt0 (x : Nat) : Bool := forder .f32 x (can .f32 0) == some .gt
def ge0 (x : Nat) : Bool := forder .f32 x (can .f32 0) == some .gt || forder .f32 x (can .f32 0) == some .eq
def bad (x : Nat) : Bool := bif !fin x then true else lt0 x
def least (x : Nat) : Bool := bif fin x then ge0 x else false
def above (x : Nat) : Bool := bif fin x then gt0 x else false
def sFin : List A → Option (Bool × A)
  | [.flt .f32 x] => some (true, .bool (fin x))
  | _ => none
def sBad : List A → Option (Bool × A)
  | [.flt .f32 x] => some (true, .bool (bad x))
  | _ => none
def sNotFin : List A → Option (Bool × A)
  | [.flt .f32 x] => some (true, .bool (!fin x))
  | _ => none
def sAbove : List A → Option (Bool × A)
  | [.flt .f32 x] => some (true, .bool (above x))
  | _ => none
theorem flt1 {g : Nat → Bool × A} {ds : List A} {c : Bool} {r : A} {s : List A → Option (Bool × A)} (hs : ∀ ds, s ds = match ds with | [.flt .f32 x] => some (g x) | _ => none) (h : s ds = some (c, r)) : ∃ x, ds = [.flt .f32 x] ∧ g x = (c, r) := by
  rw [hs] at h
  split at h
  · injection h with h; exact ⟨_, rfl, h⟩
  · cases h
theorem s87_at : EnvAt Try.prog 56 sFin := of_auto cfg1_ok (lp_none _) Try.func56 (by kernel_rfl) (by kernel_rfl) fun ds c r h _ => by
  obtain ⟨x, rfl, e⟩ := flt1 (g := fun x => (true, .bool (fin x))) (fun ds => rfl) h
  injection e with e1 e2; subst e2
  exact ⟨_, (by kernel_rfl : autoLp cfg1 (fun _ => none) Try.f56 [.flt .f32 x] = some (true, .bool (fin x))), rfl⟩
noncomputable def env2 : List (Nat × (List A → Option (Bool × A))) := (56, sFin) :: env1
theorem env2_ok : EnvOK Try.prog (look env2) := env_cons s87_at env1_ok
noncomputable def cfg2 : Cfg := mkCfg tab [] xts (look env2)
theorem cfg2_ok : CfgOK Try.prog cfg2 := cfg_ok tab_eq (no_fts _) xts_ok env2_ok mixed
theorem s86_at : EnvAt Try.prog 67 sBad := of_auto cfg2_ok (lp_none _) Try.func67 (by kernel_rfl) (by kernel_rfl) fun ds c r h _ => by
  obtain ⟨x, rfl, e⟩ := flt1 (g := fun x => (true, .bool (bad x))) (fun ds => rfl) h
  injection e with e1 e2; subst e2
  exact ⟨_, (by kernel_rfl : autoLp cfg2 (fun _ => none) Try.f67 [.flt .f32 x] = some (true, .bool (bad x))), rfl⟩
theorem s88_at : EnvAt Try.prog 68 sNotFin := of_auto cfg2_ok (lp_none _) Try.func68 (by kernel_rfl) (by kernel_rfl) fun ds c r h _ => by
  obtain ⟨x, rfl, e⟩ := flt1 (g := fun x => (true, .bool (!fin x))) (fun ds => rfl) h
  injection e with e1 e2; subst e2
  exact ⟨_, (by kernel_rfl : autoLp cfg2 (fun _ => none) Try.f68 [.flt .f32 x] = some (true, .bool (!fin x))), rfl⟩
theorem s66_at : EnvAt Try.prog 31 sAbove := of_auto cfg2_ok (lp_none _) Try.func31 (by kernel_rfl) (by kernel_rfl) fun ds c r h _ => by
  obtain ⟨x, rfl, e⟩ := flt1 (g := fun x => (true, .bool (above x))) (fun ds => rfl) h
  injection e with e1 e2; subst e2
  exact ⟨_, (by kernel_rfl : autoLp cfg2 (fun _ => none) Try.f31 [.flt .f32 x] = some (true, .bool (above x))), rfl⟩
noncomputable def env3 : List (Nat × (List A → Option (Bool × A))) := (67, sBad) :: (68, sNotFin) :: (31, sAbove) :: (40, auto cfg2 Try.f40) :: (36, auto cfg2 Try.f36) :: env2
theorem env3_ok : EnvOK Try.prog (look env3) := env_cons s86_at (env_cons s88_at (env_cons s66_at (env_cons (auto_at cfg2_ok Try.func40 (by kernel_rfl) (by kernel_rfl)) (env_cons (auto_at cfg2_ok Try.func36 (by kernel_rfl) (by kernel_rfl)) env2_ok))))
noncomputable def cfg3 : Cfg := mkCfg tab [] xts (look env3)
theorem cfg3_ok : CfgOK Try.prog cfg3 := cfg_ok tab_eq (no_fts _) xts_ok env3_ok mixed
theorem auto_fit {x : Option (Bool × A)} {c' : Bool} {r' r : A} (h : x = some (c', r')) (h1 : r' = r) (h2 : c' = true) : ∃ c', x = some (c', r) ∧ c' = true := ⟨c', by rw [h, h1], h2⟩
theorem condT {b : Bool} {X Y : Prop} (h : b = true) (hx : X) : cond b X Y := by subst h; exact hx
theorem condE {b : Bool} {X Y : Prop} (h : b = false) (hy : Y) : cond b X Y := by subst h; exact hy
theorem wrap_succ {k : Nat} (h : k ≤ 4611686018427387000) : IntKind.i64.wrap (Int.ofNat k + Int.ofNat 1) = Int.ofNat (k + 1) := wrap_small (by simp; omega) (by simp; omega)
end Go.Fw.T1

/-
  Loops of the library's search functions.
-/
namespace Go.Fw.T1
open Go.Proofs
noncomputable def I97a (n : Nat) (r : Nat → Nat) (k : Nat) : List A := [.ro 1 n (.flts .f32 r), .fn 67 [], .int .i64 (Int.ofNat 0), .int .i64 (Int.ofNat n), .int .i64 (Int.ofNat k)]
theorem round97a (n : Nat) (r : Nat → Nat) (k : Nat) (L : XK → List A → List (Option O) → Prop) :
    ((exec cfg3 (fun _ => true) (fun _ => none) 0 1000 (loopOf Try.f73 0) (litSt Try.f73.ntmps 64 [0, 1, 4, 7, 8] [] (I97a n r k) [])).rt [0, 1, 4, 7, 8] []).Ok L =
    bif decide (Int.ofNat k < Int.ofNat n) then
      bif decide (Int.ofNat k < Int.ofNat n) then
        bif bad (r k) then
          L (XK.ret) [A.ro 1 n (Row.flts FloatKind.f32 r), A.fn 67 [], A.int IntKind.i64 (Int.ofNat k), A.int IntKind.i64 (Int.ofNat n), A.int IntKind.i64 (Int.ofNat k)] []
        else
          L (XK.normal) [A.ro 1 n (Row.flts FloatKind.f32 r), A.fn 67 [], A.int IntKind.i64 (Int.ofNat 0), A.int IntKind.i64 (Int.ofNat n), A.int IntKind.i64 (IntKind.i64.wrap (Int.ofNat k + Int.ofNat 1))] []
      else
        False
    else
      L (XK.exit 0) [A.ro 1 n (Row.flts FloatKind.f32 r), A.fn 67 [], A.int IntKind.i64 (Int.ofNat 0), A.int IntKind.i64 (Int.ofNat n), A.int IntKind.i64 (Int.ofNat k)] [] := by kernel_rfl
noncomputable def F97a : List A → List (Option O) → Option R3
  | [.ro 1 n (.flts .f32 r), .fn 67 [], .int .i64 0, .int .i64 l, .int .i64 0], [] => some (.ite (decide (l = Int.ofNat n) && Nat.ble n 4611686018427387000) (.ite (allUpTo (fun k => !bad (r k)) (n)) (.leaf .normal (I97a n r (n)) []) (.leaf (.ret) ((fun k => [A.ro 1 n (Row.flts FloatKind.f32 r), A.fn 67 [], A.int IntKind.i64 (Int.ofNat k), A.int IntKind.i64 (Int.ofNat n), A.int IntKind.i64 (Int.ofNat k)]) (firstIdx (fun k => !bad (r k)) (n))) [])) .fail)
  | _, _ => none
theorem loop97a : CodeOK Try.prog (fun _ σ => sumAt Try.f73.ntmps 64 [0, 1, 4, 7, 8] [] F97a σ) (.block 0 (.loop (loopOf Try.f73 0))) := by
  refine block_ok (own := fun _ => true) (lp := (fun _ => none)) (un := 0) (fuel := 1000) cfg3_ok (lp_none _) fun az os R hF hok => ?_
  unfold F97a at hF
  split at hF
  · rename_i n r l
    injection hF with hF
    subst hF
    have hg := hok.guard
    have hg' := hg
    simp only [Bool.and_eq_true, Nat.ble_eq, Nat.beq_eq, decide_eq_true_eq] at hg'
    obtain ⟨rfl, hn⟩ := hg'
    refine for_fact0 (fun k => !bad (r k)) (n) (I97a n r) _ (.ret) (fun k => [A.ro 1 n (Row.flts FloatKind.f32 r), A.fn 67 [], A.int IntKind.i64 (Int.ofNat k), A.int IntKind.i64 (Int.ofNat n), A.int IntKind.i64 (Int.ofNat k)]) (fun k => [A.ro 1 n (Row.flts FloatKind.f32 r), A.fn 67 [], A.int IntKind.i64 (Int.ofNat k), A.int IntKind.i64 (Int.ofNat n), A.int IntKind.i64 (Int.ofNat k)]) (I97a n r (n)) rfl (fun _ => rfl) (fun _ => ALe.self _) (fun _ => rfl) (ALe.self _) rfl (fun h => by cases h) (fun k hk L h1 h2 h3 => ?_) fun L hL => ?_
    · rw [round97a]
      by_cases hkm : k < n
      · refine condT (lt_dec hkm) ?_
        refine condT (lt_dec hkm) ?_
        cases hs : bad (r k)
        · have := h1 hkm (by rw [hs]; rfl)
          rw [wrap_succ (by omega)]
          exact this
        · exact h2 hkm (by rw [hs]; rfl)
      · refine condE (ge_dec (by omega)) ?_
        obtain rfl : k = n := by omega
        exact h3 rfl
    · exact ⟨fun h => (hL.1 hg).1 h, fun N hN hf hall => by
        have := (hL.1 hg).2 (allUpTo_false hN hf)
        rw [firstIdx_eq hN hf hall] at this
        exact this⟩
  · cases hF
noncomputable def I97b (n : Nat) (r : Nat → Nat) (k : Nat) : List A := [.ro 1 n (.flts .f32 r), .fn 68 [], .int .i64 (Int.ofNat 0), .int .i64 (Int.ofNat n), .int .i64 (Int.ofNat k)]
theorem round97b (n : Nat) (r : Nat → Nat) (k : Nat) (L : XK → List A → List (Option O) → Prop) :
    ((exec cfg3 (fun _ => true) (fun _ => none) 0 1000 (loopOf Try.f73 0) (litSt Try.f73.ntmps 64 [0, 1, 4, 7, 8] [] (I97b n r k) [])).rt [0, 1, 4, 7, 8] []).Ok L =
    bif decide (Int.ofNat k < Int.ofNat n) then
      bif decide (Int.ofNat k < Int.ofNat n) then
        bif !fin (r k) then
          L (XK.ret) [A.ro 1 n (Row.flts FloatKind.f32 r), A.fn 68 [], A.int IntKind.i64 (Int.ofNat k), A.int IntKind.i64 (Int.ofNat n), A.int IntKind.i64 (Int.ofNat k)] []
        else
          L (XK.normal) [A.ro 1 n (Row.flts FloatKind.f32 r), A.fn 68 [], A.int IntKind.i64 (Int.ofNat 0), A.int IntKind.i64 (Int.ofNat n), A.int IntKind.i64 (IntKind.i64.wrap (Int.ofNat k + Int.ofNat 1))] []
      else
        False
    else
      L (XK.exit 0) [A.ro 1 n (Row.flts FloatKind.f32 r), A.fn 68 [], A.int IntKind.i64 (Int.ofNat 0), A.int IntKind.i64 (Int.ofNat n), A.int IntKind.i64 (Int.ofNat k)] [] := by kernel_rfl
noncomputable def F97b : List A → List (Option O) → Option R3
  | [.ro 1 n (.flts .f32 r), .fn 68 [], .int .i64 0, .int .i64 l, .int .i64 0], [] => some (.ite (decide (l = Int.ofNat n) && Nat.ble n 4611686018427387000) (.ite (allUpTo (fun k => fin (r k)) (n)) (.leaf .normal (I97b n r (n)) []) (.leaf (.ret) ((fun k => [A.ro 1 n (Row.flts FloatKind.f32 r), A.fn 68 [], A.int IntKind.i64 (Int.ofNat k), A.int IntKind.i64 (Int.ofNat n), A.int IntKind.i64 (Int.ofNat k)]) (firstIdx (fun k => fin (r k)) (n))) [])) .fail)
  | _, _ => none
theorem loop97b : CodeOK Try.prog (fun _ σ => sumAt Try.f73.ntmps 64 [0, 1, 4, 7, 8] [] F97b σ) (.block 0 (.loop (loopOf Try.f73 0))) := by
  refine block_ok (own := fun _ => true) (lp := (fun _ => none)) (un := 0) (fuel := 1000) cfg3_ok (lp_none _) fun az os R hF hok => ?_
  unfold F97b at hF
  split at hF
  · rename_i n r l
    injection hF with hF
    subst hF
    have hg := hok.guard
    have hg' := hg
    simp only [Bool.and_eq_true, Nat.ble_eq, Nat.beq_eq, decide_eq_true_eq] at hg'
    obtain ⟨rfl, hn⟩ := hg'
    refine for_fact0 (fun k => fin (r k)) (n) (I97b n r) _ (.ret) (fun k => [A.ro 1 n (Row.flts FloatKind.f32 r), A.fn 68 [], A.int IntKind.i64 (Int.ofNat k), A.int IntKind.i64 (Int.ofNat n), A.int IntKind.i64 (Int.ofNat k)]) (fun k => [A.ro 1 n (Row.flts FloatKind.f32 r), A.fn 68 [], A.int IntKind.i64 (Int.ofNat k), A.int IntKind.i64 (Int.ofNat n), A.int IntKind.i64 (Int.ofNat k)]) (I97b n r (n)) rfl (fun _ => rfl) (fun _ => ALe.self _) (fun _ => rfl) (ALe.self _) rfl (fun h => by cases h) (fun k hk L h1 h2 h3 => ?_) fun L hL => ?_
    · rw [round97b]
      by_cases hkm : k < n
      · refine condT (lt_dec hkm) ?_
        refine condT (lt_dec hkm) ?_
        cases hs : fin (r k)
        · exact h2 hkm hs
        · have := h1 hkm hs
          rw [wrap_succ (by omega)]
          exact this
      · refine condE (ge_dec (by omega)) ?_
        obtain rfl : k = n := by omega
        exact h3 rfl
    · exact ⟨fun h => (hL.1 hg).1 h, fun N hN hf hall => by
        have := (hL.1 hg).2 (allUpTo_false hN hf)
        rw [firstIdx_eq hN hf hall] at this
        exact this⟩
  · cases hF
/-- The first place that is not in order, or -1. -/
noncomputable def idx (f : Nat → Bool) (n : Nat) : Int := bif allUpTo f n then Int.negSucc 0 else Int.ofNat (firstIdx f n)
noncomputable def lp97a : List (Nat × (St → T)) := [(0, sumAt Try.f73.ntmps 64 [0, 1, 4, 7, 8] [] F97a)]
theorem lp97a_ok : LpOK Try.prog (look lp97a) (bodyOf Try.f73) := lp_loops (by kernel_rfl) (by kernel_rfl) fun p hp => by
  simp only [lp97a, List.mem_cons, List.not_mem_nil, or_false] at hp
  rcases hp with rfl
  · exact loop97a
theorem auto97a (n : Nat) (r : Nat → Nat) : autoLp cfg3 (look lp97a) Try.f73 [.ro 1 n (.flts .f32 r), .fn 67 []] =
    some (decide (Int.ofNat n = Int.ofNat n) && n.ble 4611686018427387000 && bif allUpTo (fun k => !bad (r k)) n then true else true, A.int IntKind.i64 (bif allUpTo (fun k => !bad (r k)) n then Int.negSucc 0 else Int.ofNat (Fw.firstIdx (fun k => !bad (r k)) n))) := by kernel_rfl
noncomputable def s97a : List A → Option (Bool × A)
  | [.ro 1 n (.flts .f32 r), .fn 67 []] => some (Nat.ble n 4611686018427387000, .int .i64 (idx (fun k => !bad (r k)) n))
  | _ => none
theorem s97a_at : EnvAt Try.prog 73 s97a := of_auto cfg3_ok lp97a_ok Try.func73 (by kernel_rfl) (by kernel_rfl) fun ds c r h hc => by
  unfold s97a at h
  split at h
  · rename_i n r
    simp only [Option.some.injEq, Prod.mk.injEq] at h
    obtain ⟨rfl, rfl⟩ := h
    refine auto_fit (auto97a n r) ?_ ?_
    · rfl
    · rw [hc]; simp
  · cases h
noncomputable def lp97b : List (Nat × (St → T)) := [(0, sumAt Try.f73.ntmps 64 [0, 1, 4, 7, 8] [] F97b)]
theorem lp97b_ok : LpOK Try.prog (look lp97b) (bodyOf Try.f73) := lp_loops (by kernel_rfl) (by kernel_rfl) fun p hp => by
  simp only [lp97b, List.mem_cons, List.not_mem_nil, or_false] at hp
  rcases hp with rfl
  · exact loop97b
theorem auto97b (n : Nat) (r : Nat → Nat) : autoLp cfg3 (look lp97b) Try.f73 [.ro 1 n (.flts .f32 r), .fn 68 []] =
    some (decide (Int.ofNat n = Int.ofNat n) && n.ble 4611686018427387000 && bif allUpTo (fun k => fin (r k)) n then true else true, A.int IntKind.i64 (bif allUpTo (fun k => fin (r k)) n then Int.negSucc 0 else Int.ofNat (Fw.firstIdx (fun k => fin (r k)) n))) := by kernel_rfl
noncomputable def s97b : List A → Option (Bool × A)
  | [.ro 1 n (.flts .f32 r), .fn 68 []] => some (Nat.ble n 4611686018427387000, .int .i64 (idx (fun k => fin (r k)) n))
  | _ => none
theorem s97b_at : EnvAt Try.prog 73 s97b := of_auto cfg3_ok lp97b_ok Try.func73 (by kernel_rfl) (by kernel_rfl) fun ds c r h hc => by
  unfold s97b at h
  split at h
  · rename_i n r
    simp only [Option.some.injEq, Prod.mk.injEq] at h
    obtain ⟨rfl, rfl⟩ := h
    refine auto_fit (auto97b n r) ?_ ?_
    · rfl
    · rw [hc]; simp
  · cases h
noncomputable def s97 : List A → Option (Bool × A)
  | [.ro 1 n (.flts .f32 r), .fn 67 []] => s97a [.ro 1 n (.flts .f32 r), .fn 67 []]
  | ds => s97b ds
theorem s97_at : EnvAt Try.prog 73 s97 := by
  refine ⟨s97a_at.1, fun ds c r h hc => ?_⟩
  unfold s97 at h
  split at h
  · exact s97a_at.2 _ _ _ h hc
  · exact s97b_at.2 _ _ _ h hc
noncomputable def env4 : List (Nat × (List A → Option (Bool × A))) := (73, s97) :: env3
theorem env4_ok : EnvOK Try.prog (look env4) := env_cons s97_at env3_ok
noncomputable def cfg4 : Cfg := mkCfg tab [] xts (look env4)
theorem cfg4_ok : CfgOK Try.prog cfg4 := cfg_ok tab_eq (no_fts _) xts_ok env4_ok mixed
noncomputable def env5 : List (Nat × (List A → Option (Bool × A))) := (66, auto cfg4 Try.f66) :: env4
theorem env5_ok : EnvOK Try.prog (look env5) := env_cons (auto_at cfg4_ok Try.func66 (by kernel_rfl) (by kernel_rfl)) env4_ok
noncomputable def cfg5 : Cfg := mkCfg tab [] xts (look env5)
theorem cfg5_ok : CfgOK Try.prog cfg5 := cfg_ok tab_eq (no_fts _) xts_ok env5_ok mixed
theorem idx_ge (f : Nat → Bool) (n : Nat) : decide (idx f n ≥ 0) = !allUpTo f n := by
  unfold idx
  cases allUpTo f n
  · simp
  · rfl
theorem auto58 (n : Nat) (r : Nat → Nat) : autoLp cfg5 (fun _ => none) Try.f52 [.ro 1 n (.flts .f32 r)] =
    some (n.ble 4611686018427387000 && true && true, A.bool !decide (idx (fun k => !bad (r k)) n ≥ 0)) := by kernel_rfl
noncomputable def s58 : List A → Option (Bool × A)
  | [.ro 1 n (.flts .f32 r)] => some (Nat.ble n 4611686018427387000, .bool (allUpTo (fun k => !bad (r k)) n))
  | _ => none
theorem s58_at : EnvAt Try.prog 52 s58 := of_auto cfg5_ok (lp_none _) Try.func52 (by kernel_rfl) (by kernel_rfl) fun ds c r h hc => by
  unfold s58 at h
  split at h
  · rename_i n r
    simp only [Option.some.injEq, Prod.mk.injEq] at h
    obtain ⟨rfl, rfl⟩ := h
    refine auto_fit (auto58 n r) ?_ ?_
    · simp [idx_ge]
    · rw [hc]; simp
  · cases h
theorem auto59 (n : Nat) (r : Nat → Nat) : autoLp cfg5 (fun _ => none) Try.f53 [.ro 1 n (.flts .f32 r)] =
    some (n.ble 4611686018427387000 && true && true, A.bool !decide (idx (fun k => fin (r k)) n ≥ 0)) := by kernel_rfl
noncomputable def s59 : List A → Option (Bool × A)
  | [.ro 1 n (.flts .f32 r)] => some (Nat.ble n 4611686018427387000, .bool (allUpTo (fun k => fin (r k)) n))
  | _ => none
theorem s59_at : EnvAt Try.prog 53 s59 := of_auto cfg5_ok (lp_none _) Try.func53 (by kernel_rfl) (by kernel_rfl) fun ds c r h hc => by
  unfold s59 at h
  split at h
  · rename_i n r
    simp only [Option.some.injEq, Prod.mk.injEq] at h
    obtain ⟨rfl, rfl⟩ := h
    refine auto_fit (auto59 n r) ?_ ?_
    · simp [idx_ge]
    · rw [hc]; simp
  · cases h
end Go.Fw.T1

/-
  Circuits that are valid: the reference's test.
-/
namespace Go.Fw.T1
open Go.Proofs
noncomputable def env6 : List (Nat × (List A → Option (Bool × A))) := (52, s58) :: (53, s59) :: env5
theorem env6_ok : EnvOK Try.prog (look env6) := env_cons s58_at (env_cons s59_at env5_ok)
noncomputable def cfg6 : Cfg := mkCfg tab [] xts (look env6)
theorem cfg6_ok : CfgOK Try.prog cfg6 := cfg_ok tab_eq (no_fts _) xts_ok env6_ok mixed
theorem blt_lt' {a b : Nat} (h : Nat.blt a b = true) : a < b := by
  unfold Nat.blt at h
  exact Nat.le_of_ble_eq_true h
theorem lt_blt {a b : Nat} (h : a < b) : Nat.blt a b = true := Nat.ble_eq_true_of_le h
theorem mul_lt6 {i n : Nat} (hi : i < n) (hn : n ≤ 6) : i * n + n ≤ n * n := by
  have : (i + 1) * n ≤ n * n := Nat.mul_le_mul_right n hi
  rw [Nat.add_mul, Nat.one_mul] at this
  exact this
theorem sq_le {n : Nat} (hn : n ≤ 6) : n * n ≤ 36 := Nat.mul_le_mul hn hn
theorem ix_lt {i j n : Nat} (hi : i < n) (hj : j < n) (hn : n ≤ 6) : i * n + j < n * n := by
  have := mul_lt6 hi hn
  omega
theorem wrap_nat {x : Nat} (h : x ≤ 4611686018427387000) : IntKind.i64.wrap (Int.ofNat x) = Int.ofNat x := wrap_small (by simp) (by simp; omega)
theorem wrap_ix {i j n : Nat} (hi : i < n) (hj : j < n) (hn : n ≤ 6) : IntKind.i64.wrap (IntKind.i64.wrap (Int.ofNat i * Int.ofNat n) + Int.ofNat j) = Int.ofNat (i * n + j) := by
  have h1 := ix_lt hi hj hn
  have h2 := sq_le hn
  have h3 : (Int.ofNat i * Int.ofNat n) = Int.ofNat (i * n) := rfl
  have h4 : Int.ofNat (i * n) + Int.ofNat j = Int.ofNat (i * n + j) := rfl
  rw [h3, wrap_nat (x := i * n) (by omega), h4, wrap_nat (by omega)]
theorem wrap_mm {n : Nat} (hn : n ≤ 6) : IntKind.i64.wrap (Int.ofNat n * Int.ofNat n) = Int.ofNat (n * n) := by
  have h2 := sq_le hn
  have h3 : (Int.ofNat n * Int.ofNat n) = Int.ofNat (n * n) := rfl
  rw [h3, wrap_nat (by omega)]
theorem dec0 (x : Nat) : decide ((0 : Int) ≤ Int.ofNat x) = true := by simp
/-- Is the coil of i and j not finite, or not that of j and i? -/
noncomputable def badsym (c : Nat → Nat) (n i j : Nat) : Bool := bif !fin (c (i * n + j)) then true else forder .f32 (c (i * n + j)) (c (j * n + i)) != some .eq
noncomputable def badrow (r g c : Nat → Nat) (n i : Nat) : Bool := bif (bif !least (r i) then true else !least (g i)) then true else !(forder .f32 (c (i * n + i)) (can .f32 0) == some .gt)
noncomputable def sizes (n gn cn : Nat) : Bool := decide (1 ≤ n ∧ n ≤ 6 ∧ gn = n ∧ cn = n * n)
theorem ne_nat (a b : Nat) : (Int.ofNat a != Int.ofNat b) = !decide (a = b) := by
  by_cases h : a = b
  · subst h; simp
  · simp [h]; omega
theorem sizes_eq (n gn cn : Nat) : (bif bif bif decide (Int.ofNat n < 1) then true else decide (Int.ofNat n > 6) then true else Int.ofNat gn != Int.ofNat n then true else Int.ofNat cn != IntKind.i64.wrap (Int.ofNat n * Int.ofNat n)) = !sizes n gn cn := by
  by_cases h1 : n < 1
  · rw [show decide (Int.ofNat n < 1) = true by simp; omega]
    simp [sizes]; omega
  rw [show decide (Int.ofNat n < 1) = false by simp; omega]
  by_cases h2 : n > 6
  · rw [show decide (Int.ofNat n > 6) = true by simp; omega]
    simp [sizes]; omega
  rw [show decide (Int.ofNat n > 6) = false by simp; omega, wrap_mm (by omega), ne_nat, ne_nat]
  by_cases h3 : gn = n
  · by_cases h4 : cn = n * n
    · simp [sizes, h3, h4]; omega
    · simp [sizes, h3, h4]
  · simp [sizes, h3]
/-- A valid circuit, as the reference looks. -/
noncomputable def valid (n gn cn : Nat) (r g c : Nat → Nat) : Bool := sizes n gn cn && allUpTo (fun k => !badrow r g c n k && allUpTo (fun j => !badsym c n k j) n) n
end Go.Fw.T1

/-
  Circuits that are valid: the program's test.
-/
namespace Go.Fw.T1
open Go.Proofs
noncomputable def env7 : List (Nat × (List A → Option (Bool × A))) := (33, auto cfg6 Try.f33) :: env6
theorem env7_ok : EnvOK Try.prog (look env7) := env_cons (auto_at cfg6_ok Try.func33 (by kernel_rfl) (by kernel_rfl)) env6_ok
noncomputable def cfg7 : Cfg := mkCfg tab [] xts (look env7)
theorem cfg7_ok : CfgOK Try.prog cfg7 := cfg_ok tab_eq (no_fts _) xts_ok env7_ok mixed
noncomputable def unsym (c : Nat → Nat) (n i j : Nat) : Bool := forder .f32 (c (i * n + j)) (c (j * n + i)) != some .eq
noncomputable def notpos (c : Nat → Nat) (n i : Nat) : Bool := !(forder .f32 (c (i * n + i)) (can .f32 0) == some .gt)
noncomputable def I21j (n gn cn i : Nat) (p q : Int) (r g c : Nat → Nat) (k : Nat) : List A := [.ptr 0 0, .bool false, .int .i64 (Int.ofNat i), .int .i64 p, .int .i64 q, .int .i64 (Int.ofNat i), .int .i64 (Int.ofNat k)]
noncomputable def J21j (n gn cn i : Nat) (p q : Int) (r g c : Nat → Nat) : List O := [.var [.ro 1 n (.flts .f32 r), .ro 1 gn (.flts .f32 g), .ro 1 cn (.flts .f32 c)]]
theorem round21j (n gn cn i : Nat) (p q : Int) (r g c : Nat → Nat) (k : Nat) (L : XK → List A → List (Option O) → Prop) :
    ((exec cfg7 (fun _ => true) (fun _ => none) 0 1000 (loopOf Try.f26 2) (litSt Try.f26.ntmps 928 [1, 2, 4, 48, 49, 58, 59] [0] (I21j n gn cn i p q r g c k) (J21j n gn cn i p q r g c))).rt [1, 2, 4, 48, 49, 58, 59] [0]).Ok L =
    bif decide (Int.ofNat k < Int.ofNat i) then
      bif decide (0 ≤ IntKind.i64.wrap (IntKind.i64.wrap (Int.ofNat i * Int.ofNat n) + Int.ofNat k)) && decide (IntKind.i64.wrap (IntKind.i64.wrap (Int.ofNat i * Int.ofNat n) + Int.ofNat k) < Int.ofNat cn) && true && true then
        bif decide (0 ≤ IntKind.i64.wrap (IntKind.i64.wrap (Int.ofNat k * Int.ofNat n) + Int.ofNat i)) && decide (IntKind.i64.wrap (IntKind.i64.wrap (Int.ofNat k * Int.ofNat n) + Int.ofNat i) < Int.ofNat cn) && true then
          bif forder FloatKind.f32 (c (IntKind.i64.wrap (IntKind.i64.wrap (Int.ofNat i * Int.ofNat n) + Int.ofNat k)).toNat) (c (IntKind.i64.wrap (IntKind.i64.wrap (Int.ofNat k * Int.ofNat n) + Int.ofNat i)).toNat) != some Ordering.eq then
            L (XK.ret) [A.ptr 0 0, A.bool false, A.int IntKind.i64 (Int.ofNat i), A.int IntKind.i64 p, A.int IntKind.i64 q, A.int IntKind.i64 (Int.ofNat i), A.int IntKind.i64 (Int.ofNat k)] [some (O.var [A.ro 1 n (Row.flts FloatKind.f32 r), A.ro 1 gn (Row.flts FloatKind.f32 g), A.ro 1 cn (Row.flts FloatKind.f32 c)])]
          else
            L (XK.normal) [A.ptr 0 0, A.bool false, A.int IntKind.i64 (Int.ofNat i), A.int IntKind.i64 p, A.int IntKind.i64 q, A.int IntKind.i64 (Int.ofNat i), A.int IntKind.i64 (IntKind.i64.wrap (Int.ofNat k + Int.ofNat 1))] [some (O.var [A.ro 1 n (Row.flts FloatKind.f32 r), A.ro 1 gn (Row.flts FloatKind.f32 g), A.ro 1 cn (Row.flts FloatKind.f32 c)])]
        else
          False
      else
        False
    else
      L (XK.exit 2) [A.ptr 0 0, A.bool false, A.int IntKind.i64 (Int.ofNat i), A.int IntKind.i64 p, A.int IntKind.i64 q, A.int IntKind.i64 (Int.ofNat i), A.int IntKind.i64 (Int.ofNat k)] [some (O.var [A.ro 1 n (Row.flts FloatKind.f32 r), A.ro 1 gn (Row.flts FloatKind.f32 g), A.ro 1 cn (Row.flts FloatKind.f32 c)])] := by kernel_rfl
noncomputable def F21j : List A → List (Option O) → Option R3
  | [.ptr 0 0, .bool false, .int .i64 (.ofNat i), .int .i64 p, .int .i64 q, .int .i64 m, .int .i64 0], [some (.var [.ro 1 n (.flts .f32 r), .ro 1 gn (.flts .f32 g), .ro 1 cn (.flts .f32 c)])] => some (.ite (decide (m = Int.ofNat i) && Nat.blt i n && Nat.ble n 6 && Nat.beq cn (n * n)) (.ite (allUpTo (fun k => !unsym c n i k) (i)) (.leaf .normal (I21j n gn cn i p q r g c (i)) (J21j n gn cn i p q r g c)) (.leaf (.ret) ((I21j n gn cn i p q r g c) (firstIdx (fun k => !unsym c n i k) (i))) (J21j n gn cn i p q r g c))) .fail)
  | _, _ => none
theorem loop21j : CodeOK Try.prog (fun _ σ => sumAt Try.f26.ntmps 928 [1, 2, 4, 48, 49, 58, 59] [0] F21j σ) (.block 2 (.loop (loopOf Try.f26 2))) := by
  refine block_ok (own := fun _ => true) (lp := (fun _ => none)) (un := 0) (fuel := 1000) cfg7_ok (lp_none _) fun az os R hF hok => ?_
  unfold F21j at hF
  split at hF
  · rename_i i p q m n r gn g cn c
    injection hF with hF
    subst hF
    have hg := hok.guard
    have hg' := hg
    simp only [Bool.and_eq_true, Nat.ble_eq, Nat.beq_eq, decide_eq_true_eq] at hg'
    obtain ⟨⟨⟨rfl, hi⟩, hn⟩, hcn⟩ := hg'
    have hi := blt_lt' hi
    refine for_fact (fun k => !unsym c n i k) (i) (I21j n gn cn i p q r g c) (fun _ => J21j n gn cn i p q r g c) _ (.ret) (I21j n gn cn i p q r g c) (I21j n gn cn i p q r g c) (I21j n gn cn i p q r g c (i)) (J21j n gn cn i p q r g c) rfl (OSims.self (J21j n gn cn i p q r g c)) (fun _ => rfl) (fun _ => rfl) (fun _ => ALe.self _) (fun _ => rfl) (ALe.self _) (OSims.self (J21j n gn cn i p q r g c)) rfl (fun h => by cases h) (fun k hk L h1' h2 h3 => ?_) fun L hL => ?_
    · have h1 := fun a b => h1' a b _ (OSims.self (J21j n gn cn i p q r g c))
      rw [round21j]
      by_cases hkm : k < i
      · refine condT (lt_dec hkm) ?_
        have hkn : k < n := by omega
        rw [wrap_ix hkn hi hn, wrap_ix hi hkn hn]
        refine condT (by rw [hcn]; simp only [dec0, lt_dec (ix_lt hkn hi hn), lt_dec (ix_lt hi hkn hn), Bool.and_self, Bool.true_or, Bool.and_true]) ?_
        refine condT (by rw [hcn]; simp only [dec0, lt_dec (ix_lt hkn hi hn), lt_dec (ix_lt hi hkn hn), Bool.and_self, Bool.true_or, Bool.and_true]) ?_
        show cond (unsym c n i k) _ _
        cases hs : unsym c n i k
        · have := h1 hkm (by rw [hs]; rfl)
          rw [wrap_succ (by omega)]
          exact this
        · exact h2 hkm (by rw [hs]; rfl)
      · refine condE (ge_dec (by omega)) ?_
        obtain rfl : k = i := by omega
        exact h3 rfl
    · exact ⟨fun h => (hL.1 hg).1 h, fun N hN hf hall => by
        have := (hL.1 hg).2 (allUpTo_false hN hf)
        rw [firstIdx_eq hN hf hall] at this
        exact this⟩
  · cases hF
noncomputable def lpi21i : List (Nat × (St → T)) := [(2, sumAt Try.f26.ntmps 928 [1, 2, 4, 48, 49, 58, 59] [0] F21j)]
theorem lpi21i_ok : LpOK Try.prog (look lpi21i) (loopOf Try.f26 0) := lp_in (lp_loops (by kernel_rfl) (by kernel_rfl) fun p hp => by
  simp only [lpi21i, List.mem_cons, List.not_mem_nil, or_false] at hp
  rcases hp with rfl
  · exact loop21j) _
noncomputable def I21i (n gn cn : Nat) (r g c : Nat → Nat) (k : Nat) : List A := [.ptr 0 0, .bool false, .int .i64 (Int.ofNat n), .int .i64 (Int.ofNat k)]
noncomputable def J21i (n gn cn : Nat) (r g c : Nat → Nat) : List O := [.var [.ro 1 n (.flts .f32 r), .ro 1 gn (.flts .f32 g), .ro 1 cn (.flts .f32 c)]]
theorem round21i (n gn cn : Nat) (r g c : Nat → Nat) (k : Nat) (L : XK → List A → List (Option O) → Prop) :
    ((exec cfg7 (fun _ => true) (look lpi21i) 0 1000 (loopOf Try.f26 0) (litSt Try.f26.ntmps 752 [1, 2, 48, 49] [0] (I21i n gn cn r g c k) (J21i n gn cn r g c))).rt [1, 2, 48, 49] [0]).Ok L =
    bif decide (Int.ofNat k < Int.ofNat n) then
      bif decide (0 ≤ IntKind.i64.wrap (IntKind.i64.wrap (Int.ofNat k * Int.ofNat n) + Int.ofNat k)) && decide (IntKind.i64.wrap (IntKind.i64.wrap (Int.ofNat k * Int.ofNat n) + Int.ofNat k) < Int.ofNat cn) && true then
        bif !forder FloatKind.f32 (c (IntKind.i64.wrap (IntKind.i64.wrap (Int.ofNat k * Int.ofNat n) + Int.ofNat k)).toNat) (can FloatKind.f32 0) == some Ordering.gt then
          L (XK.ret) [A.ptr 0 0, A.bool false, A.int IntKind.i64 (Int.ofNat n), A.int IntKind.i64 (Int.ofNat k)] [some (O.var [A.ro 1 n (Row.flts FloatKind.f32 r), A.ro 1 gn (Row.flts FloatKind.f32 g), A.ro 1 cn (Row.flts FloatKind.f32 c)])]
        else
          bif decide (Int.ofNat k = Int.ofNat k) && k.blt n && n.ble 6 && cn.beq (n * n) then
            bif allUpTo (fun k_1 => !unsym c n k k_1) k then
              L (XK.normal) [A.ptr 0 0, A.bool false, A.int IntKind.i64 (Int.ofNat n), A.int IntKind.i64 (IntKind.i64.wrap (Int.ofNat k + Int.ofNat 1))] [some (O.var [A.ro 1 n (Row.flts FloatKind.f32 r), A.ro 1 gn (Row.flts FloatKind.f32 g), A.ro 1 cn (Row.flts FloatKind.f32 c)])]
            else
              L (XK.ret) [A.ptr 0 0, A.bool false, A.int IntKind.i64 (Int.ofNat n), A.int IntKind.i64 (Int.ofNat k)] [some (O.var [A.ro 1 n (Row.flts FloatKind.f32 r), A.ro 1 gn (Row.flts FloatKind.f32 g), A.ro 1 cn (Row.flts FloatKind.f32 c)])]
          else
            False
      else
        False
    else
      L (XK.exit 0) [A.ptr 0 0, A.bool false, A.int IntKind.i64 (Int.ofNat n), A.int IntKind.i64 (Int.ofNat k)] [some (O.var [A.ro 1 n (Row.flts FloatKind.f32 r), A.ro 1 gn (Row.flts FloatKind.f32 g), A.ro 1 cn (Row.flts FloatKind.f32 c)])] := by kernel_rfl
noncomputable def F21i : List A → List (Option O) → Option R3
  | [.ptr 0 0, .bool false, .int .i64 m, .int .i64 0], [some (.var [.ro 1 n (.flts .f32 r), .ro 1 gn (.flts .f32 g), .ro 1 cn (.flts .f32 c)])] => some (.ite (decide (m = Int.ofNat n) && Nat.ble n 6 && Nat.beq cn (n * n)) (.ite (allUpTo (fun k => !notpos c n k && allUpTo (fun j => !unsym c n k j) k) (n)) (.leaf .normal (I21i n gn cn r g c (n)) (J21i n gn cn r g c)) (.leaf (.ret) ((I21i n gn cn r g c) (firstIdx (fun k => !notpos c n k && allUpTo (fun j => !unsym c n k j) k) (n))) (J21i n gn cn r g c))) .fail)
  | _, _ => none
theorem loop21i : CodeOK Try.prog (fun _ σ => sumAt Try.f26.ntmps 752 [1, 2, 48, 49] [0] F21i σ) (.block 0 (.loop (loopOf Try.f26 0))) := by
  refine block_ok (own := fun _ => true) (lp := (look lpi21i)) (un := 0) (fuel := 1000) cfg7_ok lpi21i_ok fun az os R hF hok => ?_
  unfold F21i at hF
  split at hF
  · rename_i m n r gn g cn c
    injection hF with hF
    subst hF
    have hg := hok.guard
    have hg' := hg
    simp only [Bool.and_eq_true, Nat.ble_eq, Nat.beq_eq, decide_eq_true_eq] at hg'
    obtain ⟨⟨rfl, hn⟩, hcn⟩ := hg'
    refine for_fact (fun k => !notpos c n k && allUpTo (fun j => !unsym c n k j) k) (n) (I21i n gn cn r g c) (fun _ => J21i n gn cn r g c) _ (.ret) (I21i n gn cn r g c) (I21i n gn cn r g c) (I21i n gn cn r g c (n)) (J21i n gn cn r g c) rfl (OSims.self (J21i n gn cn r g c)) (fun _ => rfl) (fun _ => rfl) (fun _ => ALe.self _) (fun _ => rfl) (ALe.self _) (OSims.self (J21i n gn cn r g c)) rfl (fun h => by cases h) (fun k hk L h1' h2 h3 => ?_) fun L hL => ?_
    · have h1 := fun a b => h1' a b _ (OSims.self (J21i n gn cn r g c))
      rw [round21i]
      by_cases hkm : k < n
      · refine condT (lt_dec hkm) ?_
        rw [wrap_ix hkm hkm hn]
        refine condT (by rw [hcn]; simp only [dec0, lt_dec (ix_lt hkm hkm hn), Bool.and_self, Bool.and_true]) ?_
        show cond (notpos c n k) _ _
        cases hs : notpos c n k
        · refine condE rfl ?_
          refine condT (by simp only [hcn, Nat.beq_refl, Nat.ble_eq_true_of_le hn, lt_blt hkm, decide_true, Bool.and_self]) ?_
          cases ha : allUpTo (fun j => !unsym c n k j) k
          · exact h2 hkm (by rw [hs, ha]; rfl)
          · have := h1 hkm (by rw [hs, ha]; rfl)
            rw [wrap_succ (by omega)]
            exact this
        · exact h2 hkm (by rw [hs]; rfl)
      · refine condE (ge_dec (by omega)) ?_
        obtain rfl : k = n := by omega
        exact h3 rfl
    · exact ⟨fun h => (hL.1 hg).1 h, fun N hN hf hall => by
        have := (hL.1 hg).2 (allUpTo_false hN hf)
        rw [firstIdx_eq hN hf hall] at this
        exact this⟩
  · cases hF
theorem fin_notNaN {x : Nat} (h : fin x = true) : isNaN .f32 x = false := by
  cases hx : isNaN .f32 x
  · rfl
  · unfold fin at h
    rw [fop_nan (.inl hx), forder_none.2 (.inl (isNaN_qnan _))] at h
    cases h
theorem least_bad (x : Nat) : (!least x) = bad x := by
  unfold least bad
  cases hf : fin x
  · rfl
  · have h1 := fin_notNaN hf
    have h2 : forder .f32 x (can .f32 0) ≠ none := fun h => by
      rcases forder_none.1 h with h | h
      · rw [h1] at h; cases h
      · rw [isNaN_zero] at h; cases h
    show (!ge0 x) = lt0 x
    unfold ge0 lt0
    cases ho : forder .f32 x (can .f32 0) with
    | none => exact absurd ho h2
    | some o => cases o <;> rfl
theorem badrow_eq (r g c : Nat → Nat) (n i : Nat) : badrow r g c n i = (bad (r i) || bad (g i) || notpos c n i) := by
  unfold badrow notpos
  rw [least_bad, least_bad]
  cases bad (r i) <;> cases bad (g i) <;> rfl
theorem badsym_eq (c : Nat → Nat) (n i j : Nat) : badsym c n i j = (!fin (c (i * n + j)) || unsym c n i j) := by
  unfold badsym unsym
  cases fin (c (i * n + j)) <;> rfl
theorem unsym_comm (c : Nat → Nat) (n i j : Nat) : unsym c n i j = unsym c n j i := forder_eq_comm _ _ _
theorem unsym_self {c : Nat → Nat} {n i : Nat} (h : fin (c (i * n + i)) = true) : unsym c n i i = false := by
  unfold unsym
  rw [forder_self (fin_notNaN h)]
  rfl
/-- The program looks at the same. -/
theorem valid_eq {n cn : Nat} (r g c : Nat → Nat) (hcn : cn = n * n) :
    allUpTo (fun k => !badrow r g c n k && allUpTo (fun j => !badsym c n k j) n) n =
      (allUpTo (fun k => !bad (r k)) n && (allUpTo (fun k => !bad (g k)) n && (allUpTo (fun k => fin (c k)) cn && allUpTo (fun k => !notpos c n k && allUpTo (fun j => !unsym c n k j) k) n))) := by
  subst hcn
  apply Bool.eq_iff_iff.2
  simp only [Bool.and_eq_true, allUpTo_iff, badrow_eq, badsym_eq, Bool.not_eq_true', Bool.or_eq_false_iff, Bool.not_eq_false']
  constructor
  · intro h
    refine ⟨fun i hi => (h i hi).1.1.1, fun i hi => (h i hi).1.1.2, fun k hk => ?_, fun i hi => ⟨(h i hi).1.2, fun j hj => ((h i hi).2 j (by omega)).2⟩⟩
    have hn : 0 < n := by
      rcases Nat.eq_zero_or_pos n with h0 | h0
      · subst h0; simp at hk
      · exact h0
    have h1 : k / n < n := (Nat.div_lt_iff_lt_mul hn).2 hk
    have := ((h (k / n) h1).2 (k % n) (Nat.mod_lt _ hn)).1
    rwa [Nat.mul_comm, Nat.div_add_mod] at this
  · rintro ⟨h1, h2, h3, h4⟩ i hi
    have hfin : ∀ a b, a < n → b < n → fin (c (a * n + b)) = true := fun a b ha hb => h3 _ (by
      have : (a + 1) * n ≤ n * n := Nat.mul_le_mul_right n ha
      rw [Nat.add_mul, Nat.one_mul] at this
      omega)
    refine ⟨⟨⟨h1 i hi, h2 i hi⟩, (h4 i hi).1⟩, fun j hj => ⟨hfin i j hi hj, ?_⟩⟩
    rcases Nat.lt_trichotomy j i with h | h | h
    · exact (h4 i hi).2 j h
    · subst h; exact unsym_self (hfin j j hi hi)
    · rw [unsym_comm]; exact (h4 j hj).2 i h
noncomputable def lp21 : List (Nat × (St → T)) := [(0, sumAt Try.f26.ntmps 752 [1, 2, 48, 49] [0] F21i)]
theorem lp21_ok : LpOK Try.prog (look lp21) (bodyOf Try.f26) := lp_loops (by kernel_rfl) (by kernel_rfl) fun p hp => by
  simp only [lp21, List.mem_cons, List.not_mem_nil, or_false] at hp
  rcases hp with rfl
  · exact loop21i
theorem auto21 (n gn cn : Nat) (r g c : Nat → Nat) : autoLp cfg7 (look lp21) Try.f26 [.agg [.ro 1 n (.flts .f32 r), .ro 1 gn (.flts .f32 g), .ro 1 cn (.flts .f32 c)]] =
    some ((n.ble 4611686018427387000 || !(bif bif bif decide (Int.ofNat n < 1) then true else decide (Int.ofNat n > 6) then true else Int.ofNat gn != Int.ofNat n then true else Int.ofNat cn != IntKind.i64.wrap (Int.ofNat n * Int.ofNat n)) == false) && ((gn.ble 4611686018427387000 || !(bif bif bif bif decide (Int.ofNat n < 1) then true else decide (Int.ofNat n > 6) then true else Int.ofNat gn != Int.ofNat n then true else Int.ofNat cn != IntKind.i64.wrap (Int.ofNat n * Int.ofNat n) then true else !allUpTo (fun k => !bad (r k)) n) == false) && ((cn.ble 4611686018427387000 || !(bif bif bif bif bif decide (Int.ofNat n < 1) then true else decide (Int.ofNat n > 6) then true else Int.ofNat gn != Int.ofNat n then true else Int.ofNat cn != IntKind.i64.wrap (Int.ofNat n * Int.ofNat n) then true else !allUpTo (fun k => !bad (r k)) n then true else !allUpTo (fun k => !bad (g k)) gn) == false) && bif bif bif bif bif bif bif decide (Int.ofNat n < 1) then true else decide (Int.ofNat n > 6) then true else Int.ofNat gn != Int.ofNat n then true else Int.ofNat cn != IntKind.i64.wrap (Int.ofNat n * Int.ofNat n) then true else !allUpTo (fun k => !bad (r k)) n then true else !allUpTo (fun k => !bad (g k)) gn then true else !allUpTo (fun k => fin (c k)) cn then true else decide (Int.ofNat n = Int.ofNat n) && n.ble 6 && cn.beq (n * n) && bif allUpTo (fun k => !notpos c n k && allUpTo (fun j => !unsym c n k j) k) n then true else true)), A.bool (bif bif bif bif bif bif bif decide (Int.ofNat n < 1) then true else decide (Int.ofNat n > 6) then true else Int.ofNat gn != Int.ofNat n then true else Int.ofNat cn != IntKind.i64.wrap (Int.ofNat n * Int.ofNat n) then true else !allUpTo (fun k => !bad (r k)) n then true else !allUpTo (fun k => !bad (g k)) gn then true else !allUpTo (fun k => fin (c k)) cn then false else bif allUpTo (fun k => !notpos c n k && allUpTo (fun j => !unsym c n k j) k) n then true else false)) := by kernel_rfl
noncomputable def s21 : List A → Option (Bool × A)
  | [.agg [.ro 1 n (.flts .f32 r), .ro 1 gn (.flts .f32 g), .ro 1 cn (.flts .f32 c)]] => some (true, .bool (valid n gn cn r g c))
  | _ => none
theorem s21_at : EnvAt Try.prog 26 s21 := of_auto cfg7_ok lp21_ok Try.func26 (by kernel_rfl) (by kernel_rfl) fun ds cc rr h hc => by
  unfold s21 at h
  split at h
  · rename_i n r gn g cn c
    simp only [Option.some.injEq, Prod.mk.injEq] at h
    obtain ⟨rfl, rfl⟩ := h
    refine auto_fit (auto21 n gn cn r g c) ?_ ?_
    · rw [sizes_eq]
      unfold valid
      cases hs : sizes n gn cn
      · rfl
      · simp only [sizes, decide_eq_true_eq] at hs
        rw [valid_eq r g c hs.2.2.2, hs.2.2.1]
        cases allUpTo (fun k => !bad (r k)) n <;> cases allUpTo (fun k => !bad (g k)) n <;> cases allUpTo (fun k => fin (c k)) cn <;> cases allUpTo (fun k => !notpos c n k && allUpTo (fun j => !unsym c n k j) k) n <;> rfl
    · rw [sizes_eq]
      cases hs : sizes n gn cn
      · simp
      · simp only [sizes, decide_eq_true_eq] at hs
        have h2 := sq_le hs.2.1
        have e1 : n.ble 4611686018427387000 = true := Nat.ble_eq_true_of_le (by omega)
        have e2 : cn.ble 4611686018427387000 = true := Nat.ble_eq_true_of_le (by omega)
        rw [hs.2.2.1, e1, e2]
        simp [hs]
  · cases h
end Go.Fw.T1

/-
  The laws' own functions on circuits.
-/
namespace Go.Fw.T1
open Go.Proofs
noncomputable def env8 : List (Nat × (List A → Option (Bool × A))) := (26, s21) :: env7
theorem env8_ok : EnvOK Try.prog (look env8) := env_cons s21_at env7_ok
noncomputable def env9 : List (Nat × (List A → Option (Bool × A))) := env8
theorem env9_ok : EnvOK Try.prog (look env9) := env8_ok
end Go.Fw.T1

/-
  Loops that are valid.
-/
namespace Go.Fw.T1
open Go.Proofs
noncomputable def env10 : List (Nat × (List A → Option (Bool × A))) := env9
theorem env10_ok : EnvOK Try.prog (look env10) := env9_ok
noncomputable def env11 : List (Nat × (List A → Option (Bool × A))) := env10
theorem env11_ok : EnvOK Try.prog (look env11) := env10_ok
end Go.Fw.T1

/-
  The energy of loops.
-/
namespace Go.Fw.T1
open Go.Proofs
noncomputable def env12 : List (Nat × (List A → Option (Bool × A))) := env11
theorem env12_ok : EnvOK Try.prog (look env12) := env11_ok
noncomputable def cfg12 : Cfg := mkCfg tab [] xts (look env12)
theorem cfg12_ok : CfgOK Try.prog cfg12 := cfg_ok tab_eq (no_fts _) xts_ok env12_ok mixed
end Go.Fw.T1

/-
  Couplings, resonances, qualities.
-/
namespace Go.Fw.T1
open Go.Proofs
def root32 (x : Nat) : Nat := fcvt .f64 .f32 (fsqrt (fcvt .f32 .f64 x))
noncomputable def env13 : List (Nat × (List A → Option (Bool × A))) := (60, auto cfg12 Try.f60) :: (61, auto cfg12 Try.f61) :: env12
theorem env13_ok : EnvOK Try.prog (look env13) := env_cons (auto_at cfg12_ok Try.func60 (by kernel_rfl) (by kernel_rfl)) (env_cons (auto_at cfg12_ok Try.func61 (by kernel_rfl) (by kernel_rfl)) env12_ok)
noncomputable def cfg13 : Cfg := mkCfg tab [] xts (look env13)
theorem cfg13_ok : CfgOK Try.prog cfg13 := cfg_ok tab_eq (no_fts _) xts_ok env13_ok mixed
theorem auto75 (x : Nat) : autoLp cfg13 (fun _ => none) Try.f38 [.flt .f32 x] =
    some (fcvtOk FloatKind.f64 FloatKind.f32 (fsqrt (fcvt FloatKind.f32 FloatKind.f64 x)) && true, A.flt FloatKind.f32 (fcvt FloatKind.f64 FloatKind.f32 (fsqrt (fcvt FloatKind.f32 FloatKind.f64 x)))) := by kernel_rfl
noncomputable def s75 : List A → Option (Bool × A)
  | [.flt .f32 x] => some (true, .flt .f32 (root32 x))
  | _ => none
theorem s75_at : EnvAt Try.prog 38 s75 := of_auto cfg13_ok (lp_none _) Try.func38 (by kernel_rfl) (by kernel_rfl) fun ds cc rr h hc => by
  unfold s75 at h
  split at h
  · rename_i x
    simp only [Option.some.injEq, Prod.mk.injEq] at h
    obtain ⟨rfl, rfl⟩ := h
    refine auto_fit (auto75 x) ?_ ?_
    · rfl
    · simp only [sqrt_ok, Bool.and_true]
  · cases h
noncomputable def env14 : List (Nat × (List A → Option (Bool × A))) := (38, s75) :: (30, auto cfg13 Try.f30) :: env13
theorem env14_ok : EnvOK Try.prog (look env14) := env_cons s75_at (env_cons (auto_at cfg13_ok Try.func30 (by kernel_rfl) (by kernel_rfl)) env13_ok)
noncomputable def cfg14 : Cfg := mkCfg tab [] xts (look env14)
theorem cfg14_ok : CfgOK Try.prog cfg14 := cfg_ok tab_eq (no_fts _) xts_ok env14_ok mixed
noncomputable def env15 : List (Nat × (List A → Option (Bool × A))) := (35, auto cfg14 Try.f35) :: env14
theorem env15_ok : EnvOK Try.prog (look env15) := env_cons (auto_at cfg14_ok Try.func35 (by kernel_rfl) (by kernel_rfl)) env14_ok
noncomputable def cfg15 : Cfg := mkCfg tab [] xts (look env15)
theorem cfg15_ok : CfgOK Try.prog cfg15 := cfg_ok tab_eq (no_fts _) xts_ok env15_ok mixed
/-- The index of a loop. -/
def inn (n : Nat) (i : Int) : Bool := bif decide (i ≥ 0) then decide (i ≤ IntKind.i64.wrap (Int.ofNat n - 1)) else false
theorem inn_spec {n : Nat} {i : Int} (hn : 1 ≤ n) (hn6 : n ≤ 6) (h : inn n i = true) : ∃ k, i = Int.ofNat k ∧ k < n := by
  unfold inn at h
  have e : IntKind.i64.wrap (Int.ofNat n - 1) = Int.ofNat (n - 1) := by
    rw [show (Int.ofNat n - 1) = Int.ofNat (n - 1) by simp; omega, wrap_nat (by omega)]
  rw [e] at h
  cases h0 : decide (i ≥ 0)
  · rw [h0] at h; cases h
  · rw [h0] at h
    have h1 := of_decide_eq_true h0
    have h2 : i ≤ Int.ofNat (n - 1) := of_decide_eq_true h
    obtain ⟨k, rfl⟩ := Int.eq_ofNat_of_zero_le h1
    refine ⟨k, rfl, ?_⟩
    simp at h2
    omega
theorem valid_sizes {n gn cn : Nat} {r g c : Nat → Nat} (h : valid n gn cn r g c = true) : 1 ≤ n ∧ n ≤ 6 ∧ gn = n ∧ cn = n * n := by
  unfold valid at h
  simp only [Bool.and_eq_true, sizes, decide_eq_true_eq] at h
  exact h.1
/-- Where the coil of i and j lies. -/
def ixI (n : Nat) (i j : Int) : Nat := (IntKind.i64.wrap (IntKind.i64.wrap (i * Int.ofNat n) + j)).toNat
noncomputable def coupNo (n gn cn : Nat) (r g c : Nat → Nat) (i j : Int) : Bool := bif bif bif !valid n gn cn r g c then true else !inn n i then true else !inn n j then true else i == j
noncomputable def coup (n : Nat) (c : Nat → Nat) (i j : Int) : Nat := fop .quo .f32 (c (ixI n i j)) (root32 (fop .mul .f32 (c (ixI n i i)) (c (ixI n j j))))
theorem coup_ok {n gn cn : Nat} {r g c : Nat → Nat} {i j : Int} (h : coupNo n gn cn r g c i j = false) : ∃ a b, i = Int.ofNat a ∧ j = Int.ofNat b ∧ a < n ∧ b < n ∧ n ≤ 6 ∧ cn = n * n := by
  unfold coupNo at h
  cases hv : valid n gn cn r g c
  · rw [hv] at h; cases h
  cases hi : inn n i
  · rw [hv, hi] at h; cases h
  cases hj : inn n j
  · rw [hv, hi, hj] at h; cases h
  obtain ⟨h1, h2, _, h4⟩ := valid_sizes hv
  obtain ⟨a, rfl, ha⟩ := inn_spec h1 h2 hi
  obtain ⟨b, rfl, hb⟩ := inn_spec h1 h2 hj
  exact ⟨a, b, rfl, rfl, ha, hb, h2, h4⟩
theorem auto42 (n gn cn : Nat) (r g c : Nat → Nat) (i j : Int) : autoLp cfg15 (fun _ => none) Try.f14 [.agg [.ro 1 n (.flts .f32 r), .ro 1 gn (.flts .f32 g), .ro 1 cn (.flts .f32 c)], .int .i64 i, .int .i64 j] =
    some (bif bif bif !bif valid n gn cn r g c then bif decide (i ≥ 0) then decide (i ≤ IntKind.i64.wrap (Int.ofNat n - 1)) else false else false then true else !bif valid n gn cn r g c then bif decide (j ≥ 0) then decide (j ≤ IntKind.i64.wrap (Int.ofNat n - 1)) else false else false then true else i == j then true else decide (0 ≤ IntKind.i64.wrap (IntKind.i64.wrap (i * Int.ofNat n) + i)) && decide (IntKind.i64.wrap (IntKind.i64.wrap (i * Int.ofNat n) + i) < Int.ofNat cn) && true && (decide (0 ≤ IntKind.i64.wrap (IntKind.i64.wrap (i * Int.ofNat n) + j)) && decide (IntKind.i64.wrap (IntKind.i64.wrap (i * Int.ofNat n) + j) < Int.ofNat cn) && true && true) && (decide (0 ≤ IntKind.i64.wrap (IntKind.i64.wrap (j * Int.ofNat n) + j)) && decide (IntKind.i64.wrap (IntKind.i64.wrap (j * Int.ofNat n) + j) < Int.ofNat cn) && true && true), A.tup [A.flt FloatKind.f32 (bif bif bif !bif valid n gn cn r g c then bif decide (i ≥ 0) then decide (i ≤ IntKind.i64.wrap (Int.ofNat n - 1)) else false else false then true else !bif valid n gn cn r g c then bif decide (j ≥ 0) then decide (j ≤ IntKind.i64.wrap (Int.ofNat n - 1)) else false else false then true else i == j then can FloatKind.f32 0 else fop BinOp.quo FloatKind.f32 (c (IntKind.i64.wrap (IntKind.i64.wrap (i * Int.ofNat n) + j)).toNat) (root32 (fop BinOp.mul FloatKind.f32 (c (IntKind.i64.wrap (IntKind.i64.wrap (i * Int.ofNat n) + i)).toNat) (c (IntKind.i64.wrap (IntKind.i64.wrap (j * Int.ofNat n) + j)).toNat)))), A.bool (bif bif bif !bif valid n gn cn r g c then bif decide (i ≥ 0) then decide (i ≤ IntKind.i64.wrap (Int.ofNat n - 1)) else false else false then true else !bif valid n gn cn r g c then bif decide (j ≥ 0) then decide (j ≤ IntKind.i64.wrap (Int.ofNat n - 1)) else false else false then true else i == j then false else true)]) := by kernel_rfl
noncomputable def s42 : List A → Option (Bool × A)
  | [.agg [.ro 1 n (.flts .f32 r), .ro 1 gn (.flts .f32 g), .ro 1 cn (.flts .f32 c)], .int .i64 i, .int .i64 j] => some (true, .tup [.flt .f32 (bif coupNo n gn cn r g c i j then can .f32 0 else coup n c i j), .bool (bif coupNo n gn cn r g c i j then false else true)])
  | _ => none
theorem s42_at : EnvAt Try.prog 14 s42 := of_auto cfg15_ok (lp_none _) Try.func14 (by kernel_rfl) (by kernel_rfl) fun ds cc rr h hc => by
  unfold s42 at h
  split at h
  · rename_i n r gn g cn c i j
    simp only [Option.some.injEq, Prod.mk.injEq] at h
    obtain ⟨rfl, rfl⟩ := h
    refine auto_fit (auto42 n gn cn r g c i j) ?_ ?_
    · show A.tup [A.flt .f32 (bif bif bif !bif valid n gn cn r g c then inn n i else false then true else !bif valid n gn cn r g c then inn n j else false then true else i == j then _ else _), A.bool (bif bif bif !bif valid n gn cn r g c then inn n i else false then true else !bif valid n gn cn r g c then inn n j else false then true else i == j then _ else _)] = _
      unfold coupNo
      cases valid n gn cn r g c <;> cases inn n i <;> cases inn n j <;> rfl
    · show (bif bif bif !bif valid n gn cn r g c then inn n i else false then true else !bif valid n gn cn r g c then inn n j else false then true else i == j then true else _) = true
      have e : (bif bif !bif valid n gn cn r g c then inn n i else false then true else !bif valid n gn cn r g c then inn n j else false then true else i == j) = coupNo n gn cn r g c i j := by
        unfold coupNo
        cases valid n gn cn r g c <;> cases inn n i <;> cases inn n j <;> rfl
      rw [e]
      cases h : coupNo n gn cn r g c i j
      · obtain ⟨a, b, rfl, rfl, ha, hb, hn, hcn⟩ := coup_ok h
        simp only [wrap_ix ha ha hn, wrap_ix hb hb hn, wrap_ix ha hb hn, dec0, hcn, lt_dec (ix_lt ha ha hn), lt_dec (ix_lt hb hb hn), lt_dec (ix_lt ha hb hn), Bool.and_self, cond_false]
      · rfl
  · cases h
noncomputable def loopNo (n gn cn : Nat) (r g c : Nat → Nat) (i : Int) : Bool := bif !valid n gn cn r g c then true else !inn n i
theorem loopNo_eq (n gn cn : Nat) (r g c : Nat → Nat) (i : Int) : (!bif valid n gn cn r g c then inn n i else false) = loopNo n gn cn r g c i := by
  unfold loopNo
  cases valid n gn cn r g c <;> cases inn n i <;> rfl
theorem loop_ok {n gn cn : Nat} {r g c : Nat → Nat} {i : Int} (h : loopNo n gn cn r g c i = false) : ∃ a, i = Int.ofNat a ∧ a < n ∧ n ≤ 6 ∧ gn = n ∧ cn = n * n := by
  unfold loopNo at h
  cases hv : valid n gn cn r g c
  · rw [hv] at h; cases h
  cases hi : inn n i
  · rw [hv, hi] at h; cases h
  obtain ⟨h1, h2, h3, h4⟩ := valid_sizes hv
  obtain ⟨a, rfl, ha⟩ := inn_spec h1 h2 hi
  exact ⟨a, rfl, ha, h2, h3, h4⟩
noncomputable def reso (n : Nat) (g c : Nat → Nat) (i : Int) : Nat := root32 (fop .quo .f32 (g i.toNat) (c (ixI n i i)))
theorem auto48 (n gn cn : Nat) (r g c : Nat → Nat) (i : Int) : autoLp cfg15 (fun _ => none) Try.f8 [.agg [.ro 1 n (.flts .f32 r), .ro 1 gn (.flts .f32 g), .ro 1 cn (.flts .f32 c)], .int .i64 i] =
    some (bif !bif valid n gn cn r g c then bif decide (i ≥ 0) then decide (i ≤ IntKind.i64.wrap (Int.ofNat n - 1)) else false else false then true else decide (0 ≤ IntKind.i64.wrap (IntKind.i64.wrap (i * Int.ofNat n) + i)) && decide (IntKind.i64.wrap (IntKind.i64.wrap (i * Int.ofNat n) + i) < Int.ofNat cn) && true && (decide (0 ≤ i) && decide (i < Int.ofNat gn) && true) && true && true, A.tup [A.flt FloatKind.f32 (bif !bif valid n gn cn r g c then bif decide (i ≥ 0) then decide (i ≤ IntKind.i64.wrap (Int.ofNat n - 1)) else false else false then can FloatKind.f32 0 else root32 (fop BinOp.quo FloatKind.f32 (g i.toNat) (c (IntKind.i64.wrap (IntKind.i64.wrap (i * Int.ofNat n) + i)).toNat))), A.bool (bif !bif valid n gn cn r g c then bif decide (i ≥ 0) then decide (i ≤ IntKind.i64.wrap (Int.ofNat n - 1)) else false else false then false else true)]) := by kernel_rfl
noncomputable def s48 : List A → Option (Bool × A)
  | [.agg [.ro 1 n (.flts .f32 r), .ro 1 gn (.flts .f32 g), .ro 1 cn (.flts .f32 c)], .int .i64 i] => some (true, .tup [.flt .f32 (bif loopNo n gn cn r g c i then can .f32 0 else reso n g c i), .bool (bif loopNo n gn cn r g c i then false else true)])
  | _ => none
theorem s48_at : EnvAt Try.prog 8 s48 := of_auto cfg15_ok (lp_none _) Try.func8 (by kernel_rfl) (by kernel_rfl) fun ds cc rr h hc => by
  unfold s48 at h
  split at h
  · rename_i n r gn g cn c i
    simp only [Option.some.injEq, Prod.mk.injEq] at h
    obtain ⟨rfl, rfl⟩ := h
    refine auto_fit (auto48 n gn cn r g c i) ?_ ?_
    · rw [← loopNo_eq]; rfl
    · show (bif (!bif valid n gn cn r g c then inn n i else false) then true else _) = true
      rw [loopNo_eq]
      cases h : loopNo n gn cn r g c i
      · obtain ⟨a, rfl, ha, hn, hgn, hcn⟩ := loop_ok h
        simp only [wrap_ix ha ha hn, dec0, hcn, hgn, lt_dec ha, lt_dec (ix_lt ha ha hn), Bool.and_self, cond_false]
      · rfl
  · cases h
noncomputable def qualNo (n gn cn : Nat) (r g c : Nat → Nat) (i : Int) : Bool := bif loopNo n gn cn r g c i then true else forder .f32 (r i.toNat) (can .f32 0) == some .eq
noncomputable def qual (n : Nat) (r g c : Nat → Nat) (i : Int) : Nat := fop .quo .f32 (fop .mul .f32 (reso n g c i) (c (ixI n i i))) (r i.toNat)
theorem auto46 (n gn cn : Nat) (r g c : Nat → Nat) (i : Int) : autoLp cfg15 (fun _ => none) Try.f10 [.agg [.ro 1 n (.flts .f32 r), .ro 1 gn (.flts .f32 g), .ro 1 cn (.flts .f32 c)], .int .i64 i] =
    some ((decide (0 ≤ i) && decide (i < Int.ofNat n) || !(!bif valid n gn cn r g c then bif decide (i ≥ 0) then decide (i ≤ IntKind.i64.wrap (Int.ofNat n - 1)) else false else false) == false) && bif bif !bif valid n gn cn r g c then bif decide (i ≥ 0) then decide (i ≤ IntKind.i64.wrap (Int.ofNat n - 1)) else false else false then true else forder FloatKind.f32 (r i.toNat) (can FloatKind.f32 0) == some Ordering.eq then true else decide (0 ≤ i) && decide (i < Int.ofNat n) && (decide (0 ≤ IntKind.i64.wrap (IntKind.i64.wrap (i * Int.ofNat n) + i)) && decide (IntKind.i64.wrap (IntKind.i64.wrap (i * Int.ofNat n) + i) < Int.ofNat cn) && true && (decide (0 ≤ IntKind.i64.wrap (IntKind.i64.wrap (i * Int.ofNat n) + i)) && decide (IntKind.i64.wrap (IntKind.i64.wrap (i * Int.ofNat n) + i) < Int.ofNat cn) && true && (decide (0 ≤ i) && decide (i < Int.ofNat gn) && true) && true && true)) && true, A.tup [A.flt FloatKind.f32 (bif bif !bif valid n gn cn r g c then bif decide (i ≥ 0) then decide (i ≤ IntKind.i64.wrap (Int.ofNat n - 1)) else false else false then true else forder FloatKind.f32 (r i.toNat) (can FloatKind.f32 0) == some Ordering.eq then can FloatKind.f32 0 else fop BinOp.quo FloatKind.f32 (fop BinOp.mul FloatKind.f32 (root32 (fop BinOp.quo FloatKind.f32 (g i.toNat) (c (IntKind.i64.wrap (IntKind.i64.wrap (i * Int.ofNat n) + i)).toNat))) (c (IntKind.i64.wrap (IntKind.i64.wrap (i * Int.ofNat n) + i)).toNat)) (r i.toNat)), A.bool (bif bif !bif valid n gn cn r g c then bif decide (i ≥ 0) then decide (i ≤ IntKind.i64.wrap (Int.ofNat n - 1)) else false else false then true else forder FloatKind.f32 (r i.toNat) (can FloatKind.f32 0) == some Ordering.eq then false else true)]) := by kernel_rfl
noncomputable def s46 : List A → Option (Bool × A)
  | [.agg [.ro 1 n (.flts .f32 r), .ro 1 gn (.flts .f32 g), .ro 1 cn (.flts .f32 c)], .int .i64 i] => some (true, .tup [.flt .f32 (bif qualNo n gn cn r g c i then can .f32 0 else qual n r g c i), .bool (bif qualNo n gn cn r g c i then false else true)])
  | _ => none
theorem s46_at : EnvAt Try.prog 10 s46 := of_auto cfg15_ok (lp_none _) Try.func10 (by kernel_rfl) (by kernel_rfl) fun ds cc rr h hc => by
  unfold s46 at h
  split at h
  · rename_i n r gn g cn c i
    simp only [Option.some.injEq, Prod.mk.injEq] at h
    obtain ⟨rfl, rfl⟩ := h
    refine auto_fit (auto46 n gn cn r g c i) ?_ ?_
    · unfold qualNo; rw [← loopNo_eq]; rfl
    · show ((decide (0 ≤ i) && decide (i < Int.ofNat n) || !((!bif valid n gn cn r g c then inn n i else false) == false)) && bif bif (!bif valid n gn cn r g c then inn n i else false) then true else _ then true else _) = true
      rw [loopNo_eq]
      cases h : loopNo n gn cn r g c i
      · obtain ⟨a, rfl, ha, hn, hgn, hcn⟩ := loop_ok h
        simp only [wrap_ix ha ha hn, dec0, hcn, hgn, lt_dec ha, lt_dec (ix_lt ha ha hn), Bool.and_self, cond_false, Bool.true_or, Bool.cond_self]
      · simp
  · cases h
noncomputable def env16 : List (Nat × (List A → Option (Bool × A))) := (14, s42) :: (10, s46) :: (8, s48) :: env15
theorem env16_ok : EnvOK Try.prog (look env16) := env_cons s42_at (env_cons s46_at (env_cons s48_at env15_ok))
noncomputable def cfg16 : Cfg := mkCfg tab [] xts (look env16)
theorem cfg16_ok : CfgOK Try.prog cfg16 := cfg_ok tab_eq (no_fts _) xts_ok env16_ok mixed
end Go.Fw.T1

/-
  Circuits compared.
-/
namespace Go.Fw.T1
open Go.Proofs
def nega (x : Nat) : Bool := decide (IntKind.i64.wrap (Int.ofNat (fcvt .f32 .f64 x)) < 0)
def same82 (x y : Nat) : Bool := bif bif nan x then true else nan y then bif nan x then nan y else false else bif forder .f32 x y == some .eq then nega x == nega y else false
theorem nan_eq (x : Nat) : nan x = isNaN .f32 x := by
  unfold nan
  have := @forder_self_iff .f32 x
  cases h : isNaN .f32 x
  · rw [h] at this; simp only [bne, this]; rfl
  · rw [h] at this; simp only [bne, this]; rfl
theorem auto82 (x y : Nat) : autoLp cfg16 (fun _ => none) Try.f71 [.flt .f32 x, .flt .f32 y] =
    some (bif bif forder FloatKind.f32 x x != some Ordering.eq then true else forder FloatKind.f32 y y != some Ordering.eq then true else (!isNaN FloatKind.f64 (fcvt FloatKind.f32 FloatKind.f64 x) && true || !(forder FloatKind.f32 x y == some Ordering.eq) == true) && ((!isNaN FloatKind.f64 (fcvt FloatKind.f32 FloatKind.f64 y) && true || !(forder FloatKind.f32 x y == some Ordering.eq) == true) && true), A.bool (bif bif forder FloatKind.f32 x x != some Ordering.eq then true else forder FloatKind.f32 y y != some Ordering.eq then bif forder FloatKind.f32 x x != some Ordering.eq then forder FloatKind.f32 y y != some Ordering.eq else false else bif forder FloatKind.f32 x y == some Ordering.eq then decide (IntKind.i64.wrap (Int.ofNat (fcvt FloatKind.f32 FloatKind.f64 x)) < 0) == decide (IntKind.i64.wrap (Int.ofNat (fcvt FloatKind.f32 FloatKind.f64 y)) < 0) else false)) := by kernel_rfl
noncomputable def s82 : List A → Option (Bool × A)
  | [.flt .f32 x, .flt .f32 y] => some (true, .bool (same82 x y))
  | _ => none
theorem s82_at : EnvAt Try.prog 71 s82 := of_auto cfg16_ok (lp_none _) Try.func71 (by kernel_rfl) (by kernel_rfl) fun ds cc rr h hc => by
  unfold s82 at h
  split at h
  · rename_i x y
    simp only [Option.some.injEq, Prod.mk.injEq] at h
    obtain ⟨rfl, rfl⟩ := h
    refine auto_fit (auto82 x y) ?_ ?_
    · rfl
    · show (bif bif nan x then true else nan y then true else _) = true
      cases hx : nan x
      · cases hy : nan y
        · rw [nan_eq] at hx hy
          simp only [notNaN_fcvt hx, notNaN_fcvt hy]
          simp
        · rfl
      · rfl
  · cases h
noncomputable def env17 : List (Nat × (List A → Option (Bool × A))) := (71, s82) :: env16
theorem env17_ok : EnvOK Try.prog (look env17) := env_cons s82_at env16_ok
noncomputable def cfg17 : Cfg := mkCfg tab [] xts (look env17)
theorem cfg17_ok : CfgOK Try.prog cfg17 := cfg_ok tab_eq (no_fts _) xts_ok env17_ok mixed
noncomputable def I81 (n m n2 : Nat) (r s r2 : Nat → Nat) (k : Nat) : List A := [.ro 1 n2 (.flts .f32 r2), .ro 1 m (.flts .f32 s), .fn 71 [], .bool false, .ro 1 n (.flts .f32 r), .int .i64 (Int.ofNat n), .int .i64 (Int.ofNat k)]
theorem round81 (n m n2 : Nat) (r s r2 : Nat → Nat) (k : Nat) (L : XK → List A → List (Option O) → Prop) :
    ((exec cfg17 (fun _ => true) (fun _ => none) 0 1000 (loopOf Try.f70 0) (litSt Try.f70.ntmps 144 [0, 1, 2, 6, 15, 16, 17] [] (I81 n m n2 r s r2 k) [])).rt [0, 1, 2, 6, 15, 16, 17] []).Ok L =
    bif decide (Int.ofNat k < Int.ofNat n) then
      bif decide (Int.ofNat k < Int.ofNat n) then
        bif decide (Int.ofNat k < Int.ofNat m) then
          bif !same82 (r k) (s k) then
            L (XK.ret) [A.ro 1 n2 (Row.flts FloatKind.f32 r2), A.ro 1 m (Row.flts FloatKind.f32 s), A.fn 71 [], A.bool false, A.ro 1 n (Row.flts FloatKind.f32 r), A.int IntKind.i64 (Int.ofNat n), A.int IntKind.i64 (Int.ofNat k)] []
          else
            L (XK.normal) [A.ro 1 n2 (Row.flts FloatKind.f32 r2), A.ro 1 m (Row.flts FloatKind.f32 s), A.fn 71 [], A.bool false, A.ro 1 n (Row.flts FloatKind.f32 r), A.int IntKind.i64 (Int.ofNat n), A.int IntKind.i64 (IntKind.i64.wrap (Int.ofNat k + Int.ofNat 1))] []
        else
          False
      else
        False
    else
      L (XK.exit 0) [A.ro 1 n2 (Row.flts FloatKind.f32 r2), A.ro 1 m (Row.flts FloatKind.f32 s), A.fn 71 [], A.bool false, A.ro 1 n (Row.flts FloatKind.f32 r), A.int IntKind.i64 (Int.ofNat n), A.int IntKind.i64 (Int.ofNat k)] [] := by kernel_rfl
noncomputable def F81 : List A → List (Option O) → Option R3
  | [.ro 1 n2 (.flts .f32 r2), .ro 1 m (.flts .f32 s), .fn 71 [], .bool false, .ro 1 n (.flts .f32 r), .int .i64 l, .int .i64 0], [] => some (.ite (decide (l = Int.ofNat n) && Nat.beq m n && Nat.ble n 4611686018427387000) (.ite (allUpTo (fun k => same82 (r k) (s k)) (n)) (.leaf .normal (I81 n m n2 r s r2 (n)) []) (.leaf (.ret) ((I81 n m n2 r s r2) (firstIdx (fun k => same82 (r k) (s k)) (n))) [])) .fail)
  | _, _ => none
theorem loop81 : CodeOK Try.prog (fun _ σ => sumAt Try.f70.ntmps 144 [0, 1, 2, 6, 15, 16, 17] [] F81 σ) (.block 0 (.loop (loopOf Try.f70 0))) := by
  refine block_ok (own := fun _ => true) (lp := (fun _ => none)) (un := 0) (fuel := 1000) cfg17_ok (lp_none _) fun az os R hF hok => ?_
  unfold F81 at hF
  split at hF
  · rename_i n2 r2 m s n r l
    injection hF with hF
    subst hF
    have hg := hok.guard
    have hg' := hg
    simp only [Bool.and_eq_true, Nat.ble_eq, Nat.beq_eq, decide_eq_true_eq] at hg'
    obtain ⟨⟨rfl, hm⟩, hn⟩ := hg'
    refine for_fact0 (fun k => same82 (r k) (s k)) (n) (I81 n m n2 r s r2) _ (.ret) (I81 n m n2 r s r2) (I81 n m n2 r s r2) (I81 n m n2 r s r2 (n)) rfl (fun _ => rfl) (fun _ => ALe.self _) (fun _ => rfl) (ALe.self _) rfl (fun h => by cases h) (fun k hk L h1 h2 h3 => ?_) fun L hL => ?_
    · rw [round81]
      by_cases hkm : k < n
      · refine condT (lt_dec hkm) ?_
        refine condT (lt_dec hkm) ?_
        refine condT (by rw [hm]; exact lt_dec hkm) ?_
        cases hs : same82 (r k) (s k)
        · exact h2 hkm hs
        · have := h1 hkm hs
          rw [wrap_succ (by omega)]
          exact this
      · refine condE (ge_dec (by omega)) ?_
        obtain rfl : k = n := by omega
        exact h3 rfl
    · exact ⟨fun h => (hL.1 hg).1 h, fun N hN hf hall => by
        have := (hL.1 hg).2 (allUpTo_false hN hf)
        rw [firstIdx_eq hN hf hall] at this
        exact this⟩
  · cases hF
/-- Two lists of the same length, alike at each place. -/
noncomputable def sameL (f : Nat → Bool) (n m : Nat) : Bool := bif Int.ofNat n != Int.ofNat m then false else allUpTo f n
noncomputable def lp81 : List (Nat × (St → T)) := [(0, sumAt Try.f70.ntmps 144 [0, 1, 2, 6, 15, 16, 17] [] F81)]
theorem lp81_ok : LpOK Try.prog (look lp81) (bodyOf Try.f70) := lp_loops (by kernel_rfl) (by kernel_rfl) fun p hp => by
  simp only [lp81, List.mem_cons, List.not_mem_nil, or_false] at hp
  rcases hp with rfl
  · exact loop81
theorem auto81 (n m : Nat) (r s : Nat → Nat) : autoLp cfg17 (look lp81) Try.f70 [.ro 1 n (.flts .f32 r), .ro 1 m (.flts .f32 s), .fn 71 []] =
    some (bif Int.ofNat n != Int.ofNat m then true else decide (Int.ofNat n = Int.ofNat n) && m.beq n && n.ble 4611686018427387000 && bif allUpTo (fun k => same82 (r k) (s k)) n then true else true, A.bool (bif Int.ofNat n != Int.ofNat m then false else bif allUpTo (fun k => same82 (r k) (s k)) n then true else false)) := by kernel_rfl
noncomputable def s81 : List A → Option (Bool × A)
  | [.ro 1 n (.flts .f32 r), .ro 1 m (.flts .f32 s), .fn 71 []] => some (Nat.ble n 4611686018427387000, .bool (sameL (fun k => same82 (r k) (s k)) n m))
  | _ => none
theorem s81_at : EnvAt Try.prog 70 s81 := of_auto cfg17_ok lp81_ok Try.func70 (by kernel_rfl) (by kernel_rfl) fun ds cc rr h hc => by
  unfold s81 at h
  split at h
  · rename_i n r m s
    simp only [Option.some.injEq, Prod.mk.injEq] at h
    obtain ⟨rfl, rfl⟩ := h
    refine auto_fit (auto81 n m r s) ?_ ?_
    · unfold sameL
      cases Int.ofNat n != Int.ofNat m <;> cases allUpTo (fun k => same82 (r k) (s k)) n <;> rfl
    · rw [ne_nat]
      by_cases h : n = m
      · subst h
        rw [hc]
        simp
      · simp [h]
  · cases h
noncomputable def env18 : List (Nat × (List A → Option (Bool × A))) := (70, s81) :: env17
theorem env18_ok : EnvOK Try.prog (look env18) := env_cons s81_at env17_ok
noncomputable def cfg18 : Cfg := mkCfg tab [] xts (look env18)
theorem cfg18_ok : CfgOK Try.prog cfg18 := cfg_ok tab_eq (no_fts _) xts_ok env18_ok mixed
noncomputable def env19 : List (Nat × (List A → Option (Bool × A))) := (55, auto cfg18 Try.f55) :: env18
theorem env19_ok : EnvOK Try.prog (look env19) := env_cons (auto_at cfg18_ok Try.func55 (by kernel_rfl) (by kernel_rfl)) env18_ok
noncomputable def cfg19 : Cfg := mkCfg tab [] xts (look env19)
theorem cfg19_ok : CfgOK Try.prog cfg19 := cfg_ok tab_eq (no_fts _) xts_ok env19_ok mixed
noncomputable def env20 : List (Nat × (List A → Option (Bool × A))) := (29, auto cfg19 Try.f29) :: env19
theorem env20_ok : EnvOK Try.prog (look env20) := env_cons (auto_at cfg19_ok Try.func29 (by kernel_rfl) (by kernel_rfl)) env19_ok
noncomputable def cfg20 : Cfg := mkCfg tab [] xts (look env20)
theorem cfg20_ok : CfgOK Try.prog cfg20 := cfg_ok tab_eq (no_fts _) xts_ok env20_ok mixed
end Go.Fw.T1

/-
  Slices written into; circuits copied.
-/
namespace Go.Fw.T1
open Go.Proofs
theorem of_autoS {cfg : Cfg} (hc : CfgOK Try.prog cfg) {f : Nat} {fn : Func} {lp : Nat → Option (St → T)} {sel : Bool} (hlp : LpOK Try.prog lp (bodyOf fn)) (hf : Try.prog.funcs[f]? = some fn) (hb : fn.body.isSome = true) (hn : (fn.name == "runtime.NumGoroutine") = false)
    {s : List A → Option (Bool × A)} (h : ∀ ds c r, s ds = some (c, r) → c = true → ∃ c', autoS cfg lp sel fn ds = some (c', r) ∧ c' = true) : EnvAt Try.prog f s :=
  ⟨⟨fn, hf, hb, hn⟩, fun ds c r hs hct => by
    obtain ⟨c', h1, h2⟩ := h ds c r hs hct
    exact (autoS_at hc hlp hf hb hn).2 ds c' r h1 h2⟩
theorem auto91 (n : Nat) (r : Nat → Nat) : autoS cfg20 (fun _ => none) false Try.f57 [.ro 1 n (.flts .f32 r)] =
    some (decide (0 < n) && (decide (0 + n ≤ 1073741824) && true), A.ro 1 (0 + n) (Row.flts FloatKind.f32 r)) := by kernel_rfl
noncomputable def s91 : List A → Option (Bool × A)
  | [.ro 1 n (.flts .f32 r)] => some (decide (0 < n) && decide (n ≤ 1073741824), .ro 1 n (.flts .f32 r))
  | _ => none
theorem s91_at : EnvAt Try.prog 57 s91 := of_autoS cfg20_ok (lp_none _) Try.func57 (by kernel_rfl) (by kernel_rfl) fun ds cc rr h hc => by
  unfold s91 at h
  split at h
  · rename_i n r
    simp only [Option.some.injEq, Prod.mk.injEq] at h
    obtain ⟨rfl, rfl⟩ := h
    refine auto_fit (auto91 n r) ?_ ?_
    · rw [Nat.zero_add]
    · simpa using hc
  · cases h
noncomputable def env21 : List (Nat × (List A → Option (Bool × A))) := (57, s91) :: env20
theorem env21_ok : EnvOK Try.prog (look env21) := env_cons s91_at env20_ok
noncomputable def cfg21 : Cfg := mkCfg tab [] xts (look env21)
theorem cfg21_ok : CfgOK Try.prog cfg21 := cfg_ok tab_eq (no_fts _) xts_ok env21_ok mixed
theorem auto67 (n gn cn : Nat) (r g c : Nat → Nat) : autoLp cfg21 (fun _ => none) Try.f32 [.agg [.ro 1 n (.flts .f32 r), .ro 1 gn (.flts .f32 g), .ro 1 cn (.flts .f32 c)]] =
    some (decide (0 < gn) && decide (gn ≤ 1073741824) && (decide (0 < n) && decide (n ≤ 1073741824) && true) && (decide (0 < cn) && decide (cn ≤ 1073741824) && true), A.agg [A.ro 1 n (Row.flts FloatKind.f32 r), A.ro 1 gn (Row.flts FloatKind.f32 g), A.ro 1 cn (Row.flts FloatKind.f32 c)]) := by kernel_rfl
noncomputable def s67 : List A → Option (Bool × A)
  | [.agg [.ro 1 n (.flts .f32 r), .ro 1 gn (.flts .f32 g), .ro 1 cn (.flts .f32 c)]] => some (decide (0 < n) && decide (n ≤ 1073741824) && (decide (0 < gn) && decide (gn ≤ 1073741824)) && (decide (0 < cn) && decide (cn ≤ 1073741824)), .agg [.ro 1 n (.flts .f32 r), .ro 1 gn (.flts .f32 g), .ro 1 cn (.flts .f32 c)])
  | _ => none
theorem s67_at : EnvAt Try.prog 32 s67 := of_auto cfg21_ok (lp_none _) Try.func32 (by kernel_rfl) (by kernel_rfl) fun ds cc rr h hc => by
  unfold s67 at h
  split at h
  · rename_i n r gn g cn c
    simp only [Option.some.injEq, Prod.mk.injEq] at h
    obtain ⟨rfl, rfl⟩ := h
    refine auto_fit (auto67 n gn cn r g c) ?_ ?_
    · rfl
    · simp only [Bool.and_eq_true, decide_eq_true_eq] at hc; simp [hc]
  · cases h
/-- 'ifCircuit' is walked in place. -/
noncomputable def fts68 : List (Nat × Func) := [(34, Try.f34)]
theorem fts68_ok (f : Nat) (fn : Func) (h : (f, fn) ∈ fts68) : Try.prog.funcs[f]? = some fn ∧ (fn.name == "runtime.NumGoroutine") = false := by
  simp only [fts68, List.mem_cons, Prod.mk.injEq, List.not_mem_nil, or_false] at h
  obtain ⟨rfl, rfl⟩ := h
  exact ⟨Try.func34, by kernel_rfl⟩
noncomputable def env22 : List (Nat × (List A → Option (Bool × A))) := (32, s67) :: env21
theorem env22_ok : EnvOK Try.prog (look env22) := env_cons s67_at env21_ok
noncomputable def cfg22 : Cfg := mkCfg tab fts68 xts (look env22)
theorem cfg22_ok : CfgOK Try.prog cfg22 := cfg_ok tab_eq fts68_ok xts_ok env22_ok mixed
noncomputable def tuneNo (n gn cn : Nat) (r g c : Nat → Nat) (i : Int) (w : Nat) : Bool := bif loopNo n gn cn r g c i then true else !above w
noncomputable def tuneG (n : Nat) (g c : Nat → Nat) (i : Int) (w : Nat) (j : Nat) : Nat := match decide (j = i.toNat) with
  | true => fop .mul .f32 (fop .mul .f32 w w) (c (ixI n i i))
  | false => g j
noncomputable def tuneOk (n gn cn : Nat) (r g c : Nat → Nat) (i : Int) (w : Nat) : Bool := !tuneNo n gn cn r g c i w && valid n gn cn r (tuneG n g c i w) c
theorem tune_sizes {n gn cn : Nat} {r g c : Nat → Nat} {i : Int} {w : Nat} (h : tuneNo n gn cn r g c i w = false) : ∃ a, i = Int.ofNat a ∧ a < n ∧ 1 ≤ n ∧ n ≤ 6 ∧ gn = n ∧ cn = n * n := by
  unfold tuneNo at h
  cases hl : loopNo n gn cn r g c i
  · obtain ⟨a, h1, h2, h3, h4, h5⟩ := loop_ok hl
    exact ⟨a, h1, h2, by omega, h3, h4, h5⟩
  · rw [hl] at h; cases h
theorem tune_assert {n gn cn : Nat} {r g c : Nat → Nat} {i : Int} {w : Nat} (h : tuneNo n gn cn r g c i w = false) : (decide (0 < n) && decide (n ≤ 1073741824)) = true ∧ (decide (0 < gn) && decide (gn ≤ 1073741824)) = true ∧ (decide (0 < cn) && decide (cn ≤ 1073741824)) = true ∧
    (decide (0 ≤ IntKind.i64.wrap (IntKind.i64.wrap (i * Int.ofNat n) + i)) && decide (IntKind.i64.wrap (IntKind.i64.wrap (i * Int.ofNat n) + i) < Int.ofNat cn)) = true ∧ (decide (0 ≤ i) && decide (i < Int.ofNat gn)) = true := by
  obtain ⟨a, rfl, ha, h1, h2, h3, h4⟩ := tune_sizes h
  have h5 := sq_le h2
  have h6 : 1 * 1 ≤ n * n := Nat.mul_le_mul h1 h1
  rw [wrap_ix ha ha h2, h3, h4]
  refine ⟨?_, ?_, ?_, ?_, ?_⟩
  · simp; omega
  · simp; omega
  · simp only [Bool.and_eq_true, decide_eq_true_eq]; omega
  · rw [dec0, lt_dec (ix_lt ha ha h2)]; rfl
  · rw [dec0, lt_dec ha]; rfl
theorem tuneNo_eq (n gn cn : Nat) (r g c : Nat → Nat) (i : Int) (w : Nat) : (bif !bif valid n gn cn r g c then inn n i else false then true else !above w) = tuneNo n gn cn r g c i w := by
  unfold tuneNo
  rw [← loopNo_eq]
theorem auto31T (n gn cn : Nat) (r g c : Nat → Nat) (i : Int) (w : Nat) : autoS cfg22 (fun _ => none) false Try.f7 [.agg [.ro 1 n (.flts .f32 r), .ro 1 gn (.flts .f32 g), .ro 1 cn (.flts .f32 c)], .int .i64 i, .flt .f32 w] =
    some   ((!bif !bif valid n gn cn r g c then bif decide (i ≥ 0) then decide (i ≤ IntKind.i64.wrap (Int.ofNat n - 1)) else false else false then true else !above w) &&       (decide (0 < n) && decide (n ≤ 1073741824) && (decide (0 < gn) && decide (gn ≤ 1073741824)) && (decide (0 < cn) && decide (cn ≤ 1073741824)) &&         (decide (0 ≤ IntKind.i64.wrap (IntKind.i64.wrap (i * Int.ofNat n) + i)) && decide (IntKind.i64.wrap (IntKind.i64.wrap (i * Int.ofNat n) + i) < Int.ofNat cn) && true && true &&           (decide (0 ≤ i) && decide (i < Int.ofNat gn) &&             (!!valid n gn cn r                     (fun j =>                       match decide (j = i.toNat) with                       | true => fop BinOp.mul FloatKind.f32 (fop BinOp.mul FloatKind.f32 w w) (c (IntKind.i64.wrap (IntKind.i64.wrap (i * Int.ofNat n) + i)).toNat)                       | false => g j)                     c &&               true)))),     A.tup       [A.agg           [A.ro 1 n (Row.flts FloatKind.f32 r),             A.ro 1 gn               (Row.flts FloatKind.f32 fun j =>                 match decide (j = i.toNat) with                 | true => fop BinOp.mul FloatKind.f32 (fop BinOp.mul FloatKind.f32 w w) (c (IntKind.i64.wrap (IntKind.i64.wrap (i * Int.ofNat n) + i)).toNat)                 | false => g j),             A.ro 1 cn (Row.flts FloatKind.f32 c)],         A.bool true]) := by kernel_rfl
noncomputable def s31T : List A → Option (Bool × A)
  | [.agg [.ro 1 n (.flts .f32 r), .ro 1 gn (.flts .f32 g), .ro 1 cn (.flts .f32 c)], .int .i64 i, .flt .f32 w] => some (tuneOk n gn cn r g c i w, .tup [.agg [.ro 1 n (.flts .f32 r), .ro 1 gn (.flts .f32 (tuneG n g c i w)), .ro 1 cn (.flts .f32 c)], .bool true])
  | _ => none
theorem s31T_at : EnvAt Try.prog 7 s31T := of_autoS cfg22_ok (lp_none _) Try.func7 (by kernel_rfl) (by kernel_rfl) fun ds cc rr h hc => by
  unfold s31T at h
  split at h
  · rename_i n r gn g cn c i w
    simp only [Option.some.injEq, Prod.mk.injEq] at h
    obtain ⟨rfl, rfl⟩ := h
    refine auto_fit (auto31T n gn cn r g c i w) ?_ ?_
    · rfl
    · simp only [tuneOk, Bool.and_eq_true, Bool.not_eq_true'] at hc
      obtain ⟨h1, h2, h3, h4, h5⟩ := tune_assert hc.1
      show ((!(bif !bif valid n gn cn r g c then inn n i else false then true else !above w)) && ((decide (0 < n) && decide (n ≤ 1073741824)) && (decide (0 < gn) && decide (gn ≤ 1073741824)) && (decide (0 < cn) && decide (cn ≤ 1073741824)) && ((decide (0 ≤ IntKind.i64.wrap (IntKind.i64.wrap (i * Int.ofNat n) + i)) && decide (IntKind.i64.wrap (IntKind.i64.wrap (i * Int.ofNat n) + i) < Int.ofNat cn)) && true && true && ((decide (0 ≤ i) && decide (i < Int.ofNat gn)) && (!!valid n gn cn r (tuneG n g c i w) c && true))))) = true
      rw [h1, h2, h3, h4, h5, tuneNo_eq, hc.1, hc.2]
      rfl
  · cases h
end Go.Fw.T1

/-
  Slices written into.
-/
namespace Go.Fw.T1
open Go.Proofs
noncomputable def env23 : List (Nat × (List A → Option (Bool × A))) := env22
theorem env23_ok : EnvOK Try.prog (look env23) := env22_ok
noncomputable def env24 : List (Nat × (List A → Option (Bool × A))) := env23
theorem env24_ok : EnvOK Try.prog (look env24) := env23_ok
noncomputable def cfg24 : Cfg := mkCfg tab [] xts (look env24)
theorem cfg24_ok : CfgOK Try.prog cfg24 := cfg_ok tab_eq (no_fts _) xts_ok env24_ok mixed
/-! ### The laws' marks -/
end Go.Fw.T1

/-
  Transformers.
-/
namespace Go.Fw.T1
open Go.Proofs
def trR (s t i : Nat) : Nat := [s, t].getD i 0
def trC (a b k i : Nat) : Nat := [a, fop .mul .f32 k (root32 (fop .mul .f32 a b)), fop .mul .f32 k (root32 (fop .mul .f32 a b)), b].getD i 0
noncomputable def trOk (a b k s t : Nat) : Bool := valid 2 2 4 (trR s t) (trR (can .f32 0) (can .f32 0)) (trC a b k)
theorem auto44T (a b k s t : Nat) : autoS cfg22 (fun _ => none) false Try.f13 [.flt .f32 a, .flt .f32 b, .flt .f32 k, .flt .f32 s, .flt .f32 t] =
    some ((!!valid 2 2 4 (fun i => [s, t].getD i 0) (fun i => [can FloatKind.f32 0, can FloatKind.f32 0].getD i 0) fun i => [a, fop BinOp.mul FloatKind.f32 k (root32 (fop BinOp.mul FloatKind.f32 a b)), fop BinOp.mul FloatKind.f32 k (root32 (fop BinOp.mul FloatKind.f32 a b)), b].getD i 0) && true, A.tup [A.agg [A.ro 1 2 (Row.flts FloatKind.f32 fun i => [s, t].getD i 0), A.ro 1 2 (Row.flts FloatKind.f32 fun i => [can FloatKind.f32 0, can FloatKind.f32 0].getD i 0), A.ro 1 4 (Row.flts FloatKind.f32 fun i => [a, fop BinOp.mul FloatKind.f32 k (root32 (fop BinOp.mul FloatKind.f32 a b)), fop BinOp.mul FloatKind.f32 k (root32 (fop BinOp.mul FloatKind.f32 a b)), b].getD i 0)], A.bool true]) := by kernel_rfl
noncomputable def s44T : List A → Option (Bool × A)
  | [.flt .f32 a, .flt .f32 b, .flt .f32 k, .flt .f32 s, .flt .f32 t] => some (trOk a b k s t, .tup [.agg [.ro 1 2 (.flts .f32 (trR s t)), .ro 1 2 (.flts .f32 (trR (can .f32 0) (can .f32 0))), .ro 1 4 (.flts .f32 (trC a b k))], .bool true])
  | _ => none
theorem s44T_at : EnvAt Try.prog 13 s44T := of_autoS cfg22_ok (lp_none _) Try.func13 (by kernel_rfl) (by kernel_rfl) fun ds cc rr h hc => by
  unfold s44T at h
  split at h
  · rename_i a b k s t
    simp only [Option.some.injEq, Prod.mk.injEq] at h
    obtain ⟨rfl, rfl⟩ := h
    refine auto_fit (auto44T a b k s t) ?_ ?_
    · rfl
    · show (!!trOk a b k s t && true) = true
      simpa using hc
  · cases h
end Go.Fw.T1

/-
  Impedances.
-/
namespace Go.Fw.T1
open Go.Proofs
/-- An impedance's parts, by its place. -/
def zR (n : Nat) (r : Nat → Nat) (p : Nat) : Nat := bif Nat.beq (p / n) (p % n) then r (p / n) else can .f32 0
def zI (n : Nat) (g c : Nat → Nat) (w p : Nat) : Nat := bif Nat.beq (p / n) (p % n) then fop .sub .f32 (fop .mul .f32 w (c p)) (fop .quo .f32 (g (p / n)) w) else fop .mul .f32 w (c p)
def upto (l : Nat) (a b : Nat → Nat) (p : Nat) : Nat := match decide (p < l) with | true => a p | false => b p
theorem upto_app {l k : Nat} {a z : Nat → Nat} {v : Nat} (hv : v = z (l + k)) {p : Nat} (hp : p < l + k + 1) : (match decide (p < l + k) with | true => upto l a z p | false => v) = upto l a z p := by
  by_cases h : p < l + k
  · simp [h]
  · obtain rfl : p = l + k := by omega
    have h2 : ¬ (l + k < l) := by omega
    simp [upto, h2, hv]
theorem cpx_at {k : FloatKind} {f1 f2 g1 g2 : Nat → Nat} {p : Nat} (h1 : f1 p = g1 p) (h2 : f2 p = g2 p) : (Row.cpxs k f1 f2 : Row A).at p = (Row.cpxs k g1 g2 : Row A).at p := by
  simp only [Row.at, h1, h2]
theorem ix_div {i k n : Nat} (hk : k < n) : (i * n + k) / n = i := by
  rw [Nat.mul_comm, Nat.mul_add_div (by omega), Nat.div_eq_of_lt hk, Nat.add_zero]
theorem ix_mod {i k n : Nat} (hk : k < n) : (i * n + k) % n = k := by
  rw [Nat.mul_comm, Nat.mul_add_mod, Nat.mod_eq_of_lt hk]
theorem zR_on {n i : Nat} (r : Nat → Nat) (hi : i < n) : r i = zR n r (i * n + i) := by
  unfold zR; rw [ix_div hi, ix_mod hi, Nat.beq_refl]; rfl
theorem zI_on {n i w : Nat} (g c : Nat → Nat) (hi : i < n) : fop .sub .f32 (fop .mul .f32 w (c (i * n + i))) (fop .quo .f32 (g i) w) = zI n g c w (i * n + i) := by
  unfold zI; rw [ix_div hi, ix_mod hi, Nat.beq_refl]; rfl
theorem beq_ne {i k : Nat} (h : i ≠ k) : Nat.beq i k = false := by
  cases hb : Nat.beq i k
  · rfl
  · exact absurd (Nat.eq_of_beq_eq_true hb) h
theorem zR_off {n i k : Nat} (r : Nat → Nat) (hk : k < n) (h : i ≠ k) : can .f32 0 = zR n r (i * n + k) := by
  unfold zR; rw [ix_div hk, ix_mod hk, beq_ne h]; rfl
theorem zI_off {n i k w : Nat} (g c : Nat → Nat) (hk : k < n) (h : i ≠ k) : fop .mul .f32 w (c (i * n + k)) = zI n g c w (i * n + k) := by
  unfold zI; rw [ix_div hk, ix_mod hk, beq_ne h]; rfl
noncomputable def I72j (n gn cn i w l : Nat) (r g c a b : Nat → Nat) (q q2 : Int) (k : Nat) : List A := [.flt .f32 w, .ptr 0 0, .sl 32 (l + k), .int .i64 (Int.ofNat i), .int .i64 q, .int .i64 q2, .int .i64 (Int.ofNat n), .int .i64 (Int.ofNat k)]
noncomputable def J72j (n gn cn i w l : Nat) (r g c a b : Nat → Nat) (q q2 : Int) (k : Nat) : List O := [.var [.ro 1 n (.flts .f32 r), .ro 1 gn (.flts .f32 g), .ro 1 cn (.flts .f32 c)], .row 33 1 (l + k) (.cpxs .f32 (upto l a (zR n r)) (upto l b (zI n g c w)))]
theorem round72j (n gn cn i w l : Nat) (r g c a b : Nat → Nat) (q q2 : Int) (k : Nat) (L : XK → List A → List (Option O) → Prop) :
    ((exec cfg22 (fun _ => true) (fun _ => none) 0 1000 (loopOf Try.f46 2) (litSt Try.f46.ntmps 208 [1, 2, 5, 6, 11, 12, 16, 17] [0, 32] (I72j n gn cn i w l r g c a b q q2 k) (J72j n gn cn i w l r g c a b q q2 k))).rt [1, 2, 5, 6, 11, 12, 16, 17] [0, 32]).Ok L =
    bif decide (Int.ofNat k < Int.ofNat n) then
      bif decide (0 ≤ IntKind.i64.wrap (IntKind.i64.wrap (Int.ofNat i * Int.ofNat n) + Int.ofNat k)) && decide (IntKind.i64.wrap (IntKind.i64.wrap (Int.ofNat i * Int.ofNat n) + Int.ofNat k) < Int.ofNat cn) && true then
        bif Int.ofNat i == Int.ofNat k then
          bif decide (Int.ofNat i < Int.ofNat gn) && (decide (0 ≤ IntKind.i64.wrap (IntKind.i64.wrap (Int.ofNat i * Int.ofNat n) + Int.ofNat i)) && decide (IntKind.i64.wrap (IntKind.i64.wrap (Int.ofNat i * Int.ofNat n) + Int.ofNat i) < Int.ofNat cn) && true && (decide (Int.ofNat i < Int.ofNat n) && true)) then
            bif decide (l + k + 1 ≤ 1073741824) then
              L (XK.normal) ([A.flt FloatKind.f32 w, A.ptr 0 0, A.sl 32 (l + k + 1), A.int IntKind.i64 (Int.ofNat i), A.int IntKind.i64 q, A.int IntKind.i64 q2, A.int IntKind.i64 (Int.ofNat n), A.int IntKind.i64 (IntKind.i64.wrap (Int.ofNat k + Int.ofNat 1))]) ([some (O.var [A.ro 1 n (Row.flts FloatKind.f32 r), A.ro 1 gn (Row.flts FloatKind.f32 g), A.ro 1 cn (Row.flts FloatKind.f32 c)]),   some     (O.row 33 1 (l + k + 1)       (Row.cpxs FloatKind.f32         (fun j =>           match decide (j < l + k) with           | true => upto l a (zR n r) j           | false => r i)         fun j =>         match decide (j < l + k) with         | true => upto l b (zI n g c w) j         | false => fop BinOp.sub FloatKind.f32 (fop BinOp.mul FloatKind.f32 w (c (IntKind.i64.wrap (IntKind.i64.wrap (Int.ofNat i * Int.ofNat n) + Int.ofNat i)).toNat)) (fop BinOp.quo FloatKind.f32 (g i) w)))])
            else
              False
          else
            False
        else
          bif decide (l + k + 1 ≤ 1073741824) then
            L (XK.normal) ([A.flt FloatKind.f32 w, A.ptr 0 0, A.sl 32 (l + k + 1), A.int IntKind.i64 (Int.ofNat i), A.int IntKind.i64 q, A.int IntKind.i64 q2, A.int IntKind.i64 (Int.ofNat n), A.int IntKind.i64 (IntKind.i64.wrap (Int.ofNat k + Int.ofNat 1))]) ([some (O.var [A.ro 1 n (Row.flts FloatKind.f32 r), A.ro 1 gn (Row.flts FloatKind.f32 g), A.ro 1 cn (Row.flts FloatKind.f32 c)]),   some     (O.row 33 1 (l + k + 1)       (Row.cpxs FloatKind.f32         (fun j =>           match decide (j < l + k) with           | true => upto l a (zR n r) j           | false => can FloatKind.f32 0)         fun j =>         match decide (j < l + k) with         | true => upto l b (zI n g c w) j         | false => fop BinOp.mul FloatKind.f32 w (c (IntKind.i64.wrap (IntKind.i64.wrap (Int.ofNat i * Int.ofNat n) + Int.ofNat k)).toNat)))])
          else
            False
      else
        False
    else
      L (XK.exit 2) ([A.flt FloatKind.f32 w, A.ptr 0 0, A.sl 32 (l + k), A.int IntKind.i64 (Int.ofNat i), A.int IntKind.i64 q, A.int IntKind.i64 q2, A.int IntKind.i64 (Int.ofNat n), A.int IntKind.i64 (Int.ofNat k)]) ([some (O.var [A.ro 1 n (Row.flts FloatKind.f32 r), A.ro 1 gn (Row.flts FloatKind.f32 g), A.ro 1 cn (Row.flts FloatKind.f32 c)]), some (O.row 33 1 (l + k) (Row.cpxs FloatKind.f32 (fun p => upto l a (zR n r) p) fun p => upto l b (zI n g c w) p))]) := by kernel_rfl
noncomputable def F72j : List A → List (Option O) → Option R3
  | [.flt .f32 w, .ptr 0 0, .sl 32 l, .int .i64 (.ofNat i), .int .i64 q, .int .i64 q2, .int .i64 m, .int .i64 0], [some (.var [.ro 1 n (.flts .f32 r), .ro 1 gn (.flts .f32 g), .ro 1 cn (.flts .f32 c)]), some (.row 33 1 l2 (.cpxs .f32 a b))] => some (.ite (decide (m = Int.ofNat n) && Nat.beq l2 l && Nat.beq l (i * n) && Nat.blt i n && Nat.ble n 6 && Nat.beq cn (n * n) && Nat.beq gn n) (.leaf .normal (I72j n gn cn i w l r g c a b q q2 (n)) (J72j n gn cn i w l r g c a b q q2 (n))) .fail)
  | _, _ => none
theorem loop72j : CodeOK Try.prog (fun _ σ => sumAt Try.f46.ntmps 208 [1, 2, 5, 6, 11, 12, 16, 17] [0, 32] F72j σ) (.block 2 (.loop (loopOf Try.f46 2))) := by
  refine block_ok (own := fun _ => true) (lp := (fun _ => none)) (un := 0) (fuel := 1000) cfg22_ok (lp_none _) fun az os R hF hok => ?_
  unfold F72j at hF
  split at hF
  · rename_i w l i q q2 m n r gn g cn c l2 a b
    injection hF with hF
    subst hF
    have hg := hok.guard
    have hg' := hg
    simp only [Bool.and_eq_true, Nat.ble_eq, Nat.beq_eq, decide_eq_true_eq] at hg'
    obtain ⟨⟨⟨⟨⟨⟨rfl, hl2⟩, hl⟩, hi⟩, hn⟩, hcn⟩, hgn⟩ := hg'
    have hi := blt_lt' hi
    refine for_fact (fun _ => true) (n) (I72j n gn cn i w l r g c a b q q2) (J72j n gn cn i w l r g c a b q q2) _ .ret (I72j n gn cn i w l r g c a b q q2) (I72j n gn cn i w l r g c a b q q2) (I72j n gn cn i w l r g c a b q q2 (n)) (J72j n gn cn i w l r g c a b q q2 (n)) rfl (by unfold J72j; exact ⟨rfl, ⟨33, _, by rw [hl2]; rfl, .inr rfl, fun p hp => cpx_at (by simp [upto, show p < l from hp]) (by simp [upto, show p < l from hp])⟩, trivial⟩) (fun _ => rfl) (fun _ => rfl) (fun _ => ALe.self _) (fun _ => rfl) (ALe.self _) (OSims.self (J72j n gn cn i w l r g c a b q q2 (n))) rfl (fun h => by cases h) (fun k hk L h1 h2 h3 => ?_) fun L hL => ?_
    · rw [round72j]
      by_cases hkm : k < n
      · refine condT (lt_dec hkm) ?_
        have hx := ix_lt hi hkm hn
        have hx2 := sq_le hn
        rw [wrap_ix hi hkm hn, wrap_succ (by omega)]
        refine condT (by rw [hcn, dec0, lt_dec hx]; rfl) ?_
        by_cases hik : i = k
        · subst hik
          rw [wrap_ix hi hi hn]
          refine condT (by simp) ?_
          refine condT (by rw [hgn, hcn, lt_dec hi, dec0, lt_dec hx]; rfl) ?_
          refine condT (decide_eq_true (by omega)) ?_
          exact h1 hkm rfl _ ⟨rfl, ⟨33, _, rfl, .inr rfl, fun p hp => cpx_at (upto_app (by rw [hl]; exact zR_on r hi) hp) (upto_app (by rw [hl]; exact zI_on g c hi) hp)⟩, trivial⟩
        · refine condE (by simp; omega) ?_
          refine condT (decide_eq_true (by omega)) ?_
          exact h1 hkm rfl _ ⟨rfl, ⟨33, _, rfl, .inr rfl, fun p hp => cpx_at (upto_app (by rw [hl]; exact zR_off r hkm hik) hp) (upto_app (by rw [hl]; exact zI_off g c hkm hik) hp)⟩, trivial⟩
      · refine condE (ge_dec (by omega)) ?_
        obtain rfl : k = n := by omega
        exact h3 rfl
    · exact ⟨fun _ => hL.1 hg, fun N _ h => by cases h⟩
  · cases hF
end Go.Fw.T1

/-
  The outer loops of impedances.
-/
namespace Go.Fw.T1
open Go.Proofs
theorem upto_self (l : Nat) (a : Nat → Nat) (p : Nat) : upto l a a p = a p := by
  unfold upto; split <;> rfl
noncomputable def lpi72i : List (Nat × (St → T)) := [(2, sumAt Try.f46.ntmps 208 [1, 2, 5, 6, 11, 12, 16, 17] [0, 32] F72j)]
theorem lpi72i_ok : LpOK Try.prog (look lpi72i) (loopOf Try.f46 0) := lp_in (lp_loops (by kernel_rfl) (by kernel_rfl) fun p hp => by
  simp only [lpi72i, List.mem_cons, List.not_mem_nil, or_false] at hp
  rcases hp with rfl
  · exact loop72j) _
noncomputable def I72i (n gn cn w : Nat) (r g c : Nat → Nat) (k : Nat) : List A := [.flt .f32 w, .ptr 0 0, .sl 32 (n * k), .int .i64 (Int.ofNat n), .int .i64 (Int.ofNat k)]
noncomputable def J72i (n gn cn w : Nat) (r g c : Nat → Nat) (k : Nat) : List O := [.var [.ro 1 n (.flts .f32 r), .ro 1 gn (.flts .f32 g), .ro 1 cn (.flts .f32 c)], .row 33 1 (n * k) (.cpxs .f32 (zR n r) (zI n g c w))]
theorem round72i (n gn cn w : Nat) (r g c : Nat → Nat) (k : Nat) (L : XK → List A → List (Option O) → Prop) :
    ((exec cfg22 (fun _ => true) (look lpi72i) 0 1000 (loopOf Try.f46 0) (litSt Try.f46.ntmps 112 [1, 2, 5, 11, 12] [0, 32] (I72i n gn cn w r g c k) (J72i n gn cn w r g c k))).rt [1, 2, 5, 11, 12] [0, 32]).Ok L =
    bif decide (Int.ofNat k < Int.ofNat n) then
      bif decide (Int.ofNat n = Int.ofNat n) && (n * k).beq (n * k) && (n * k).beq (k * n) && k.blt n && n.ble 6 && cn.beq (n * n) && gn.beq n then
        L (XK.normal) ([A.flt FloatKind.f32 w, A.ptr 0 0, A.sl 32 (n * k + n), A.int IntKind.i64 (Int.ofNat n), A.int IntKind.i64 (IntKind.i64.wrap (Int.ofNat k + Int.ofNat 1))]) ([some (O.var [A.ro 1 n (Row.flts FloatKind.f32 r), A.ro 1 gn (Row.flts FloatKind.f32 g), A.ro 1 cn (Row.flts FloatKind.f32 c)]), some (O.row 33 1 (n * k + n) (Row.cpxs FloatKind.f32 (fun p => upto (n * k) (zR n r) (zR n r) p) fun p => upto (n * k) (zI n g c w) (zI n g c w) p))])
      else
        False
    else
      L (XK.exit 0) ([A.flt FloatKind.f32 w, A.ptr 0 0, A.sl 32 (n * k), A.int IntKind.i64 (Int.ofNat n), A.int IntKind.i64 (Int.ofNat k)]) ([some (O.var [A.ro 1 n (Row.flts FloatKind.f32 r), A.ro 1 gn (Row.flts FloatKind.f32 g), A.ro 1 cn (Row.flts FloatKind.f32 c)]), some (O.row 33 1 (n * k) (Row.cpxs FloatKind.f32 (fun p => zR n r p) fun p => zI n g c w p))]) := by kernel_rfl
noncomputable def F72i : List A → List (Option O) → Option R3
  | [.flt .f32 w, .ptr 0 0, .sl 32 0, .int .i64 m, .int .i64 0], [some (.var [.ro 1 n (.flts .f32 r), .ro 1 gn (.flts .f32 g), .ro 1 cn (.flts .f32 c)]), some (.row 33 1 0 gg)] => some (.ite (decide (m = Int.ofNat n) && Nat.ble n 6 && Nat.beq cn (n * n) && Nat.beq gn n) (.leaf .normal (I72i n gn cn w r g c (n)) (J72i n gn cn w r g c (n))) .fail)
  | _, _ => none
theorem loop72i : CodeOK Try.prog (fun _ σ => sumAt Try.f46.ntmps 112 [1, 2, 5, 11, 12] [0, 32] F72i σ) (.block 0 (.loop (loopOf Try.f46 0))) := by
  refine block_ok (own := fun _ => true) (lp := (look lpi72i)) (un := 0) (fuel := 1000) cfg22_ok lpi72i_ok fun az os R hF hok => ?_
  unfold F72i at hF
  split at hF
  · rename_i w m n r gn g cn c gg
    injection hF with hF
    subst hF
    have hg := hok.guard
    have hg' := hg
    simp only [Bool.and_eq_true, Nat.ble_eq, Nat.beq_eq, decide_eq_true_eq] at hg'
    obtain ⟨⟨⟨rfl, hn⟩, hcn⟩, hgn⟩ := hg'
    refine for_fact (fun _ => true) (n) (I72i n gn cn w r g c) (J72i n gn cn w r g c) _ .ret (I72i n gn cn w r g c) (I72i n gn cn w r g c) (I72i n gn cn w r g c (n)) (J72i n gn cn w r g c (n)) rfl (by unfold J72i; exact ⟨rfl, ⟨33, _, rfl, .inr rfl, fun p hp => absurd hp (by omega)⟩, trivial⟩) (fun _ => rfl) (fun _ => rfl) (fun _ => ALe.self _) (fun _ => rfl) (ALe.self _) (OSims.self (J72i n gn cn w r g c (n))) rfl (fun h => by cases h) (fun k hk L h1 h2 h3 => ?_) fun L hL => ?_
    · rw [round72i]
      by_cases hkm : k < n
      · refine condT (lt_dec hkm) ?_
        have hx2 := sq_le hn
        have hkn : n * k = k * n := Nat.mul_comm n k
        have hb : Nat.blt k n = true := by simp [Nat.blt_eq, hkm]
        have hn6 : Nat.ble n 6 = true := by simp [Nat.ble_eq, hn]
        rw [wrap_succ (by omega)]
        refine condT (by rw [hcn, hgn, hb, hn6, hkn]; simp) ?_
        exact h1 hkm rfl _ ⟨rfl, ⟨33, _, rfl, .inr rfl, fun p hp => cpx_at (upto_self _ _ _) (upto_self _ _ _)⟩, trivial⟩
      · refine condE (ge_dec (by omega)) ?_
        obtain rfl : k = n := by omega
        exact h3 rfl
    · exact ⟨fun _ => hL.1 hg, fun N _ h => by cases h⟩
  · cases hF
end Go.Fw.T1

/-
  Impedances' contracts.
-/
namespace Go.Fw.T1
open Go.Proofs
noncomputable def lp72 : List (Nat × (St → T)) := [(0, sumAt Try.f46.ntmps 112 [1, 2, 5, 11, 12] [0, 32] F72i)]
theorem lp72_ok : LpOK Try.prog (look lp72) (bodyOf Try.f46) := lp_loops (by kernel_rfl) (by kernel_rfl) fun p hp => by
  simp only [lp72, List.mem_cons, List.not_mem_nil, or_false] at hp
  rcases hp with rfl
  · exact loop72i
theorem auto72 (n gn cn w : Nat) (r g c : Nat → Nat) : autoLp cfg22 (look lp72) Try.f46 [.agg [.ro 1 n (.flts .f32 r), .ro 1 gn (.flts .f32 g), .ro 1 cn (.flts .f32 c)], .flt .f32 w] =
    some (decide (Int.ofNat n = Int.ofNat n) && n.ble 6 && cn.beq (n * n) && gn.beq n && true, A.ro 1 (n * n) (Row.cpxs FloatKind.f32 (fun p => zR n r p) fun p => zI n g c w p)) := by kernel_rfl
noncomputable def s72 : List A → Option (Bool × A)
  | [.agg [.ro 1 n (.flts .f32 r), .ro 1 gn (.flts .f32 g), .ro 1 cn (.flts .f32 c)], .flt .f32 w] => some (Nat.ble n 6 && Nat.beq cn (n * n) && Nat.beq gn n, .ro 1 (n * n) (.cpxs .f32 (zR n r) (zI n g c w)))
  | _ => none
theorem s72_at : EnvAt Try.prog 46 s72 := of_auto cfg22_ok lp72_ok Try.func46 (by kernel_rfl) (by kernel_rfl) fun ds cc rr h hc => by
  unfold s72 at h
  split at h
  · rename_i n r gn g cn c w
    simp only [Option.some.injEq, Prod.mk.injEq] at h
    obtain ⟨rfl, rfl⟩ := h
    refine auto_fit (auto72 n gn cn w r g c) ?_ ?_
    · rfl
    · simpa using hc
  · cases h
noncomputable def env25 : List (Nat × (List A → Option (Bool × A))) := (46, s72) :: env22
theorem env25_ok : EnvOK Try.prog (look env25) := env_cons s72_at env22_ok
noncomputable def cfg25 : Cfg := mkCfg tab [] xts (look env25)
theorem cfg25_ok : CfgOK Try.prog cfg25 := cfg_ok tab_eq (no_fts _) xts_ok env25_ok mixed
noncomputable def impOk (n gn cn : Nat) (r g c : Nat → Nat) (w : Nat) : Bool := valid n gn cn r g c && above w
theorem auto35T (n gn cn w : Nat) (r g c : Nat → Nat) : autoS cfg25 (fun _ => none) false Try.f20 [.agg [.ro 1 n (.flts .f32 r), .ro 1 gn (.flts .f32 g), .ro 1 cn (.flts .f32 c)], .flt .f32 w] =
    some ((!bif !valid n gn cn r g c then true else !above w) && (n.ble 6 && cn.beq (n * n) && gn.beq n && true), A.tup [A.ro 1 (n * n) (Row.cpxs FloatKind.f32 (fun p => zR n r p) fun p => zI n g c w p), A.bool true]) := by kernel_rfl
noncomputable def s35T : List A → Option (Bool × A)
  | [.agg [.ro 1 n (.flts .f32 r), .ro 1 gn (.flts .f32 g), .ro 1 cn (.flts .f32 c)], .flt .f32 w] => some (impOk n gn cn r g c w, .tup [.ro 1 (n * n) (.cpxs .f32 (zR n r) (zI n g c w)), .bool true])
  | _ => none
theorem s35T_at : EnvAt Try.prog 20 s35T := of_autoS cfg25_ok (lp_none _) Try.func20 (by kernel_rfl) (by kernel_rfl) fun ds cc rr h hc => by
  unfold s35T at h
  split at h
  · rename_i n r gn g cn c w
    simp only [Option.some.injEq, Prod.mk.injEq] at h
    obtain ⟨rfl, rfl⟩ := h
    refine auto_fit (auto35T n gn cn w r g c) ?_ ?_
    · rfl
    · simp only [impOk, Bool.and_eq_true] at hc
      obtain ⟨_, h2, h3, h4⟩ := valid_sizes hc.1
      rw [hc.1, hc.2, h3, h4]
      simp [h2]
  · cases h
end Go.Fw.T1

/-
  Complex numbers compared.
-/
namespace Go.Fw.T1
open Go.Proofs
end Go.Fw.T1

/-
  The law of impedances.
-/
namespace Go.Fw.T1
open Go.Proofs
end Go.Fw.T1

/-
  The law of impedances, closed.
-/
namespace Go.Fw.T1
open Go.Proofs
end Go.Fw.T1

/-
  Tables whose zero circuit's slices are nil.
-/
namespace Go.Fw.T1
open Go.Proofs
end Go.Fw.T1

/-
  A loop dropped: the reference's rows.
-/
namespace Go.Fw.T1
open Go.Proofs
/-- How many of the first k places are left without place a; which one place p then is. -/
def dn (a k : Nat) : Nat := match Nat.blt a k with | true => k - 1 | false => k
def up (a p : Nat) : Nat := match Nat.blt p a with | true => p | false => p + 1
/-- Row k without place a. -/
def cut (a n : Nat) (c : Nat → Nat) (k p : Nat) : Nat := c (k * n + up a p)
end Go.Fw.T1

/-
  A loop dropped: the program's rows.
-/
namespace Go.Fw.T1
open Go.Proofs
end Go.Fw.T1

/-
  A loop dropped: the outer loops.
-/
namespace Go.Fw.T1
open Go.Proofs
end Go.Fw.T1

/-
  A loop dropped: contracts.
-/
namespace Go.Fw.T1
open Go.Proofs
end Go.Fw.T1

/-
  The law of a loop dropped.
-/
namespace Go.Fw.T1
open Go.Proofs
end Go.Fw.T1

/-
  Slices joined: a contract.
-/
namespace Go.Fw.T1
open Go.Proofs
def two (n m : Nat) (x y : Nat → Nat) : Row A := .gen fun i => match i with | 0 => .ro 1 n (.flts .f32 x) | _ => .ro 1 m (.flts .f32 y)
end Go.Fw.T1

/-
  Circuits joined: tables.
-/
namespace Go.Fw.T1
open Go.Proofs
end Go.Fw.T1

/-
  Circuits joined: the program's rows.
-/
namespace Go.Fw.T1
open Go.Proofs
end Go.Fw.T1

/-
  Circuits joined: the program's loops.
-/
namespace Go.Fw.T1
open Go.Proofs
end Go.Fw.T1

/-
  Circuits joined: the program.
-/
namespace Go.Fw.T1
open Go.Proofs
end Go.Fw.T1

/-
  Circuits joined: the reference's tables.
-/
namespace Go.Fw.T1
open Go.Proofs
end Go.Fw.T1

/-
  Circuits joined: the reference's first loops.
-/
namespace Go.Fw.T1
open Go.Proofs
end Go.Fw.T1

/-
  Circuits joined: the reference's last loops.
-/
namespace Go.Fw.T1
open Go.Proofs
end Go.Fw.T1

/-
  Circuits joined: the reference.
-/
namespace Go.Fw.T1
open Go.Proofs
end Go.Fw.T1

/-
  Circuits joined: the law's tables.
-/
namespace Go.Fw.T1
open Go.Proofs
end Go.Fw.T1

/-
  Circuits joined: the law's walks.
-/
namespace Go.Fw.T1
open Go.Proofs
end Go.Fw.T1

/-
  Circuits joined: the law.
-/
namespace Go.Fw.T1
open Go.Proofs
end Go.Fw.T1

/-
  Complex numbers: products, quotients, sizes; slices of complex numbers copied; what the laws of circuits compare with.
-/
namespace Go.Fw.T1
open Go.Proofs
def wd (x : Nat) : Nat := fcvt .f32 .f64 x
def nr (x : Nat) : Nat := fcvt .f64 .f32 x
def nrOk (x : Nat) : Bool := fcvtOk .f64 .f32 x
def tmR64 (a b c d : Nat) : Nat := fop .sub .f64 (fop .mul .f64 a c) (fop .mul .f64 b d)
def tmI64 (a b c d : Nat) : Nat := fop .add .f64 (fop .mul .f64 a d) (fop .mul .f64 b c)
/-- A product. -/
def tmR (a b c d : Nat) : Nat := nr (tmR64 (wd a) (wd b) (wd c) (wd d))
def tmI (a b c d : Nat) : Nat := nr (tmI64 (wd a) (wd b) (wd c) (wd d))
def tmOk (a b c d : Nat) : Bool := nrOk (tmR64 (wd a) (wd b) (wd c) (wd d)) && nrOk (tmI64 (wd a) (wd b) (wd c) (wd d))
def pw64 (c d : Nat) : Nat := fop .add .f64 (fop .mul .f64 (wd c) (wd c)) (fop .mul .f64 (wd d) (wd d))
/-- A quotient. -/
def ovR64 (a b c d : Nat) : Nat := fop .quo .f64 (tmR64 (wd a) (wd b) (wd c) (fneg .f64 (wd d))) (pw64 c d)
def ovI64 (a b c d : Nat) : Nat := fop .quo .f64 (tmI64 (wd a) (wd b) (wd c) (fneg .f64 (wd d))) (pw64 c d)
def ovR (a b c d : Nat) : Nat := nr (ovR64 a b c d)
def ovI (a b c d : Nat) : Nat := nr (ovI64 a b c d)
def ovOk (a b c d : Nat) : Bool := nrOk (ovR64 a b c d) && nrOk (ovI64 a b c d)
def pw (c d : Nat) : Nat := nr (pw64 c d)
def pwOk (c d : Nat) : Bool := nrOk (pw64 c d)
def sz (c d : Nat) : Nat := nr (fsqrt (pw64 c d))
def szOk (c d : Nat) : Bool := nrOk (fsqrt (pw64 c d))
/-- How far two numbers are apart. -/
def gap (a b : Nat) : Nat := bif forder .f64 a b == some .lt then fop .sub .f64 b a else fop .sub .f64 a b
def off (a b c d : Nat) : Nat := fmax .f64 (gap (wd a) (wd c)) (gap (wd b) (wd d))
noncomputable def sClone : List A → Option (Bool × A)
  | [.ro 1 n (.cpxs .f32 x y)] => some (decide (0 < n) && decide (n ≤ 1073741824), .ro 1 n (.cpxs .f32 x y))
  | _ => none
theorem autoClone (n : Nat) (x y : Nat → Nat) : autoS cfg24 (fun _ => none) false Try.f64 [.ro 1 n (.cpxs .f32 x y)] =
    some (decide (0 < n) && (decide (0 + n ≤ 1073741824) && true), A.ro 1 (0 + n) (Row.cpxs FloatKind.f32 x y)) := by kernel_rfl
theorem sClone_at : EnvAt Try.prog 64 sClone := of_autoS cfg24_ok (lp_none _) Try.func64 (by kernel_rfl) (by kernel_rfl) fun ds cc rr h hc => by
  unfold sClone at h
  split at h
  · rename_i n x y
    simp only [Option.some.injEq, Prod.mk.injEq] at h
    obtain ⟨rfl, rfl⟩ := h
    refine auto_fit (autoClone n x y) ?_ ?_
    · rw [Nat.zero_add]
    · simpa using hc
  · cases h
noncomputable def sPlus : List A → Option (Bool × A)
  | [.cpx .f32 a b, .cpx .f32 c d] => some (true, .cpx .f32 (fop .add .f32 a c) (fop .add .f32 b d))
  | _ => none
theorem sPlus_at : EnvAt Try.prog 39 sPlus := of_auto cfg24_ok (lp_none _) Try.func39 (by kernel_rfl) (by kernel_rfl) fun ds cc rr h hc => by
  unfold sPlus at h
  split at h
  · rename_i a b c d
    simp only [Option.some.injEq, Prod.mk.injEq] at h
    obtain ⟨rfl, rfl⟩ := h
    exact ⟨true, by kernel_rfl, rfl⟩
  · cases h
noncomputable def sMinus : List A → Option (Bool × A)
  | [.cpx .f32 a b, .cpx .f32 c d] => some (true, .cpx .f32 (fop .sub .f32 a c) (fop .sub .f32 b d))
  | _ => none
theorem sMinus_at : EnvAt Try.prog 65 sMinus := of_auto cfg24_ok (lp_none _) Try.func65 (by kernel_rfl) (by kernel_rfl) fun ds cc rr h hc => by
  unfold sMinus at h
  split at h
  · rename_i a b c d
    simp only [Option.some.injEq, Prod.mk.injEq] at h
    obtain ⟨rfl, rfl⟩ := h
    exact ⟨true, by kernel_rfl, rfl⟩
  · cases h
noncomputable def sGap : List A → Option (Bool × A)
  | [.flt .f64 a, .flt .f64 b] => some (true, .flt .f64 (gap a b))
  | _ => none
theorem autoGap (a b : Nat) : autoLp cfg24 (fun _ => none) Try.f11 [.flt .f64 a, .flt .f64 b] =
    some (bif forder FloatKind.f64 a b == some Ordering.lt then true else true, A.flt FloatKind.f64 (bif forder FloatKind.f64 a b == some Ordering.lt then fop BinOp.sub FloatKind.f64 b a else fop BinOp.sub FloatKind.f64 a b)) := by kernel_rfl
theorem sGap_at : EnvAt Try.prog 11 sGap := of_auto cfg24_ok (lp_none _) Try.func11 (by kernel_rfl) (by kernel_rfl) fun ds cc rr h hc => by
  unfold sGap at h
  split at h
  · rename_i a b
    simp only [Option.some.injEq, Prod.mk.injEq] at h
    obtain ⟨rfl, rfl⟩ := h
    refine auto_fit (autoGap a b) rfl ?_
    cases forder FloatKind.f64 a b == some Ordering.lt <;> rfl
  · cases h
noncomputable def envA1 : List (Nat × (List A → Option (Bool × A))) := (58, auto cfg24 Try.f58) :: (64, sClone) :: (48, auto cfg24 Try.f48) :: (39, sPlus) :: (65, sMinus) :: (61, auto cfg24 Try.f61) :: (11, sGap) :: (5, auto cfg24 Try.f5) :: (31, sAbove) :: (26, s21) :: env24
theorem envA1_ok : EnvOK Try.prog (look envA1) := env_cons (auto_at cfg24_ok Try.func58 (by kernel_rfl) (by kernel_rfl)) (env_cons sClone_at (env_cons (auto_at cfg24_ok Try.func48 (by kernel_rfl) (by kernel_rfl)) (env_cons sPlus_at (env_cons sMinus_at (env_cons (auto_at cfg24_ok Try.func61 (by kernel_rfl) (by kernel_rfl)) (env_cons sGap_at (env_cons (auto_at cfg24_ok Try.func5 (by kernel_rfl) (by kernel_rfl)) (env_cons s66_at (env_cons s21_at env24_ok)))))))))
noncomputable def cfgA1 : Cfg := mkCfg tab [] xts (look envA1)
theorem cfgA1_ok : CfgOK Try.prog cfgA1 := cfg_ok tab_eq (no_fts _) xts_ok envA1_ok mixed
noncomputable def sTm : List A → Option (Bool × A)
  | [.cpx .f32 a b, .cpx .f32 c d] => some (tmOk a b c d, .cpx .f32 (tmR a b c d) (tmI a b c d))
  | _ => none
noncomputable def sP64 : List A → Option (Bool × A)
  | [.cpx .f32 c d] => some (true, .flt .f64 (pw64 c d))
  | _ => none
theorem autoTm (a b c d : Nat) : autoLp cfgA1 (fun _ => none) Try.f49 [.cpx .f32 a b, .cpx .f32 c d] = some (nrOk (tmR64 (wd a) (wd b) (wd c) (wd d)) && (nrOk (tmI64 (wd a) (wd b) (wd c) (wd d)) && true), .cpx .f32 (tmR a b c d) (tmI a b c d)) := by kernel_rfl
theorem sTm_at : EnvAt Try.prog 49 sTm := of_auto cfgA1_ok (lp_none _) Try.func49 (by kernel_rfl) (by kernel_rfl) fun ds cc rr h hc => by
  unfold sTm at h
  split at h
  · rename_i a b c d
    simp only [Option.some.injEq, Prod.mk.injEq] at h
    obtain ⟨rfl, rfl⟩ := h
    refine auto_fit (autoTm a b c d) rfl ?_
    unfold tmOk at hc
    rw [Bool.and_true]; exact hc
  · cases h
theorem sP64_at : EnvAt Try.prog 59 sP64 := of_auto cfgA1_ok (lp_none _) Try.func59 (by kernel_rfl) (by kernel_rfl) fun ds cc rr h hc => by
  unfold sP64 at h
  split at h
  · rename_i c d
    simp only [Option.some.injEq, Prod.mk.injEq] at h
    obtain ⟨rfl, rfl⟩ := h
    exact ⟨true, by kernel_rfl, rfl⟩
  · cases h
theorem sP64b_at : EnvAt Try.prog 62 sP64 := of_auto cfgA1_ok (lp_none _) Try.func62 (by kernel_rfl) (by kernel_rfl) fun ds cc rr h hc => by
  unfold sP64 at h
  split at h
  · rename_i c d
    simp only [Option.some.injEq, Prod.mk.injEq] at h
    obtain ⟨rfl, rfl⟩ := h
    exact ⟨true, by kernel_rfl, rfl⟩
  · cases h
noncomputable def envA2 : List (Nat × (List A → Option (Bool × A))) := (49, sTm) :: (59, sP64) :: (62, sP64) :: envA1
theorem envA2_ok : EnvOK Try.prog (look envA2) := env_cons sTm_at (env_cons sP64_at (env_cons sP64b_at envA1_ok))
noncomputable def cfgA2 : Cfg := mkCfg tab [] xts (look envA2)
theorem cfgA2_ok : CfgOK Try.prog cfgA2 := cfg_ok tab_eq (no_fts _) xts_ok envA2_ok mixed
noncomputable def sOv : List A → Option (Bool × A)
  | [.cpx .f32 a b, .cpx .f32 c d] => some (ovOk a b c d, .cpx .f32 (ovR a b c d) (ovI a b c d))
  | _ => none
theorem autoOv (a b c d : Nat) : autoLp cfgA2 (fun _ => none) Try.f37 [.cpx .f32 a b, .cpx .f32 c d] = some (nrOk (ovR64 a b c d) && (nrOk (ovI64 a b c d) && true), .cpx .f32 (ovR a b c d) (ovI a b c d)) := by kernel_rfl
theorem sOv_at : EnvAt Try.prog 37 sOv := of_auto cfgA2_ok (lp_none _) Try.func37 (by kernel_rfl) (by kernel_rfl) fun ds cc rr h hc => by
  unfold sOv at h
  split at h
  · rename_i a b c d
    simp only [Option.some.injEq, Prod.mk.injEq] at h
    obtain ⟨rfl, rfl⟩ := h
    refine auto_fit (autoOv a b c d) rfl ?_
    unfold ovOk at hc
    rw [Bool.and_true]; exact hc
  · cases h
noncomputable def sPw : List A → Option (Bool × A)
  | [.cpx .f32 c d] => some (pwOk c d, .flt .f32 (pw c d))
  | _ => none
theorem autoPw (c d : Nat) : autoLp cfgA2 (fun _ => none) Try.f50 [.cpx .f32 c d] = some (pwOk c d && true, .flt .f32 (pw c d)) := by kernel_rfl
theorem sPw_at : EnvAt Try.prog 50 sPw := of_auto cfgA2_ok (lp_none _) Try.func50 (by kernel_rfl) (by kernel_rfl) fun ds cc rr h hc => by
  unfold sPw at h
  split at h
  · rename_i c d
    simp only [Option.some.injEq, Prod.mk.injEq] at h
    obtain ⟨rfl, rfl⟩ := h
    refine auto_fit (autoPw c d) rfl ?_
    rw [Bool.and_true]; exact hc
  · cases h
noncomputable def sSz : List A → Option (Bool × A)
  | [.cpx .f32 c d] => some (szOk c d, .flt .f32 (sz c d))
  | _ => none
theorem autoSz (c d : Nat) : autoLp cfgA2 (fun _ => none) Try.f41 [.cpx .f32 c d] = some (szOk c d && true, .flt .f32 (sz c d)) := by kernel_rfl
theorem sSz_at : EnvAt Try.prog 41 sSz := of_auto cfgA2_ok (lp_none _) Try.func41 (by kernel_rfl) (by kernel_rfl) fun ds cc rr h hc => by
  unfold sSz at h
  split at h
  · rename_i c d
    simp only [Option.some.injEq, Prod.mk.injEq] at h
    obtain ⟨rfl, rfl⟩ := h
    refine auto_fit (autoSz c d) rfl ?_
    rw [Bool.and_true]; exact hc
  · cases h
theorem autoSzb (c d : Nat) : autoLp cfgA2 (fun _ => none) Try.f42 [.cpx .f32 c d] = some (szOk c d && true && true, .flt .f32 (sz c d)) := by kernel_rfl
theorem sSzb_at : EnvAt Try.prog 42 sSz := of_auto cfgA2_ok (lp_none _) Try.func42 (by kernel_rfl) (by kernel_rfl) fun ds cc rr h hc => by
  unfold sSz at h
  split at h
  · rename_i c d
    simp only [Option.some.injEq, Prod.mk.injEq] at h
    obtain ⟨rfl, rfl⟩ := h
    refine auto_fit (autoSzb c d) rfl ?_
    rw [Bool.and_true, Bool.and_true]; exact hc
  · cases h
noncomputable def sOff : List A → Option (Bool × A)
  | [.cpx .f32 a b, .cpx .f32 c d] => some (true, .flt .f64 (off a b c d))
  | _ => none
theorem sOff_at : EnvAt Try.prog 12 sOff := of_auto cfgA2_ok (lp_none _) Try.func12 (by kernel_rfl) (by kernel_rfl) fun ds cc rr h hc => by
  unfold sOff at h
  split at h
  · rename_i a b c d
    simp only [Option.some.injEq, Prod.mk.injEq] at h
    obtain ⟨rfl, rfl⟩ := h
    exact ⟨true, by kernel_rfl, rfl⟩
  · cases h
noncomputable def envA3 : List (Nat × (List A → Option (Bool × A))) := (37, sOv) :: (50, sPw) :: (41, sSz) :: (42, sSz) :: (12, sOff) :: envA2
theorem envA3_ok : EnvOK Try.prog (look envA3) := env_cons sOv_at (env_cons sPw_at (env_cons sSz_at (env_cons sSzb_at (env_cons sOff_at envA2_ok))))
noncomputable def cfgA3 : Cfg := mkCfg tab [] xts (look envA3)
theorem cfgA3_ok : CfgOK Try.prog cfgA3 := cfg_ok tab_eq (no_fts _) xts_ok envA3_ok mixed
theorem autoSzc (c d : Nat) : autoLp cfgA3 (fun _ => none) Try.f17 [.cpx .f32 c d] = some (szOk c d && true, .flt .f32 (sz c d)) := by kernel_rfl
theorem sSzc_at : EnvAt Try.prog 17 sSz := of_auto cfgA3_ok (lp_none _) Try.func17 (by kernel_rfl) (by kernel_rfl) fun ds cc rr h hc => by
  unfold sSz at h
  split at h
  · rename_i c d
    simp only [Option.some.injEq, Prod.mk.injEq] at h
    obtain ⟨rfl, rfl⟩ := h
    refine auto_fit (autoSzc c d) rfl ?_
    rw [Bool.and_true]; exact hc
  · cases h
noncomputable def envA4 : List (Nat × (List A → Option (Bool × A))) := (17, sSz) :: envA3
theorem envA4_ok : EnvOK Try.prog (look envA4) := env_cons sSzc_at envA3_ok
noncomputable def cfgA4 : Cfg := mkCfg tab [] xts (look envA4)
theorem cfgA4_ok : CfgOK Try.prog cfgA4 := cfg_ok tab_eq (no_fts _) xts_ok envA4_ok mixed
end Go.Fw.T1

/-
  Equations of complex numbers, solved as the program does it: the same steps over rows told by functions.
-/
namespace Go.Fw.T1
open Go.Proofs
abbrev Rw := (Nat → Nat) × (Nat → Nat)
def setF (X : Nat → Nat) (i v : Nat) : Nat → Nat := fun j => match decide (j = i) with | true => v | false => X j
def rset (R : Rw) (i a b : Nat) : Rw := (setF R.1 i a, setF R.2 i b)
def rat (R : Rw) (j : Nat) : Nat × Nat := (R.1 j, R.2 j)
def rowN (rows : List Rw) (r : Nat) : Rw := rows.getD r (fun _ => 0, fun _ => 0)
def mAnd (c : Bool) (p : Bool × Rw) : Bool × Rw := (c && p.1, p.2)
def cpw (p : Nat × Nat) : Nat := pw p.1 p.2
def cpwOk (p : Nat × Nat) : Bool := pwOk p.1 p.2
def ctmOk (p q : Nat × Nat) : Bool := tmOk p.1 p.2 q.1 q.2
def covOk (p q : Nat × Nat) : Bool := ovOk p.1 p.2 q.1 q.2
def ctm (p q : Nat × Nat) : Nat × Nat := (tmR p.1 p.2 q.1 q.2, tmI p.1 p.2 q.1 q.2)
def cov (p q : Nat × Nat) : Nat × Nat := (ovR p.1 p.2 q.1 q.2, ovI p.1 p.2 q.1 q.2)
def cmi (p q : Nat × Nat) : Nat × Nat := (fop .sub .f32 p.1 q.1, fop .sub .f32 p.2 q.2)
def cset (R : Rw) (i : Nat) (p : Nat × Nat) : Rw := rset R i p.1 p.2
def isNum (p : Nat) : Bool := forder .f32 p p == some .eq
def gtW (p q : Nat) : Bool := forder .f32 p q == some .gt
/-- The search of a pivot: 'ws' says where a later row is taken. -/
def mSearch (rows : List Rw) (k : Nat) : List Nat → Option Nat → List Bool → (Nat → List Bool → Bool × Rw) → Bool × Rw
  | [], best, ws, cont => mAnd (cpwOk (rat (rowN rows (best.getD 0)) k) || false) (mAnd (!!gtW (cpw (rat (rowN rows (best.getD 0)) k)) (can .f32 0)) (cont (best.getD 0) ws))
  | r :: rs, none, ws, cont =>
    mAnd (cpwOk (rat (rowN rows r) k)) (mAnd (false || !((isNum (cpw (rat (rowN rows r) k)) == true) && false)) (mAnd (cpwOk (rat (rowN rows 0) k) || !((isNum (cpw (rat (rowN rows r) k)) == true) && false))
      (mAnd (bif isNum (cpw (rat (rowN rows r) k)) then true else false) (mSearch rows k rs (some r) ws cont))))
  | r :: rs, some b, ws, cont =>
    mAnd (cpwOk (rat (rowN rows r) k)) (mAnd (cpwOk (rat (rowN rows b) k) || !((isNum (cpw (rat (rowN rows r) k)) == true) && true))
      (match ws with
       | true :: ws => mAnd (bif isNum (cpw (rat (rowN rows r) k)) then gtW (cpw (rat (rowN rows r) k)) (cpw (rat (rowN rows b) k)) else false) (mSearch rows k rs (some r) ws cont)
       | ws => mAnd (!bif isNum (cpw (rat (rowN rows r) k)) then gtW (cpw (rat (rowN rows r) k)) (cpw (rat (rowN rows b) k)) else false) (mSearch rows k rs (some b) (ws.drop 1) cont)))
def mCols (r k : Nat) (f : Nat × Nat) : List Nat → List Rw → (List Rw → Bool × Rw) → Bool × Rw
  | [], rows, cont => cont rows
  | c :: cs, rows, cont => mAnd (ctmOk f (rat (rowN rows k) c) && true) (mCols r k f cs (rows.set r (cset (rowN rows r) c (cmi (rat (rowN rows r) c) (ctm f (rat (rowN rows k) c))))) cont)
def mElim (n k : Nat) : List Nat → List Rw → Rw → (List Rw → Rw → Bool × Rw) → Bool × Rw
  | [], rows, x, cont => cont rows x
  | r :: rs, rows, x, cont => mAnd (covOk (rat (rowN rows r) k) (rat (rowN rows k) k))
    (mCols r k (cov (rat (rowN rows r) k) (rat (rowN rows k) k)) ((List.range n).drop (k + 1)) rows fun rows' =>
      mAnd (ctmOk (cov (rat (rowN rows r) k) (rat (rowN rows k) k)) (rat x k) && true) (mElim n k rs rows' (cset x r (cmi (rat x r) (ctm (cov (rat (rowN rows r) k) (rat (rowN rows k) k)) (rat x k)))) cont))
def mDown (n : Nat) : List Nat → List Rw → Rw → List Bool → (List Rw → Rw → Bool × Rw) → Bool × Rw
  | [], rows, x, _, cont => cont rows x
  | k :: ks, rows, x, ws, cont => mSearch rows k ((List.range n).drop k) none ws fun b ws' =>
    mElim n k ((List.range n).drop (k + 1)) ((rows.set k (rowN rows b)).set b (rowN rows k)) (cset (cset x k (rat x b)) b (rat x k)) fun rows' x' => mDown n ks rows' x' ws' cont
def mBackC (rows : List Rw) (k : Nat) : List Nat → Rw → (Rw → Bool × Rw) → Bool × Rw
  | [], x, cont => cont x
  | c :: cs, x, cont => mAnd (ctmOk (rat (rowN rows k) c) (rat x c) && true) (mBackC rows k cs (cset x k (cmi (rat x k) (ctm (rat (rowN rows k) c) (rat x c)))) cont)
def mBack (n : Nat) (rows : List Rw) : List Nat → Rw → Bool × Rw
  | [], x => (true, x)
  | k :: ks, x => mBackC rows k ((List.range n).drop (k + 1)) x fun x' => mAnd (covOk (rat x' k) (rat (rowN rows k) k) && true) (mBack n rows ks (cset x' k (cov (rat x' k) (rat (rowN rows k) k))))
/-- All of it; 'ws': where a later row is taken as the pivot's. -/
def mSolve (n : Nat) (x y u v : Nat → Nat) (ws : List Bool) : Bool × Rw :=
  mDown n (List.range n) ((List.range n).map fun r => (fun i => x (r * n + i), fun i => y (r * n + i))) (u, v) ws fun rows x => mBack n rows (List.range n).reverse x
noncomputable def own47 (d : Nat) : Bool := !(Nat.beq d 25)
def mRes (n : Nat) (p : Bool × Rw) : Option (Bool × A) := some (p.1, .tup [.ro 1 n (.cpxs .f32 p.2.1 p.2.2), .bool true])
theorem walkS1 (x y u v : Nat → Nat) : autoW cfgA4 own47 6 (fun _ => none) [false, true, false, true, true, true, false, false, false, true, false, false] Try.f47 [.ro 1 1 (.cpxs .f32 x y), .ro 1 1 (.cpxs .f32 u v)] =
    mRes 1 (mSolve 1 x y u v []) := by kernel_rfl
theorem walkS2a (x y u v : Nat → Nat) : autoW cfgA4 own47 6 (fun _ => none) [false, true, true, false, true, true, true, true, false, false, false, true, true, false, true, true, true, false, false, false, true, false, true, true, false, false] Try.f47 [.ro 1 4 (.cpxs .f32 x y), .ro 1 2 (.cpxs .f32 u v)] =
    mRes 2 (mSolve 2 x y u v [false]) := by kernel_rfl
theorem walkS2b (x y u v : Nat → Nat) : autoW cfgA4 own47 6 (fun _ => none) [false, true, true, false, true, true, true, true, true, false, false, true, true, false, true, true, true, false, false, false, true, false, true, true, false, false] Try.f47 [.ro 1 4 (.cpxs .f32 x y), .ro 1 2 (.cpxs .f32 u v)] =
    mRes 2 (mSolve 2 x y u v [true]) := by kernel_rfl
end Go.Fw.T1

/-
  Equations of one and of two complex numbers: the contract.
-/
namespace Go.Fw.T1
open Go.Proofs
def solW (x y : Nat → Nat) : Bool := gtW (pw (x 2) (y 2)) (pw (x 0) (y 0))
def sol (n : Nat) (x y u v : Nat → Nat) : Bool × Rw := match n with
  | 1 => mSolve 1 x y u v []
  | 2 => bif solW x y then mSolve 2 x y u v [true] else mSolve 2 x y u v [false]
  | _ => (false, (u, v))
def solOk (n : Nat) (x y u v : Nat → Nat) : Bool := (sol n x y u v).1
def solX (n : Nat) (x y u v : Nat → Nat) (j : Nat) : Nat := (sol n x y u v).2.1 j
def solY (n : Nat) (x y u v : Nat → Nat) (j : Nat) : Nat := (sol n x y u v).2.2 j
noncomputable def sSolve : List A → Option (Bool × A)
  | [.ro 1 m (.cpxs .f32 x y), .ro 1 n (.cpxs .f32 u v)] => match m, n with
    | 1, 1 => some (solOk 1 x y u v, .tup [.ro 1 1 (.cpxs .f32 (solX 1 x y u v) (solY 1 x y u v)), .bool true])
    | 4, 2 => some (solOk 2 x y u v, .tup [.ro 1 2 (.cpxs .f32 (solX 2 x y u v) (solY 2 x y u v)), .bool true])
    | _, _ => none
  | _ => none
theorem sSolve_at : EnvAt Try.prog 47 sSolve := by
  refine ⟨⟨Try.f47, Try.func47, by kernel_rfl, by kernel_rfl⟩, fun ds cc rr h hc => ?_⟩
  unfold sSolve at h
  split at h
  · rename_i m x y n u v
    split at h
    · simp only [Option.some.injEq, Prod.mk.injEq] at h
      obtain ⟨rfl, rfl⟩ := h
      exact autoW_ok cfgA4_ok Try.func47 (by kernel_rfl) (lp_none _) (walkS1 x y u v) hc
    · simp only [Option.some.injEq, Prod.mk.injEq] at h
      obtain ⟨rfl, rfl⟩ := h
      have e : sol 2 x y u v = bif solW x y then mSolve 2 x y u v [true] else mSolve 2 x y u v [false] := rfl
      unfold solOk at hc
      show PureCall Try.prog 47 _ (.tup [.ro 1 2 (.cpxs .f32 (sol 2 x y u v).2.1 (sol 2 x y u v).2.2), .bool true])
      rw [e] at hc ⊢
      cases hs : solW x y
      · rw [hs] at hc
        exact autoW_ok cfgA4_ok Try.func47 (by kernel_rfl) (lp_none _) (walkS2a x y u v) hc
      · rw [hs] at hc
        exact autoW_ok cfgA4_ok Try.func47 (by kernel_rfl) (lp_none _) (walkS2b x y u v) hc
    · cases h
  · cases h
noncomputable def envB1 : List (Nat × (List A → Option (Bool × A))) := (47, sSolve) :: (20, s35T) :: (46, s72) :: (7, s31T) :: (13, s44T) :: envA4
theorem envB1_ok : EnvOK Try.prog (look envB1) := env_cons sSolve_at (env_cons s35T_at (env_cons s72_at (env_cons s31T_at (env_cons s44T_at envA4_ok))))
noncomputable def cfgB1 : Cfg := mkCfg tab [] xts (look envB1)
theorem cfgB1_ok : CfgOK Try.prog cfgB1 := cfg_ok tab_eq (no_fts _) xts_ok envB1_ok mixed
noncomputable def sCurr : List A → Option (Bool × A)
  | [.agg [.ro 1 n (.flts .f32 r), .ro 1 gn (.flts .f32 g), .ro 1 cn (.flts .f32 c)], .ro 1 m (.cpxs .f32 u v), .flt .f32 w] => match n, gn, cn, m with
    | 1, 1, 1, 1 => some (impOk 1 1 1 r g c w && solOk 1 (zR 1 r) (zI 1 g c w) u v, .tup [.ro 1 1 (.cpxs .f32 (solX 1 (zR 1 r) (zI 1 g c w) u v) (solY 1 (zR 1 r) (zI 1 g c w) u v)), .bool true])
    | 2, 2, 4, 2 => some (impOk 2 2 4 r g c w && solOk 2 (zR 2 r) (zI 2 g c w) u v, .tup [.ro 1 2 (.cpxs .f32 (solX 2 (zR 2 r) (zI 2 g c w) u v) (solY 2 (zR 2 r) (zI 2 g c w) u v)), .bool true])
    | _, _, _, _ => none
  | _ => none
theorem walkC1 (r g c u v : Nat → Nat) (w : Nat) : autoW cfgB1 (fun _ => true) 6 (fun _ => none) [false] Try.f21 [.agg [.ro 1 1 (.flts .f32 r), .ro 1 1 (.flts .f32 g), .ro 1 1 (.flts .f32 c)], .ro 1 1 (.cpxs .f32 u v), .flt .f32 w] =
    some ((!bif bif !valid 1 1 1 r g c then true else false then true else !above w) && (solOk 1 (zR 1 r) (zI 1 g c w) u v && true), .tup [.ro 1 1 (.cpxs .f32 (solX 1 (zR 1 r) (zI 1 g c w) u v) (solY 1 (zR 1 r) (zI 1 g c w) u v)), .bool true]) := by kernel_rfl
theorem walkC2 (r g c u v : Nat → Nat) (w : Nat) : autoW cfgB1 (fun _ => true) 6 (fun _ => none) [false] Try.f21 [.agg [.ro 1 2 (.flts .f32 r), .ro 1 2 (.flts .f32 g), .ro 1 4 (.flts .f32 c)], .ro 1 2 (.cpxs .f32 u v), .flt .f32 w] =
    some ((!bif bif !valid 2 2 4 r g c then true else false then true else !above w) && (solOk 2 (zR 2 r) (zI 2 g c w) u v && true), .tup [.ro 1 2 (.cpxs .f32 (solX 2 (zR 2 r) (zI 2 g c w) u v) (solY 2 (zR 2 r) (zI 2 g c w) u v)), .bool true]) := by kernel_rfl
theorem imp_not {a b : Bool} (h : (a && b) = true) : (!bif bif !a then true else false then true else !b) = true := by cases a <;> cases b <;> first | rfl | cases h
theorem sCurr_at : EnvAt Try.prog 21 sCurr := by
  refine ⟨⟨Try.f21, Try.func21, by kernel_rfl, by kernel_rfl⟩, fun ds cc rr h hc => ?_⟩
  unfold sCurr at h
  split at h
  · rename_i n r gn g cn c m u v w
    split at h
    · simp only [Option.some.injEq, Prod.mk.injEq] at h
      obtain ⟨rfl, rfl⟩ := h
      simp only [Bool.and_eq_true] at hc
      exact autoW_ok cfgB1_ok Try.func21 (by kernel_rfl) (lp_none _) (walkC1 r g c u v w) (by rw [imp_not hc.1, hc.2]; rfl)
    · simp only [Option.some.injEq, Prod.mk.injEq] at h
      obtain ⟨rfl, rfl⟩ := h
      simp only [Bool.and_eq_true] at hc
      exact autoW_ok cfgB1_ok Try.func21 (by kernel_rfl) (lp_none _) (walkC2 r g c u v w) (by rw [imp_not hc.1, hc.2]; rfl)
    · cases h
  · cases h
noncomputable def envB2 : List (Nat × (List A → Option (Bool × A))) := (21, sCurr) :: envB1
theorem envB2_ok : EnvOK Try.prog (look envB2) := env_cons sCurr_at envB1_ok
noncomputable def cfgB2 : Cfg := mkCfg tab [] xts (look envB2)
theorem cfgB2_ok : CfgOK Try.prog cfgB2 := cfg_ok tab_eq (no_fts _) xts_ok envB2_ok mixed
end Go.Fw.T1

/-
  What loops show at a port.
-/
namespace Go.Fw.T1
open Go.Proofs
def eU (j : Nat) : Nat := match decide (j = Int.toNat 0) with | true => can .f32 1065353216 | false => 0
def eV (j : Nat) : Nat := match decide (j = Int.toNat 0) with | true => can .f32 0 | false => 0
def portX (n : Nat) (r g c : Nat → Nat) (w : Nat) : Nat := solX n (zR n r) (zI n g c w) eU eV 0
def portY (n : Nat) (r g c : Nat → Nat) (w : Nat) : Nat := solY n (zR n r) (zI n g c w) eU eV 0
def portOk (n : Nat) (r g c : Nat → Nat) (w : Nat) : Bool := solOk n (zR n r) (zI n g c w) eU eV && ovOk (can .f32 1065353216) (can .f32 0) (portX n r g c w) (portY n r g c w)
def portR (n : Nat) (r g c : Nat → Nat) (w : Nat) : Nat := ovR (can .f32 1065353216) (can .f32 0) (portX n r g c w) (portY n r g c w)
def portI (n : Nat) (r g c : Nat → Nat) (w : Nat) : Nat := ovI (can .f32 1065353216) (can .f32 0) (portX n r g c w) (portY n r g c w)
noncomputable def sPort : List A → Option (Bool × A)
  | [.agg [.ro 1 n (.flts .f32 r), .ro 1 gn (.flts .f32 g), .ro 1 cn (.flts .f32 c)], .int .i64 (.ofNat 0), .flt .f32 w] => match n, gn, cn with
    | 1, 1, 1 => some (impOk 1 1 1 r g c w && portOk 1 r g c w, .tup [.cpx .f32 (portR 1 r g c w) (portI 1 r g c w), .bool true])
    | 2, 2, 4 => some (impOk 2 2 4 r g c w && portOk 2 r g c w, .tup [.cpx .f32 (portR 2 r g c w) (portI 2 r g c w), .bool true])
    | _, _, _ => none
  | _ => none
theorem walkP1 (r g c : Nat → Nat) (w : Nat) : autoW cfgB2 (fun _ => true) 6 (fun _ => none) [false, false] Try.f9 [.agg [.ro 1 1 (.flts .f32 r), .ro 1 1 (.flts .f32 g), .ro 1 1 (.flts .f32 c)], .int .i64 0, .flt .f32 w] =
    some ((!!bif valid 1 1 1 r g c then true else false) && ((impOk 1 1 1 r g c w && solOk 1 (zR 1 r) (zI 1 g c w) eU eV) && (ovOk (can .f32 1065353216) (can .f32 0) (portX 1 r g c w) (portY 1 r g c w) && true)), .tup [.cpx .f32 (portR 1 r g c w) (portI 1 r g c w), .bool true]) := by kernel_rfl
theorem walkP2 (r g c : Nat → Nat) (w : Nat) : autoW cfgB2 (fun _ => true) 6 (fun _ => none) [false, false] Try.f9 [.agg [.ro 1 2 (.flts .f32 r), .ro 1 2 (.flts .f32 g), .ro 1 4 (.flts .f32 c)], .int .i64 0, .flt .f32 w] =
    some ((!!bif valid 2 2 4 r g c then true else false) && ((impOk 2 2 4 r g c w && solOk 2 (zR 2 r) (zI 2 g c w) eU eV) && (ovOk (can .f32 1065353216) (can .f32 0) (portX 2 r g c w) (portY 2 r g c w) && true)), .tup [.cpx .f32 (portR 2 r g c w) (portI 2 r g c w), .bool true]) := by kernel_rfl
theorem port_and {a b s o : Bool} (h : ((a && b) && (s && o)) = true) : ((!!bif a then true else false) && (((a && b) && s) && (o && true))) = true := by cases a <;> cases b <;> cases s <;> cases o <;> first | rfl | cases h
theorem sPort_at : EnvAt Try.prog 9 sPort := by
  refine ⟨⟨Try.f9, Try.func9, by kernel_rfl, by kernel_rfl⟩, fun ds cc rr h hc => ?_⟩
  unfold sPort at h
  split at h
  · rename_i n r gn g cn c w
    split at h
    · simp only [Option.some.injEq, Prod.mk.injEq] at h
      obtain ⟨rfl, rfl⟩ := h
      exact autoW_ok cfgB2_ok Try.func9 (by kernel_rfl) (lp_none _) (walkP1 r g c w) (port_and hc)
    · simp only [Option.some.injEq, Prod.mk.injEq] at h
      obtain ⟨rfl, rfl⟩ := h
      exact autoW_ok cfgB2_ok Try.func9 (by kernel_rfl) (lp_none _) (walkP2 r g c w) (port_and hc)
    · cases h
  · cases h
noncomputable def envB3 : List (Nat × (List A → Option (Bool × A))) := (9, sPort) :: envB2
theorem envB3_ok : EnvOK Try.prog (look envB3) := env_cons sPort_at envB2_ok
noncomputable def cfgB3 : Cfg := mkCfg tab [] xts (look envB3)
theorem cfgB3_ok : CfgOK Try.prog cfgB3 := cfg_ok tab_eq (no_fts _) xts_ok envB3_ok mixed
end Go.Fw.T1

/-
  What is reflected; a scan of four; bytes' choices.
-/
namespace Go.Fw.T1
open Go.Proofs
open Go.RowKit (Below)
def row4 (a b c d : Nat) (j : Nat) : Nat := match decide (j < 3) with
  | true => match decide (j < 2) with
    | true => match decide (j < 1) with
      | true => [a].getD j 0
      | false => [b].getD (j - 1) 0
    | false => [c].getD (j - 2) 0
  | false => [d].getD (j - 3) 0
/-- The k-th frequency. -/
def scW (w s k : Nat) : Nat := fop .add .f32 w (fop .mul .f32 s (fofInt .f32 (Int.ofNat k)))
def scZ (r g c : Nat → Nat) (w s k : Nat) : Nat := sz (portR 1 r g c (scW w s k)) (portI 1 r g c (scW w s k))
noncomputable def scOk (r g c : Nat → Nat) (w s k : Nat) : Bool := (impOk 1 1 1 r g c (scW w s k) && portOk 1 r g c (scW w s k)) && szOk (portR 1 r g c (scW w s k)) (portI 1 r g c (scW w s k))
noncomputable def sScan : List A → Option (Bool × A)
  | [.agg [.ro 1 n (.flts .f32 r), .ro 1 gn (.flts .f32 g), .ro 1 cn (.flts .f32 c)], .int .i64 (.ofNat 0), .flt .f32 w, .flt .f32 s, .int .i64 (.ofNat 4)] => match n, gn, cn with
    | 1, 1, 1 => some (valid 1 1 1 r g c && (scOk r g c w s 0 && (scOk r g c w s 1 && (scOk r g c w s 2 && scOk r g c w s 3))), .tup [.ro 1 4 (.flts .f32 (row4 (scZ r g c w s 0) (scZ r g c w s 1) (scZ r g c w s 2) (scZ r g c w s 3))), .bool true])
    | _, _, _ => none
  | _ => none
theorem walkSc (r g c : Nat → Nat) (w s : Nat) : autoW cfgB3 (fun _ => true) 6 (fun _ => none) [false, true, false, true, false, true, false, true, false, false] Try.f16 [.agg [.ro 1 1 (.flts .f32 r), .ro 1 1 (.flts .f32 g), .ro 1 1 (.flts .f32 c)], .int .i64 0, .flt .f32 w, .flt .f32 s, .int .i64 4] =
    some ((!bif !bif valid 1 1 1 r g c then true else false then true else false) && ((impOk 1 1 1 r g c (scW w s 0) && portOk 1 r g c (scW w s 0)) && (szOk (portR 1 r g c (scW w s 0)) (portI 1 r g c (scW w s 0)) &&
      ((impOk 1 1 1 r g c (scW w s 1) && portOk 1 r g c (scW w s 1)) && (szOk (portR 1 r g c (scW w s 1)) (portI 1 r g c (scW w s 1)) && ((impOk 1 1 1 r g c (scW w s 2) && portOk 1 r g c (scW w s 2)) && (szOk (portR 1 r g c (scW w s 2)) (portI 1 r g c (scW w s 2)) &&
      ((impOk 1 1 1 r g c (scW w s 3) && portOk 1 r g c (scW w s 3)) && (szOk (portR 1 r g c (scW w s 3)) (portI 1 r g c (scW w s 3)) && true)))))))),
      .tup [.ro 1 4 (.flts .f32 (row4 (scZ r g c w s 0) (scZ r g c w s 1) (scZ r g c w s 2) (scZ r g c w s 3))), .bool true]) := by kernel_rfl
theorem sScan_at : EnvAt Try.prog 16 sScan := by
  refine ⟨⟨Try.f16, Try.func16, by kernel_rfl, by kernel_rfl⟩, fun ds cc rr h hc => ?_⟩
  unfold sScan at h
  split at h
  · rename_i n r gn g cn c w s
    split at h
    · simp only [Option.some.injEq, Prod.mk.injEq] at h
      obtain ⟨rfl, rfl⟩ := h
      simp only [scOk, Bool.and_eq_true] at hc
      exact autoW_ok cfgB3_ok Try.func16 (by kernel_rfl) (lp_none _) (walkSc r g c w s) (by simp [hc])
    · cases h
  · cases h
def refX (c : Nat → Nat) (w : Nat) : Nat := fop .mul .f32 (fop .mul .f32 w (c 1)) (fop .mul .f32 w (c 1))
def refOk (r g c : Nat → Nat) (w : Nat) : Bool := ovOk (refX c w) (can .f32 0) (zR 2 r 3) (zI 2 g c w 3)
def refR (r g c : Nat → Nat) (w : Nat) : Nat := fop .add .f32 (zR 2 r 0) (ovR (refX c w) (can .f32 0) (zR 2 r 3) (zI 2 g c w 3))
def refI (r g c : Nat → Nat) (w : Nat) : Nat := fop .add .f32 (zI 2 g c w 0) (ovI (refX c w) (can .f32 0) (zR 2 r 3) (zI 2 g c w 3))
noncomputable def sRef : List A → Option (Bool × A)
  | [.agg [.ro 1 n (.flts .f32 r), .ro 1 gn (.flts .f32 g), .ro 1 cn (.flts .f32 c)], .flt .f32 w] => match n, gn, cn with
    | 2, 2, 4 => some (impOk 2 2 4 r g c w && refOk r g c w, .tup [.cpx .f32 (refR r g c w) (refI r g c w), .bool true])
    | _, _, _ => none
  | _ => none
theorem walkRef (r g c : Nat → Nat) (w : Nat) : autoW cfgB3 (fun _ => true) 6 (fun _ => none) [false] Try.f15 [.agg [.ro 1 2 (.flts .f32 r), .ro 1 2 (.flts .f32 g), .ro 1 4 (.flts .f32 c)], .flt .f32 w] =
    some (impOk 2 2 4 r g c w && (refOk r g c w && true && true), .tup [.cpx .f32 (refR r g c w) (refI r g c w), .bool true]) := by kernel_rfl
theorem sRef_at : EnvAt Try.prog 15 sRef := by
  refine ⟨⟨Try.f15, Try.func15, by kernel_rfl, by kernel_rfl⟩, fun ds cc rr h hc => ?_⟩
  unfold sRef at h
  split at h
  · rename_i n r gn g cn c w
    split at h
    · simp only [Option.some.injEq, Prod.mk.injEq] at h
      obtain ⟨rfl, rfl⟩ := h
      exact autoW_ok cfgB3_ok Try.func15 (by kernel_rfl) (lp_none _) (walkRef r g c w) (by simpa using hc)
    · cases h
  · cases h
/-- The bytes of a row. -/
def byt (g : Nat → A) (i : Nat) : Nat := match g i with | .int .u8 n => n.toNat | _ => 0
def isU8 (g : Nat → A) (i : Nat) : Bool := match g i with | .int .u8 n => decide (0 ≤ n) && decide (n < 256) | _ => false
theorem isU8_eq {g : Nat → A} {i : Nat} (h : isU8 g i = true) : g i = .int .u8 (Int.ofNat (byt g i)) ∧ byt g i < 256 := by
  unfold isU8 at h
  unfold byt
  split at h
  · rename_i n hn
    simp only [Bool.and_eq_true, decide_eq_true_eq] at h
    rw [hn]
    show A.int .u8 n = .int .u8 (Int.ofNat n.toNat) ∧ n.toNat < 256
    rw [show Int.ofNat n.toNat = n from Int.toNat_of_nonneg h.1]
    exact ⟨rfl, by omega⟩
  · cases h
theorem pure_bytes {f la : Nat} {g : Nat → A} {rest : List A} {r : A} (hg : allUpTo (isU8 g) la = true) (h : PureCall Try.prog f (.ro 1 la (.gen fun i => .int .u8 (Int.ofNat (byt g i))) :: rest) r) : PureCall Try.prog f (.ro 1 la (.gen g) :: rest) r := fun w vs T hT hs hr =>
  h w vs T hT hs fun i hi => match i, hi with
    | 0, _ => (hr 0 (Nat.succ_pos _)).row_congr fun i hi => (isU8_eq (allUpTo_iff.1 hg i hi)).1
    | i + 1, hi => hr (i + 1) hi
noncomputable def bAtI (la : Nat) (b : Nat → Nat) (i n : Nat) : Int := bif decide (Int.ofNat i < Int.ofNat la) then (IntKind.i64.wrap (Int.ofNat (b i))).tmod (Int.ofNat n) else (IntKind.i64.wrap (IntKind.i64.wrap (Int.ofNat i * Int.ofNat 37) + Int.ofNat 11)).tmod (Int.ofNat n)
noncomputable def sAt : List A → Option (Bool × A)
  | [.ro 1 la (.gen g), .int .i64 (.ofNat i), .int .i64 (.ofNat n)] => some (allUpTo (isU8 g) la && Nat.ble 2 n, .int .i64 (bAtI la (byt g) i n))
  | _ => none
theorem autoAt (la : Nat) (b : Nat → Nat) (i n : Nat) : autoLp cfgB3 (fun _ => none) Try.f6 [.ro 1 la (.gen fun j => .int .u8 (Int.ofNat (b j))), .int .i64 (Int.ofNat i), .int .i64 (Int.ofNat n)] =
    some (bif decide (Int.ofNat n ≤ 1) then true else bif decide (Int.ofNat i < Int.ofNat la) then decide (0 ≤ Int.ofNat i) && decide (Int.ofNat i < Int.ofNat la) && (!decide (Int.ofNat n = 0) && true) else !decide (Int.ofNat n = 0) && true, A.int IntKind.i64 (bif decide (Int.ofNat n ≤ 1) then 0 else bAtI la b i n)) := by kernel_rfl
theorem sAt_at : EnvAt Try.prog 6 sAt := by
  refine ⟨⟨Try.f6, Try.func6, by kernel_rfl, by kernel_rfl⟩, fun ds cc rr h hc => ?_⟩
  unfold sAt at h
  split at h
  · rename_i la g i n
    simp only [Option.some.injEq, Prod.mk.injEq] at h
    obtain ⟨rfl, rfl⟩ := h
    simp only [Bool.and_eq_true, Nat.ble_eq] at hc
    refine pure_bytes hc.1 ?_
    have h1 : decide (Int.ofNat n ≤ 1) = false := by simp; omega
    have h2 : decide (Int.ofNat n = 0) = false := by simp; omega
    have := autoAt la (byt g) i n
    rw [h1, h2] at this
    refine autoLp_ok cfgB3_ok Try.func6 (by kernel_rfl) (lp_none _) this ?_
    cases hd : decide (Int.ofNat i < Int.ofNat la) <;> simp
  · cases h
noncomputable def envB4 : List (Nat × (List A → Option (Bool × A))) := (16, sScan) :: (15, sRef) :: (6, sAt) :: envB3
theorem envB4_ok : EnvOK Try.prog (look envB4) := env_cons sScan_at (env_cons sRef_at (env_cons sAt_at envB3_ok))
noncomputable def cfgB4 : Cfg := mkCfg tab [] xts (look envB4)
theorem cfgB4_ok : CfgOK Try.prog cfgB4 := cfg_ok tab_eq (no_fts _) xts_ok envB4_ok mixed
end Go.Fw.T1

/-
  The law of loops that are tuned: its walk.
-/
namespace Go.Fw.T1
open Go.Proofs
noncomputable def gL (b : Nat → Nat) (i : Nat) : A := .int .u8 (Int.ofNat (b i))
def lW (v : Int) : Nat := fop .quo .f32 (fofInt .f32 (IntKind.i64.wrap (1 + v))) (can .f32 1082130432)
def lF (v : Int) : Nat := fop .quo .f32 (fofInt .f32 (IntKind.i64.wrap (1 + v))) (can .f32 1073741824)
def lK (v : Int) : Nat := fop .quo .f32 (fofInt .f32 v) (can .f32 1090519040)
def lR (i : Nat) : Nat := [can .f32 1056964608].getD i 0
def lG (i : Nat) : Nat := [can .f32 0].getD i 0
def lC (F i : Nat) : Nat := [F].getD i 0
noncomputable def lT (W F : Nat) : Nat → Nat := tuneG 1 lG (lC F) (Int.ofNat 0) W
def lTR : Nat → Nat := trR (can .f32 1048576000) (can .f32 1056964608)
def lTG : Nat → Nat := trR (can .f32 0) (can .f32 0)
noncomputable def c3a (W F : Nat) (x : Bool) : Bool := (tuneOk 1 1 1 lR lG (lC F) (Int.ofNat 0) W && (impOk 1 1 1 lR (lT W F) (lC F) W && portOk 1 lR (lT W F) (lC F) W && ((!bif bif bif bif bif !bif loopNo 1 1 1 lR (lT W F) (lC F) (Int.ofNat 0) then false else true then true else false then true else !bif qualNo 1 1 1 lR (lT W F) (lC F) (Int.ofNat 0) then false else true then true else forder .f64 (gap (fcvt .f32 .f64 (bif loopNo 1 1 1 lR (lT W F) (lC F) (Int.ofNat 0) then can .f32 0 else reso 1 (lT W F) (lC F) (Int.ofNat 0))) (fcvt .f32 .f64 W)) (can .f64 4562254508917369340) == some .gt then true else forder .f64 (off (portR 1 lR (lT W F) (lC F) W) (portI 1 lR (lT W F) (lC F) W) (can .f32 1056964608) (can .f32 0)) (can .f64 4562254508917369340) == some .gt then true else forder .f64 (gap (fcvt .f32 .f64 (bif qualNo 1 1 1 lR (lT W F) (lC F) (Int.ofNat 0) then can .f32 0 else qual 1 lR (lT W F) (lC F) (Int.ofNat 0))) (fop .quo .f64 (fop .mul .f64 (fcvt .f32 .f64 W) (fcvt .f32 .f64 F)) (can .f64 4602678819172646912))) (can .f64 4576918229304087675) == some .gt) && x)))
noncomputable def c3b (W F S K : Nat) (x : Bool) : Bool := (trOk F S K (can .f32 1048576000) (can .f32 1056964608) && (impOk 2 2 4 lTR lTG (trC F S K) W && refOk lTR lTG (trC F S K) W && (impOk 2 2 4 lTR lTG (trC F S K) W && portOk 2 lTR lTG (trC F S K) W && ((!bif bif bif bif !bif coupNo 2 2 4 lTR lTG (trC F S K) (Int.ofNat 0) (Int.ofNat 1) then false else true then true else false then true else false then true else forder .f64 (gap (fcvt .f32 .f64 (bif coupNo 2 2 4 lTR lTG (trC F S K) (Int.ofNat 0) (Int.ofNat 1) then can .f32 0 else coup 2 (trC F S K) (Int.ofNat 0) (Int.ofNat 1))) (fcvt .f32 .f64 K)) (can .f64 4562254508917369340) == some .gt then true else forder .f64 (off (refR lTR lTG (trC F S K) W) (refI lTR lTG (trC F S K) W) (portR 2 lTR lTG (trC F S K) W) (portI 2 lTR lTG (trC F S K) W)) (can .f64 4576918229304087675) == some .gt) && x))))
noncomputable def lZ (W F k : Nat) : Nat := scZ lR (lT W F) (lC F) W (can .f32 1048576000) k
noncomputable def lO (W F k : Nat) : Bool := scOk lR (lT W F) (lC F) W (can .f32 1048576000) k
noncomputable def ltZ (p z : Nat) : Bool := forder .f32 p (fop .sub .f32 z (can .f32 981668463)) == some .lt
noncomputable def c3c (W F : Nat) : Bool := (valid 1 1 1 lR (lT W F) (lC F) && (lO W F 0 && (lO W F 1 && (lO W F 2 && lO W F 3)))) && (((szOk (portR 1 lR (lT W F) (lC F) W) (portI 1 lR (lT W F) (lC F) W) || false) && true) &&
  ((!(forder .f64 (gap (fcvt .f32 .f64 (lZ W F 0)) (fcvt .f32 .f64 (sz (portR 1 lR (lT W F) (lC F) W) (portI 1 lR (lT W F) (lC F) W)))) (can .f64 4562254508917369340) == some .gt)) && ((!ltZ (lZ W F 0) (lZ W F 0)) && ((!ltZ (lZ W F 1) (lZ W F 0)) && ((!ltZ (lZ W F 2) (lZ W F 0)) && ((!ltZ (lZ W F 3) (lZ W F 0)) && true))))))
noncomputable def C3 (la lb : Nat) (W F S K : Nat) (ua ub : Bool) : Bool := (!bif decide (Int.ofNat la > 1048576) then true else decide (Int.ofNat lb > 1048576)) && ((ua && true) && ((ua && true) && ((ub && true) && ((ub && true) && c3a W F (c3b W F S K (c3c W F))))))
theorem walk3 (la lb : Nat) (a b : Nat → Nat) : autoW cfgB4 (fun _ => true) 6 (fun _ => none) [false, false, false, false, true, false, true, false, true, false, true, false, false] Try.f3 [.ro 1 la (.gen (gL a)), .ro 1 lb (.gen (gL b))] =
    some (C3 la lb (lW (bAtI la a 0 12)) (lF (bAtI la a 1 8)) (lF (bAtI lb b 0 8)) (lK (bAtI lb b 1 8)) (allUpTo (isU8 (gL a)) la) (allUpTo (isU8 (gL b)) lb), .bool true) := by kernel_rfl
theorem long3 (la lb : Nat) (a b : Nat → Nat) : autoW cfgB4 (fun _ => true) 6 (fun _ => none) [true] Try.f3 [.ro 1 la (.gen (gL a)), .ro 1 lb (.gen (gL b))] = some ((bif decide (Int.ofNat la > 1048576) then true else decide (Int.ofNat lb > 1048576)) && true, .bool true) := by kernel_rfl
end Go.Fw.T1

/-
  Complex numbers evaluated by the kernel; equations of one and of two.
-/
namespace Go.Fw.T1
open Go.Proofs
abbrev VC := V × V
noncomputable def band (a b : Bool) : Bool := Bool.rec false b a
theorem band_eq (a b : Bool) : band a b = (a && b) := by cases a <;> rfl
theorem band_t {a b : Bool} (h : band a b = true) : a = true ∧ b = true := by rw [band_eq, Bool.and_eq_true] at h; exact h
noncomputable def vtmR (a b c d : V) : V := wsub (wmul a c) (wmul b d)
noncomputable def vtmI (a b c d : V) : V := wadd (wmul a d) (wmul b c)
noncomputable def vctm (p q : VC) : VC := (vnarrow (vtmR (vwide p.1) (vwide p.2) (vwide q.1) (vwide q.2)), vnarrow (vtmI (vwide p.1) (vwide p.2) (vwide q.1) (vwide q.2)))
noncomputable def vpw64 (q : VC) : V := wadd (wmul (vwide q.1) (vwide q.1)) (wmul (vwide q.2) (vwide q.2))
noncomputable def vcov (p q : VC) : VC := (vnarrow (wquo (vtmR (vwide p.1) (vwide p.2) (vwide q.1) (vneg (vwide q.2))) (vpw64 q)), vnarrow (wquo (vtmI (vwide p.1) (vwide p.2) (vwide q.1) (vneg (vwide q.2))) (vpw64 q)))
noncomputable def vcmi (p q : VC) : VC := (vsub p.1 q.1, vsub p.2 q.2)
noncomputable def vcpw (q : VC) : V := vnarrow (vpw64 q)
noncomputable def vcsz (q : VC) : V := vnarrow (wsqrt (vpw64 q))
noncomputable def vcg (p : VC) : Bool := band (vgood p.1) (vgood p.2)
noncomputable def vGt (x y : V) : Bool := Option.rec false (fun o => Ordering.rec false false true o) (vcmp x y)
noncomputable def vLe (x y : V) : Bool := Option.rec false (fun o => Ordering.rec true true false o) (vcmp x y)
noncomputable def vGe (x y : V) : Bool := Option.rec false (fun o => Ordering.rec false true true o) (vcmp x y)
noncomputable def vLt (x y : V) : Bool := Option.rec false (fun o => Ordering.rec true false false o) (vcmp x y)
def RC (p : Nat × Nat) (z : VC) : Prop := Rep .f32 p.1 z.1 ∧ Rep .f32 p.2 z.2
theorem RC.tm {p q : Nat × Nat} {y z : VC} (h : RC p y) (h' : RC q z) : RC (ctm p q) (vctm y z) :=
  ⟨rep_narrow (rep_wsub (rep_wmul (rep_wide h.1) (rep_wide h'.1)) (rep_wmul (rep_wide h.2) (rep_wide h'.2))), rep_narrow (rep_wadd (rep_wmul (rep_wide h.1) (rep_wide h'.2)) (rep_wmul (rep_wide h.2) (rep_wide h'.1)))⟩
theorem rep_pw64 {q : Nat × Nat} {z : VC} (h' : RC q z) : Rep .f64 (pw64 q.1 q.2) (vpw64 z) := rep_wadd (rep_wmul (rep_wide h'.1) (rep_wide h'.1)) (rep_wmul (rep_wide h'.2) (rep_wide h'.2))
theorem rep_ovR {p q : Nat × Nat} {y z : VC} (h : RC p y) (h' : RC q z) : Rep .f64 (ovR64 p.1 p.2 q.1 q.2) (wquo (vtmR (vwide y.1) (vwide y.2) (vwide z.1) (vneg (vwide z.2))) (vpw64 z)) :=
  rep_wquo (rep_wsub (rep_wmul (rep_wide h.1) (rep_wide h'.1)) (rep_wmul (rep_wide h.2) (rep_neg (rep_wide h'.2)))) (rep_pw64 h')
theorem rep_ovI {p q : Nat × Nat} {y z : VC} (h : RC p y) (h' : RC q z) : Rep .f64 (ovI64 p.1 p.2 q.1 q.2) (wquo (vtmI (vwide y.1) (vwide y.2) (vwide z.1) (vneg (vwide z.2))) (vpw64 z)) :=
  rep_wquo (rep_wadd (rep_wmul (rep_wide h.1) (rep_neg (rep_wide h'.2))) (rep_wmul (rep_wide h.2) (rep_wide h'.1))) (rep_pw64 h')
theorem RC.ov {p q : Nat × Nat} {y z : VC} (h : RC p y) (h' : RC q z) : RC (cov p q) (vcov y z) := ⟨rep_narrow (rep_ovR h h'), rep_narrow (rep_ovI h h')⟩
theorem RC.mi {p q : Nat × Nat} {y z : VC} (h : RC p y) (h' : RC q z) : RC (cmi p q) (vcmi y z) := ⟨rep_sub h.1 h'.1, rep_sub h.2 h'.2⟩
theorem RC.pw {q : Nat × Nat} {z : VC} (h : RC q z) : Rep .f32 (cpw q) (vcpw z) := rep_narrow (rep_pw64 h)
theorem RC.sz {q : Nat × Nat} {z : VC} (h : RC q z) : Rep .f32 (sz q.1 q.2) (vcsz z) := rep_narrow (rep_sqrt (rep_pw64 h))
theorem RC.tmOk {p q : Nat × Nat} {y z : VC} (h : RC p y) (h' : RC q z) (g : vcg (vctm y z) = true) : ctmOk p q = true := by
  obtain ⟨g1, g2⟩ := band_t g
  have e1 := narrow_ok (rep_wsub (rep_wmul (rep_wide h.1) (rep_wide h'.1)) (rep_wmul (rep_wide h.2) (rep_wide h'.2))) g1
  have e2 := narrow_ok (rep_wadd (rep_wmul (rep_wide h.1) (rep_wide h'.2)) (rep_wmul (rep_wide h.2) (rep_wide h'.1))) g2
  show (_ && _) = true
  rw [Bool.and_eq_true]
  exact ⟨e1, e2⟩
theorem RC.ovOk {p q : Nat × Nat} {y z : VC} (h : RC p y) (h' : RC q z) (g : vcg (vcov y z) = true) : covOk p q = true := by
  obtain ⟨g1, g2⟩ := band_t g
  show (_ && _) = true
  rw [Bool.and_eq_true]
  exact ⟨narrow_ok (rep_ovR h h') g1, narrow_ok (rep_ovI h h') g2⟩
theorem RC.pwOk {q : Nat × Nat} {z : VC} (h : RC q z) (g : vgood (vcpw z) = true) : cpwOk q = true := narrow_ok (rep_pw64 h) g
theorem RC.szOk {q : Nat × Nat} {z : VC} (h : RC q z) (g : vgood (vcsz z) = true) : szOk q.1 q.2 = true := narrow_ok (rep_sqrt (rep_pw64 h)) g
theorem num_of {x : Nat} {a : V} (h : Rep .f32 x a) (g : vgood a = true) : isNum x = true := by
  have := rep_val h g
  unfold isNum
  rw [this.order this]
  simp
theorem vGt_of {k : FloatKind} {x y : Nat} {a b : V} (h : Rep k x a) (h' : Rep k y b) (g : vGt a b = true) : (forder k x y == some .gt) = true := by
  unfold vGt at g
  cases hc : vcmp a b with
  | none => rw [hc] at g; cases g
  | some o => rw [hc] at g; rw [rep_cmp h h' hc]; cases o <;> first | rfl | cases g
theorem vLe_of {k : FloatKind} {x y : Nat} {a b : V} (h : Rep k x a) (h' : Rep k y b) (g : vLe a b = true) : (forder k x y == some .gt) = false ∧ ∃ o, forder k x y = some o := by
  unfold vLe at g
  cases hc : vcmp a b with
  | none => rw [hc] at g; cases g
  | some o => rw [hc] at g; rw [rep_cmp h h' hc]; cases o <;> first | exact ⟨rfl, _, rfl⟩ | cases g
theorem vGe_of {k : FloatKind} {x y : Nat} {a b : V} (h : Rep k x a) (h' : Rep k y b) (g : vGe a b = true) : (forder k x y == some .lt) = false := by
  unfold vGe at g
  cases hc : vcmp a b with
  | none => rw [hc] at g; cases g
  | some o => rw [hc] at g; rw [rep_cmp h h' hc]; cases o <;> first | rfl | cases g
theorem vLt_of {k : FloatKind} {x y : Nat} {a b : V} (h : Rep k x a) (h' : Rep k y b) (g : vLt a b = true) : (forder k x y == some .lt) = true := by
  unfold vLt at g
  cases hc : vcmp a b with
  | none => rw [hc] at g; cases g
  | some o => rw [hc] at g; rw [rep_cmp h h' hc]; cases o <;> first | rfl | cases g
theorem can0 : can .f32 0 = 0 := by decide +kernel
theorem rep_zero : Rep .f32 (can .f32 0) .zero := by rw [can0]; exact rep_of .f32 0
/-! ### One equation -/
noncomputable def v1x (a p : VC) : VC := vcov p a
noncomputable def v1k (a p : VC) : Bool := band (vgood (vcpw a)) (band (vGt (vcpw a) .zero) (vcg (vcov p a)))
theorem m1_ok (x y u v : Nat → Nat) : solOk 1 x y u v = (cpwOk (x 0, y 0) && ((false || !((isNum (cpw (x 0, y 0)) == true) && false)) && ((cpwOk (x 0, y 0) || !((isNum (cpw (x 0, y 0)) == true) && false)) && ((bif isNum (cpw (x 0, y 0)) then true else false) &&
    ((cpwOk (x 0, y 0) || false) && ((!!gtW (cpw (x 0, y 0)) (can .f32 0)) && ((covOk (u 0, v 0) (x 0, y 0) && true) && true))))))) := by kernel_rfl
theorem m1_x (x y u v : Nat → Nat) : (solX 1 x y u v 0, solY 1 x y u v 0) = cov (u 0, v 0) (x 0, y 0) := by kernel_rfl
theorem v1_spec {x y u v : Nat → Nat} {a p : VC} (ha : RC (x 0, y 0) a) (hp : RC (u 0, v 0) p) (h : v1k a p = true) : solOk 1 x y u v = true ∧ RC (solX 1 x y u v 0, solY 1 x y u v 0) (v1x a p) := by
  obtain ⟨h1, h⟩ := band_t h
  obtain ⟨h2, h3⟩ := band_t h
  have k1 := ha.pwOk h1
  have k2 := num_of ha.pw h1
  have k3 : gtW (cpw (x 0, y 0)) (can .f32 0) = true := vGt_of ha.pw rep_zero h2
  have k4 := hp.ovOk ha h3
  refine ⟨?_, ?_⟩
  · rw [m1_ok, k1, k2, k3, k4]; rfl
  · rw [m1_x]; exact hp.ov ha
/-! ### Two equations; the first one's first number is the pivot -/
def w2x1 (a b c d p q : Nat × Nat) : Nat × Nat := cov (cmi q (ctm (cov c a) p)) (cmi d (ctm (cov c a) b))
def w2x0 (a b c d p q : Nat × Nat) : Nat × Nat := cov (cmi p (ctm b (w2x1 a b c d p q))) a
def w2e (a b c d p q : Nat × Nat) (t : Bool) : Bool := (cpwOk a || false) && ((!!gtW (cpw a) (can .f32 0)) && (covOk c a && ((ctmOk (cov c a) b && true) && ((ctmOk (cov c a) p && true) &&
  (cpwOk (cmi d (ctm (cov c a) b)) && ((false || !((isNum (cpw (cmi d (ctm (cov c a) b))) == true) && false)) && ((cpwOk b || !((isNum (cpw (cmi d (ctm (cov c a) b))) == true) && false)) && ((bif isNum (cpw (cmi d (ctm (cov c a) b))) then true else false) &&
  ((cpwOk (cmi d (ctm (cov c a) b)) || false) && ((!!gtW (cpw (cmi d (ctm (cov c a) b))) (can .f32 0)) && ((covOk (cmi q (ctm (cov c a) p)) (cmi d (ctm (cov c a) b)) && true) && ((ctmOk b (w2x1 a b c d p q) && true) && ((covOk (cmi p (ctm b (w2x1 a b c d p q))) a && true) && t)))))))))))))
theorem m2F_ok (x y u v : Nat → Nat) : (mSolve 2 x y u v [false]).1 = (cpwOk (x 0, y 0) && ((false || !((isNum (cpw (x 0, y 0)) == true) && false)) && ((cpwOk (x 0, y 0) || !((isNum (cpw (x 0, y 0)) == true) && false)) && ((bif isNum (cpw (x 0, y 0)) then true else false) &&
    (cpwOk (x 2, y 2) && ((cpwOk (x 0, y 0) || !((isNum (cpw (x 2, y 2)) == true) && true)) && ((!bif isNum (cpw (x 2, y 2)) then gtW (cpw (x 2, y 2)) (cpw (x 0, y 0)) else false) && w2e (x 0, y 0) (x 1, y 1) (x 2, y 2) (x 3, y 3) (u 0, v 0) (u 1, v 1) true))))))) := by kernel_rfl
theorem m2T_ok (x y u v : Nat → Nat) : (mSolve 2 x y u v [true]).1 = (cpwOk (x 0, y 0) && ((false || !((isNum (cpw (x 0, y 0)) == true) && false)) && ((cpwOk (x 0, y 0) || !((isNum (cpw (x 0, y 0)) == true) && false)) && ((bif isNum (cpw (x 0, y 0)) then true else false) &&
    (cpwOk (x 2, y 2) && ((cpwOk (x 0, y 0) || !((isNum (cpw (x 2, y 2)) == true) && true)) && ((bif isNum (cpw (x 2, y 2)) then gtW (cpw (x 2, y 2)) (cpw (x 0, y 0)) else false) && w2e (x 2, y 2) (x 3, y 3) (x 0, y 0) (x 1, y 1) (u 1, v 1) (u 0, v 0) true))))))) := by kernel_rfl
theorem m2F_x (x y u v : Nat → Nat) : ((mSolve 2 x y u v [false]).2.1 0, (mSolve 2 x y u v [false]).2.2 0) = w2x0 (x 0, y 0) (x 1, y 1) (x 2, y 2) (x 3, y 3) (u 0, v 0) (u 1, v 1) := by kernel_rfl
theorem m2T_x (x y u v : Nat → Nat) : ((mSolve 2 x y u v [true]).2.1 0, (mSolve 2 x y u v [true]).2.2 0) = w2x0 (x 2, y 2) (x 3, y 3) (x 0, y 0) (x 1, y 1) (u 1, v 1) (u 0, v 0) := by kernel_rfl
noncomputable def v2d (a b c d : VC) : VC := vcmi d (vctm (vcov c a) b)
noncomputable def v2x1 (a b c d p q : VC) : VC := vcov (vcmi q (vctm (vcov c a) p)) (v2d a b c d)
noncomputable def v2x0 (a b c d p q : VC) : VC := vcov (vcmi p (vctm b (v2x1 a b c d p q))) a
noncomputable def v2e (a b c d p q : VC) : Bool := band (vGt (vcpw a) .zero) (band (vcg (vcov c a)) (band (vcg (vctm (vcov c a) b)) (band (vcg (vctm (vcov c a) p)) (band (vgood (vcpw (v2d a b c d))) (band (vGt (vcpw (v2d a b c d)) .zero)
  (band (vcg (v2x1 a b c d p q)) (band (vcg (vctm b (v2x1 a b c d p q))) (vcg (v2x0 a b c d p q)))))))))
/-- The answer's first number; which row is the pivot's. -/
noncomputable def v2w (a c : VC) : Bool := vGt (vcpw c) (vcpw a)
noncomputable def v2x (a b c d p q : VC) : VC := Bool.rec (v2x0 a b c d p q) (v2x0 c d a b q p) (v2w a c)
noncomputable def v2k (a b c d p q : VC) : Bool := band (vgood (vcpw a)) (band (vgood (vcpw c)) (Bool.rec (band (vLe (vcpw c) (vcpw a)) (v2e a b c d p q)) (v2e c d a b q p) (v2w a c)))
theorem or_nf (a b : Bool) : (a || !(b && false)) = true := by cases a <;> cases b <;> rfl
theorem v2e_spec {a b c d p q : Nat × Nat} {va vb vc vd vp vq : VC} (ha : RC a va) (hb : RC b vb) (hc : RC c vc) (hd : RC d vd) (hp : RC p vp) (hq : RC q vq) (hg : vgood (vcpw va) = true) (h : v2e va vb vc vd vp vq = true) : w2e a b c d p q true = true ∧ RC (w2x0 a b c d p q) (v2x0 va vb vc vd vp vq) := by
  obtain ⟨h1, h⟩ := band_t h
  obtain ⟨h2, h⟩ := band_t h
  obtain ⟨h3, h⟩ := band_t h
  obtain ⟨h4, h⟩ := band_t h
  obtain ⟨h5, h⟩ := band_t h
  obtain ⟨h6, h⟩ := band_t h
  obtain ⟨h7, h⟩ := band_t h
  obtain ⟨h8, h9⟩ := band_t h
  have rf := hc.ov ha
  have rd := hd.mi (rf.tm hb)
  have rq := hq.mi (rf.tm hp)
  have rx := rq.ov rd
  have rp := hp.mi (hb.tm rx)
  have k0 := ha.pwOk hg
  have k1 : gtW (cpw a) (can .f32 0) = true := vGt_of ha.pw rep_zero h1
  have k2 := hc.ovOk ha h2
  have k3 := rf.tmOk hb h3
  have k4 := rf.tmOk hp h4
  have k5 := rd.pwOk h5
  have k5n := num_of rd.pw h5
  have k6 : gtW (cpw (cmi d (ctm (cov c a) b))) (can .f32 0) = true := vGt_of rd.pw rep_zero h6
  have k7 := rq.ovOk rd h7
  have k8 : ctmOk b (w2x1 a b c d p q) = true := hb.tmOk rx h8
  have k9 : covOk (cmi p (ctm b (w2x1 a b c d p q))) a = true := rp.ovOk ha h9
  refine ⟨?_, rp.ov ha⟩
  unfold w2e
  rw [or_nf, or_nf, k0, k1, k2, k3, k4, k5, k5n, k6, k7, k8, k9]
  rfl
theorem v2_spec {x y u v : Nat → Nat} {a b c d p q : VC} (ha : RC (x 0, y 0) a) (hb : RC (x 1, y 1) b) (hc : RC (x 2, y 2) c) (hd : RC (x 3, y 3) d) (hp : RC (u 0, v 0) p) (hq : RC (u 1, v 1) q) (h : v2k a b c d p q = true) :
    solOk 2 x y u v = true ∧ RC (solX 2 x y u v 0, solY 2 x y u v 0) (v2x a b c d p q) := by
  obtain ⟨h1, h⟩ := band_t h
  obtain ⟨h2, h⟩ := band_t h
  have ka := ha.pwOk h1
  have kc := hc.pwOk h2
  have na := num_of ha.pw h1
  have nc := num_of hc.pw h2
  have e : sol 2 x y u v = bif solW x y then mSolve 2 x y u v [true] else mSolve 2 x y u v [false] := rfl
  unfold v2x
  show (sol 2 x y u v).1 = true ∧ RC ((sol 2 x y u v).2.1 0, (sol 2 x y u v).2.2 0) _
  cases hw : v2w a c
  · rw [hw] at h
    obtain ⟨h3, h4⟩ := band_t h
    have hsw : gtW (cpw (x 2, y 2)) (cpw (x 0, y 0)) = false := (vLe_of hc.pw ha.pw h3).1
    obtain ⟨s1, s2⟩ := v2e_spec ha hb hc hd hp hq h1 h4
    rw [e, show solW x y = false from hsw]
    refine ⟨?_, ?_⟩
    · show (mSolve 2 x y u v [false]).1 = true
      rw [m2F_ok, or_nf, or_nf, ka, kc, na, nc, hsw, s1]; rfl
    · show RC ((mSolve 2 x y u v [false]).2.1 0, (mSolve 2 x y u v [false]).2.2 0) _
      rw [m2F_x]; exact s2
  · rw [hw] at h
    have hsw : gtW (cpw (x 2, y 2)) (cpw (x 0, y 0)) = true := vGt_of hc.pw ha.pw hw
    obtain ⟨s1, s2⟩ := v2e_spec hc hd ha hb hq hp h2 h
    rw [e, show solW x y = true from hsw]
    refine ⟨?_, ?_⟩
    · show (mSolve 2 x y u v [true]).1 = true
      rw [m2T_ok, or_nf, or_nf, ka, kc, na, nc, hsw, s1]; rfl
    · show RC ((mSolve 2 x y u v [true]).2.1 0, (mSolve 2 x y u v [true]).2.2 0) _
      rw [m2T_x]; exact s2
end Go.Fw.T1

/-
  The law of loops that are tuned: what is to be checked, and what follows.
-/
namespace Go.Fw.T1
open Go.Proofs
noncomputable def vgap (x y : V) : V := Bool.rec (wsub x y) (wsub y x) (vLt x y)
noncomputable def vgk (x y t : V) : Bool := band (Bool.rec (vGe x y) true (vLt x y)) (vLe (vgap x y) t)
theorem vLe_fin {k : FloatKind} {x y : Nat} {a b : V} (h : Rep k x a) (h' : Rep k y b) (g : vLe a b = true) : ∃ n m, Fin k x n ∧ Fin k y m ∧ n ≤ m := by
  have hg : vgood a = true ∧ vgood b = true := by
    unfold vLe vcmp at g
    cases h1 : vgood a
    · rw [h1] at g; cases g
    · cases h2 : vgood b
      · rw [h1, h2] at g; cases g
      · exact ⟨rfl, rfl⟩
  have r1 := rep_val h hg.1
  have r2 := rep_val h' hg.2
  refine ⟨_, _, r1, r2, ?_⟩
  have := (vLe_of h h' g).1
  rw [r1.order r2] at this
  by_cases hlt : sg (vlow b) (vmag b) < sg (vlow a) (vmag a)
  · rw [show compare (sg (vlow a) (vmag a)) (sg (vlow b) (vmag b)) = .gt from Int.compare_eq_gt.2 hlt] at this
    cases this
  · omega
theorem gap_fin {x y w : Nat} {a b t : V} (h : Rep .f64 x a) (h' : Rep .f64 y b) (ht : Rep .f64 w t) (g : vgk a b t = true) : ∃ n m, Fin .f64 (gap x y) n ∧ Fin .f64 w m ∧ n ≤ m := by
  obtain ⟨g1, g2⟩ := band_t g
  refine vLe_fin ?_ ht g2
  unfold vgap gap
  cases hl : vLt a b
  · rw [hl] at g1
    rw [vGe_of h h' g1]
    exact rep_wsub h h'
  · rw [vLt_of h h' hl]
    exact rep_wsub h' h
theorem not_gt {k : FloatKind} {x w : Nat} {n m : Int} (h : Fin k x n) (h' : Fin k w m) (hl : n ≤ m) : (forder k x w == some .gt) = false := by
  rw [h.order h']
  rcases Int.lt_or_eq_of_le hl with h1 | h1
  · rw [Int.compare_eq_lt.2 h1]; rfl
  · rw [Int.compare_eq_eq.2 h1]; rfl
theorem gap_ok {x y w : Nat} {a b t : V} (h : Rep .f64 x a) (h' : Rep .f64 y b) (ht : Rep .f64 w t) (g : vgk a b t = true) : (forder .f64 (gap x y) w == some .gt) = false := by
  obtain ⟨n, m, h1, h2, h3⟩ := gap_fin h h' ht g
  exact not_gt h1 h2 h3
theorem fmax_one (k : FloatKind) (x y : Nat) {n m : Int} (h : Fin k x n) (h' : Fin k y m) : fmax k x y = x ∨ fmax k x y = y := by
  unfold fmax
  rw [h.order h']
  cases compare n m
  · exact .inr rfl
  · show (match (k.decode x).neg with | true => y | false => x) = x ∨ _ = y
    cases (k.decode x).neg
    · exact .inl rfl
    · exact .inr rfl
  · exact .inl rfl
noncomputable def vok (p q : VC) (t : V) : Bool := band (vgk (vwide p.1) (vwide q.1) t) (vgk (vwide p.2) (vwide q.2) t)
theorem off_ok {p q : Nat × Nat} {w : Nat} {a b : VC} {t : V} (h : RC p a) (h' : RC q b) (ht : Rep .f64 w t) (g : vok a b t = true) : (forder .f64 (off p.1 p.2 q.1 q.2) w == some .gt) = false := by
  obtain ⟨g1, g2⟩ := band_t g
  obtain ⟨n, m, h1, h2, h3⟩ := gap_fin (rep_wide h.1) (rep_wide h'.1) ht g1
  obtain ⟨n', m', h1', h2', h3'⟩ := gap_fin (rep_wide h.2) (rep_wide h'.2) ht g2
  unfold off
  rcases fmax_one .f64 _ _ h1 h1' with e | e
  · exact (congrArg (fun z => forder .f64 z w == some .gt) e).trans (not_gt h1 h2 h3)
  · exact (congrArg (fun z => forder .f64 z w == some .gt) e).trans (not_gt h1' h2' h3')
theorem off4 {a b c d w : Nat} {y z : VC} {t : V} (h : RC (a, b) y) (h' : RC (c, d) z) (ht : Rep .f64 w t) (g : vok y z t = true) : (forder .f64 (off a b c d) w == some .gt) = false := by have := off_ok h h' ht g; dsimp only at this; exact this
theorem sz4 {a b : Nat} {z : VC} (h : RC (a, b) z) : Rep .f32 (sz a b) (vcsz z) := by have := h.sz; dsimp only at this; exact this
theorem szOk4 {a b : Nat} {z : VC} (h : RC (a, b) z) (g : vgood (vcsz z) = true) : szOk a b = true := by have := h.szOk g; dsimp only at this; exact this
theorem ov4 {a b c d : Nat} {y z : VC} (h : RC (a, b) y) (h' : RC (c, d) z) : RC (ovR a b c d, ovI a b c d) (vcov y z) := by have := h.ov h'; unfold cov at this; dsimp only at this; exact this
theorem ovOk4 {a b c d : Nat} {y z : VC} (h : RC (a, b) y) (h' : RC (c, d) z) (g : vcg (vcov y z) = true) : ovOk a b c d = true := by have := h.ovOk h' g; unfold covOk at this; dsimp only at this; exact this
theorem add4 {a b c d : Nat} {y z : VC} (h : RC (a, b) y) (h' : RC (c, d) z) : RC (fop .add .f32 a c, fop .add .f32 b d) (vadd y.1 z.1, vadd y.2 z.2) := by have h1 := rep_add h.1 h'.1; have h2 := rep_add h.2 h'.2; dsimp only at h1 h2; exact ⟨h1, h2⟩
theorem rc_is {a b c d : Nat} {z : VC} (e : a = c) (e' : b = d) (h : RC (c, d) z) : RC (a, b) z := e ▸ e' ▸ h
theorem portR_eq (n : Nat) (r g c : Nat → Nat) (w : Nat) : portR n r g c w = ovR (eU 0) (eV 0) (solX n (zR n r) (zI n g c w) eU eV 0) (solY n (zR n r) (zI n g c w) eU eV 0) := by kernel_rfl
theorem portI_eq (n : Nat) (r g c : Nat → Nat) (w : Nat) : portI n r g c w = ovI (eU 0) (eV 0) (solX n (zR n r) (zI n g c w) eU eV 0) (solY n (zR n r) (zI n g c w) eU eV 0) := by kernel_rfl
theorem portOk_eq (n : Nat) (r g c : Nat → Nat) (w : Nat) : portOk n r g c w = (solOk n (zR n r) (zI n g c w) eU eV && ovOk (eU 0) (eV 0) (solX n (zR n r) (zI n g c w) eU eV 0) (solY n (zR n r) (zI n g c w) eU eV 0)) := by kernel_rfl
/-! ### A loop alone -/
noncomputable def vHalf : V := vof .f32 (can .f32 1056964608)
noncomputable def vOne : V := vof .f32 (can .f32 1065353216)
noncomputable def vE : VC := (vOne, .zero)
theorem rcE : RC (eU 0, eV 0) vE := ⟨rep_of .f32 _, rep_zero⟩
theorem rc_mk {a b : Nat} {x y : V} (h : Rep .f32 a x) (h' : Rep .f32 b y) : RC (a, b) (x, y) := ⟨h, h'⟩
theorem rep_is {k : FloatKind} {a b : Nat} {x : V} (e : a = b) (h : Rep k b x) : Rep k a x := e ▸ h
theorem zR1 : zR 1 lR 0 = can .f32 1056964608 := by kernel_rfl
theorem zI1 (W F w : Nat) : zI 1 (lT W F) (lC F) w 0 = fop .sub .f32 (fop .mul .f32 w F) (fop .quo .f32 (fop .mul .f32 (fop .mul .f32 W W) F) w) := by kernel_rfl
theorem rep_half : Rep .f32 (can .f32 1056964608) vHalf := rep_of .f32 _
theorem rcZ1 {W w F : Nat} {vw vW vF : V} (hw : Rep .f32 w vw) (hW : Rep .f32 W vW) (hF : Rep .f32 F vF) : RC (zR 1 lR 0, zI 1 (lT W F) (lC F) w 0) (vHalf, vsub (vmul vw vF) (vquo (vmul (vmul vW vW) vF) vw)) :=
  rc_mk (rep_is zR1 rep_half) (rep_is (zI1 W F w) (rep_sub (rep_mul hw hF) (rep_quo (rep_mul (rep_mul hW hW) hF) hw)))
noncomputable def vz1 (vw vW vF : V) : VC := (vHalf, vsub (vmul vw vF) (vquo (vmul (vmul vW vW) vF) vw))
noncomputable def vp1 (vw vW vF : V) : VC := vcov vE (v1x (vz1 vw vW vF) vE)
noncomputable def vp1k (vw vW vF : V) : Bool := band (v1k (vz1 vw vW vF) vE) (vcg (vp1 vw vW vF))
theorem port1 {W w F : Nat} {vw vW vF : V} (hw : Rep .f32 w vw) (hW : Rep .f32 W vW) (hF : Rep .f32 F vF) (h : vp1k vw vW vF = true) :
    portOk 1 lR (lT W F) (lC F) w = true ∧ RC (portR 1 lR (lT W F) (lC F) w, portI 1 lR (lT W F) (lC F) w) (vp1 vw vW vF) := by
  obtain ⟨h1, h2⟩ := band_t h
  obtain ⟨s1, s2⟩ := v1_spec (x := zR 1 lR) (y := zI 1 (lT W F) (lC F) w) (u := eU) (v := eV) (rcZ1 hw hW hF) rcE h1
  exact ⟨by rw [portOk_eq, s1, ovOk4 rcE s2 h2]; rfl, rc_is (portR_eq ..) (portI_eq ..) (ov4 rcE s2)⟩
noncomputable def tM : V := vof .f64 (can .f64 4562254508917369340)
noncomputable def tC : V := vof .f64 (can .f64 4576918229304087675)
theorem rep_tM : Rep .f64 (can .f64 4562254508917369340) tM := rep_of .f64 _
theorem rep_tC : Rep .f64 (can .f64 4576918229304087675) tC := rep_of .f64 _
noncomputable def t5 : V := vof .f64 (can .f64 4602678819172646912)
theorem rep_t5 : Rep .f64 (can .f64 4602678819172646912) t5 := rep_of .f64 _
noncomputable def tS : V := vof .f32 (can .f32 1048576000)
theorem rep_tS : Rep .f32 (can .f32 1048576000) tS := rep_of .f32 _
noncomputable def tL : V := vof .f32 (can .f32 981668463)
theorem rep_tL : Rep .f32 (can .f32 981668463) tL := rep_of .f32 _
noncomputable def tI (k : Nat) : V := vof .f32 (fofInt .f32 (Int.ofNat k))
theorem rep_tI (k : Nat) : Rep .f32 (fofInt .f32 (Int.ofNat k)) (tI k) := rep_of .f32 _
noncomputable def vreso (W F : V) : V := vsqrt (vquo (vmul (vmul W W) F) F)
noncomputable def kA (W F : V) : Bool := band (vp1k W W F) (band (vgk (vwide (vreso W F)) (vwide W) tM) (band (vok (vp1 W W F) (vHalf, .zero) tM)
  (vgk (vwide (vquo (vmul (vreso W F) F) vHalf)) (wquo (wmul (vwide W) (vwide F)) t5) tC)))
noncomputable def wA (W F : Nat) : Bool := tuneOk 1 1 1 lR lG (lC F) (Int.ofNat 0) W && (impOk 1 1 1 lR (lT W F) (lC F) W && ((!loopNo 1 1 1 lR (lT W F) (lC F) (Int.ofNat 0)) && (!qualNo 1 1 1 lR (lT W F) (lC F) (Int.ofNat 0))))
theorem reso_eq (W F : Nat) : reso 1 (lT W F) (lC F) (Int.ofNat 0) = fcvt .f64 .f32 (fsqrt (fcvt .f32 .f64 (fop .quo .f32 (fop .mul .f32 (fop .mul .f32 W W) F) F))) := by kernel_rfl
theorem qual_eq (W F : Nat) : qual 1 lR (lT W F) (lC F) (Int.ofNat 0) = fop .quo .f32 (fop .mul .f32 (reso 1 (lT W F) (lC F) (Int.ofNat 0)) F) (can .f32 1056964608) := by kernel_rfl
theorem rep_reso {W F : Nat} {vW vF : V} (hW : Rep .f32 W vW) (hF : Rep .f32 F vF) : Rep .f32 (reso 1 (lT W F) (lC F) (Int.ofNat 0)) (vreso vW vF) := rep_is (reso_eq W F) (rep_vsqrt (rep_quo (rep_mul (rep_mul hW hW) hF) hF))
theorem rep_qual {W F : Nat} {vW vF : V} (hW : Rep .f32 W vW) (hF : Rep .f32 F vF) : Rep .f32 (qual 1 lR (lT W F) (lC F) (Int.ofNat 0)) (vquo (vmul (vreso vW vF) vF) vHalf) := rep_is (qual_eq W F) (rep_quo (rep_mul (rep_reso hW hF) hF) rep_half)
theorem c3a_ok {W F : Nat} {vW vF : V} (hW : Rep .f32 W vW) (hF : Rep .f32 F vF) (h : kA vW vF = true) (hw : wA W F = true) {x : Bool} (hx : x = true) : c3a W F x = true := by
  unfold kA at h
  obtain ⟨h1, h⟩ := band_t h
  obtain ⟨h2, h⟩ := band_t h
  obtain ⟨h3, h4⟩ := band_t h
  simp only [wA, Bool.and_eq_true, Bool.not_eq_true'] at hw
  obtain ⟨p1, p2⟩ := port1 hW hW hF h1
  have g1 : (forder .f64 (gap (fcvt .f32 .f64 (reso 1 (lT W F) (lC F) (Int.ofNat 0))) (fcvt .f32 .f64 W)) (can .f64 4562254508917369340) == some .gt) = false := gap_ok (rep_wide (rep_reso hW hF)) (rep_wide hW) rep_tM h2
  have g2 : (forder .f64 (off (portR 1 lR (lT W F) (lC F) W) (portI 1 lR (lT W F) (lC F) W) (can .f32 1056964608) (can .f32 0)) (can .f64 4562254508917369340) == some .gt) = false := off4 p2 (rc_mk rep_half rep_zero) rep_tM h3
  have g3 : (forder .f64 (gap (fcvt .f32 .f64 (qual 1 lR (lT W F) (lC F) (Int.ofNat 0))) (fop .quo .f64 (fop .mul .f64 (fcvt .f32 .f64 W) (fcvt .f32 .f64 F)) (can .f64 4602678819172646912))) (can .f64 4576918229304087675) == some .gt) = false := gap_ok (rep_wide (rep_qual hW hF)) (rep_wquo (rep_wmul (rep_wide hW) (rep_wide hF)) rep_t5) rep_tC h4
  unfold c3a
  simp only [hw, p1, hx, cond_false, g1, g2, g3, Bool.not_false, Bool.and_self, Bool.not_true, cond_true]
noncomputable def vsW (W : V) (k : Nat) : V := vadd W (vmul tS (tI k))
noncomputable def kO (W F : V) (k : Nat) : Bool := band (vp1k (vsW W k) W F) (vgood (vcsz (vp1 (vsW W k) W F)))
noncomputable def vlZ (W F : V) (k : Nat) : V := vcsz (vp1 (vsW W k) W F)
noncomputable def kC (W F : V) : Bool := band (kO W F 0) (band (kO W F 1) (band (kO W F 2) (band (kO W F 3) (band (vp1k W W F) (band (vgood (vcsz (vp1 W W F))) (band (vgk (vwide (vlZ W F 0)) (vwide (vcsz (vp1 W W F))) tM)
  (band (vGe (vlZ W F 0) (vsub (vlZ W F 0) tL)) (band (vGe (vlZ W F 1) (vsub (vlZ W F 0) tL)) (band (vGe (vlZ W F 2) (vsub (vlZ W F 0) tL)) (vGe (vlZ W F 3) (vsub (vlZ W F 0) tL)))))))))))
noncomputable def wC (W F : Nat) : Bool := valid 1 1 1 lR (lT W F) (lC F) && ((above (scW W (can .f32 1048576000) 0) && above (scW W (can .f32 1048576000) 1)) && (above (scW W (can .f32 1048576000) 2) && above (scW W (can .f32 1048576000) 3)))
theorem rep_scW {W k : Nat} {vW : V} (hW : Rep .f32 W vW) : Rep .f32 (scW W (can .f32 1048576000) k) (vsW vW k) := rep_add hW (rep_mul rep_tS (rep_tI k))
theorem lZ_eq (W F k : Nat) : lZ W F k = sz (portR 1 lR (lT W F) (lC F) (scW W (can .f32 1048576000) k)) (portI 1 lR (lT W F) (lC F) (scW W (can .f32 1048576000) k)) := by kernel_rfl
theorem lO_ok {W F k : Nat} {vW vF : V} (hW : Rep .f32 W vW) (hF : Rep .f32 F vF) (h : kO vW vF k = true) (hv : valid 1 1 1 lR (lT W F) (lC F) = true) (ha : above (scW W (can .f32 1048576000) k) = true) : lO W F k = true ∧ Rep .f32 (lZ W F k) (vlZ vW vF k) := by
  obtain ⟨h1, h2⟩ := band_t h
  obtain ⟨p1, p2⟩ := port1 (rep_scW (k := k) hW) hW hF h1
  refine ⟨?_, rep_is (lZ_eq W F k) (sz4 p2)⟩
  have hz := szOk4 p2 h2
  unfold lO scOk impOk
  simp only [hv, ha, p1, hz, Bool.and_self]
theorem c3c_ok {W F : Nat} {vW vF : V} (hW : Rep .f32 W vW) (hF : Rep .f32 F vF) (h : kC vW vF = true) (hw : wC W F = true) : c3c W F = true := by
  obtain ⟨h0, h⟩ := band_t h
  obtain ⟨h1, h⟩ := band_t h
  obtain ⟨h2, h⟩ := band_t h
  obtain ⟨h3, h⟩ := band_t h
  obtain ⟨hp, h⟩ := band_t h
  obtain ⟨hs, h⟩ := band_t h
  obtain ⟨hg, h⟩ := band_t h
  obtain ⟨l0, h⟩ := band_t h
  obtain ⟨l1, h⟩ := band_t h
  obtain ⟨l2, l3⟩ := band_t h
  simp only [wC, Bool.and_eq_true] at hw
  obtain ⟨hv, ⟨a0, a1⟩, a2, a3⟩ := hw
  obtain ⟨o0, z0⟩ := lO_ok hW hF h0 hv a0
  obtain ⟨o1, z1⟩ := lO_ok hW hF h1 hv a1
  obtain ⟨o2, z2⟩ := lO_ok hW hF h2 hv a2
  obtain ⟨o3, z3⟩ := lO_ok hW hF h3 hv a3
  obtain ⟨p1, p2⟩ := port1 hW hW hF hp
  have s1 : szOk (portR 1 lR (lT W F) (lC F) W) (portI 1 lR (lT W F) (lC F) W) = true := szOk4 p2 hs
  have g : (forder .f64 (gap (fcvt .f32 .f64 (lZ W F 0)) (fcvt .f32 .f64 (sz (portR 1 lR (lT W F) (lC F) W) (portI 1 lR (lT W F) (lC F) W)))) (can .f64 4562254508917369340) == some .gt) = false := gap_ok (rep_wide z0) (rep_wide (sz4 p2)) rep_tM hg
  have rt := rep_sub z0 rep_tL
  have t0 : ltZ (lZ W F 0) (lZ W F 0) = false := vGe_of z0 rt l0
  have t1 : ltZ (lZ W F 1) (lZ W F 0) = false := vGe_of z1 rt l1
  have t2 : ltZ (lZ W F 2) (lZ W F 0) = false := vGe_of z2 rt l2
  have t3 : ltZ (lZ W F 3) (lZ W F 0) = false := vGe_of z3 rt l3
  unfold c3c
  rw [hv, o0, o1, o2, o3, s1, g, t0, t1, t2, t3]
  rfl
/-! ### Two loops -/
noncomputable def vQ : V := vof .f32 (can .f32 1048576000)
theorem rep_tQ : Rep .f32 (can .f32 1048576000) vQ := rep_of .f32 _
noncomputable def vM (F S K : V) : V := vmul K (vsqrt (vmul F S))
noncomputable def z00 (W F : V) : VC := (vQ, vsub (vmul W F) (vquo .zero W))
noncomputable def z01 (W F S K : V) : VC := (.zero, vmul W (vM F S K))
noncomputable def z11 (W S : V) : VC := (vHalf, vsub (vmul W S) (vquo .zero W))
noncomputable def vp2 (W F S K : V) : VC := vcov vE (v2x (z00 W F) (z01 W F S K) (z01 W F S K) (z11 W S) vE (.zero, .zero))
noncomputable def vref (W F S K : V) : VC := vcov (vmul (vmul W (vM F S K)) (vmul W (vM F S K)), .zero) (z11 W S)
noncomputable def kB (W F S K : V) : Bool := band (v2k (z00 W F) (z01 W F S K) (z01 W F S K) (z11 W S) vE (.zero, .zero)) (band (vcg (vp2 W F S K)) (band (vcg (vref W F S K))
  (vok (vadd (z00 W F).1 (vref W F S K).1, vadd (z00 W F).2 (vref W F S K).2) (vp2 W F S K) tC)))
noncomputable def kD (F S K : V) : Bool := vgk (vwide (vquo (vM F S K) (vsqrt (vmul F S)))) (vwide K) tM
theorem zR20 : zR 2 lTR 0 = can .f32 1048576000 := by kernel_rfl
theorem zR21 : zR 2 lTR 1 = can .f32 0 := by kernel_rfl
theorem zR22 : zR 2 lTR 2 = can .f32 0 := by kernel_rfl
theorem zR23 : zR 2 lTR 3 = can .f32 1056964608 := by kernel_rfl
theorem zI20 (W F S K : Nat) : zI 2 lTG (trC F S K) W 0 = fop .sub .f32 (fop .mul .f32 W F) (fop .quo .f32 (can .f32 0) W) := by kernel_rfl
theorem zI21 (W F S K : Nat) : zI 2 lTG (trC F S K) W 1 = fop .mul .f32 W (fop .mul .f32 K (root32 (fop .mul .f32 F S))) := by kernel_rfl
theorem zI22 (W F S K : Nat) : zI 2 lTG (trC F S K) W 2 = fop .mul .f32 W (fop .mul .f32 K (root32 (fop .mul .f32 F S))) := by kernel_rfl
theorem zI23 (W F S K : Nat) : zI 2 lTG (trC F S K) W 3 = fop .sub .f32 (fop .mul .f32 W S) (fop .quo .f32 (can .f32 0) W) := by kernel_rfl
theorem coup_eq (F S K : Nat) : coup 2 (trC F S K) (Int.ofNat 0) (Int.ofNat 1) = fop .quo .f32 (fop .mul .f32 K (root32 (fop .mul .f32 F S))) (root32 (fop .mul .f32 F S)) := by kernel_rfl
theorem refX_eq (F S K W : Nat) : refX (trC F S K) W = fop .mul .f32 (fop .mul .f32 W (fop .mul .f32 K (root32 (fop .mul .f32 F S)))) (fop .mul .f32 W (fop .mul .f32 K (root32 (fop .mul .f32 F S)))) := by kernel_rfl
theorem zero_rep {x : Nat} (h : x = can .f32 0) : Rep .f32 x .zero := h ▸ rep_zero
theorem c3b_ok {W F S K : Nat} {vW vF vS vK : V} (hW : Rep .f32 W vW) (hF : Rep .f32 F vF) (hS : Rep .f32 S vS) (hK : Rep .f32 K vK) (h : kB vW vF vS vK = true) (hd : kD vF vS vK = true) (ha : above W = true) (hw : trOk F S K (can .f32 1048576000) (can .f32 1056964608) = true) {x : Bool} (hx : x = true) : c3b W F S K x = true := by
  obtain ⟨h1, h⟩ := band_t h
  obtain ⟨h2, h⟩ := band_t h
  obtain ⟨h3, h4⟩ := band_t h
  have hM : Rep .f32 (fop .mul .f32 K (root32 (fop .mul .f32 F S))) (vM vF vS vK) := rep_mul hK (rep_vsqrt (rep_mul hF hS))
  have r00 : RC (zR 2 lTR 0, zI 2 lTG (trC F S K) W 0) (z00 vW vF) := rc_mk (rep_is zR20 rep_tQ) (rep_is (zI20 W F S K) (rep_sub (rep_mul hW hF) (rep_quo rep_zero hW)))
  have r01 : RC (zR 2 lTR 1, zI 2 lTG (trC F S K) W 1) (z01 vW vF vS vK) := rc_mk (rep_is zR21 rep_zero) (rep_is (zI21 W F S K) (rep_mul hW hM))
  have r10 : RC (zR 2 lTR 2, zI 2 lTG (trC F S K) W 2) (z01 vW vF vS vK) := rc_mk (rep_is zR22 rep_zero) (rep_is (zI22 W F S K) (rep_mul hW hM))
  have r11 : RC (zR 2 lTR 3, zI 2 lTG (trC F S K) W 3) (z11 vW vS) := rc_mk (rep_is zR23 rep_half) (rep_is (zI23 W F S K) (rep_sub (rep_mul hW hS) (rep_quo rep_zero hW)))
  have rE1 : RC (eU 1, eV 1) (.zero, .zero) := rc_mk (zero_rep (by decide +kernel)) (zero_rep (by decide +kernel))
  obtain ⟨s1, s2⟩ := v2_spec (x := zR 2 lTR) (y := zI 2 lTG (trC F S K) W) (u := eU) (v := eV) r00 r01 r10 r11 rcE rE1 h1
  have p2 : RC (portR 2 lTR lTG (trC F S K) W, portI 2 lTR lTG (trC F S K) W) (vp2 vW vF vS vK) := rc_is (portR_eq ..) (portI_eq ..) (ov4 rcE s2)
  have p1 : portOk 2 lTR lTG (trC F S K) W = true := by rw [portOk_eq, s1, ovOk4 rcE s2 h2]; rfl
  have rx : RC (refX (trC F S K) W, can .f32 0) (vmul (vmul vW (vM vF vS vK)) (vmul vW (vM vF vS vK)), .zero) := rc_mk (rep_is (refX_eq F S K W) (rep_mul (rep_mul hW hM) (rep_mul hW hM))) rep_zero
  have q1 : refOk lTR lTG (trC F S K) W = true := ovOk4 rx r11 h3
  have q2 : RC (refR lTR lTG (trC F S K) W, refI lTR lTG (trC F S K) W) (vadd (z00 vW vF).1 (vref vW vF vS vK).1, vadd (z00 vW vF).2 (vref vW vF vS vK).2) := add4 r00 (ov4 rx r11)
  have g2 : (forder .f64 (off (refR lTR lTG (trC F S K) W) (refI lTR lTG (trC F S K) W) (portR 2 lTR lTG (trC F S K) W) (portI 2 lTR lTG (trC F S K) W)) (can .f64 4576918229304087675) == some .gt) = false := off4 q2 p2 rep_tC h4
  have rc : Rep .f32 (coup 2 (trC F S K) (Int.ofNat 0) (Int.ofNat 1)) (vquo (vM vF vS vK) (vsqrt (vmul vF vS))) := rep_is (coup_eq F S K) (rep_quo hM (rep_vsqrt (rep_mul hF hS)))
  have g1 : (forder .f64 (gap (fcvt .f32 .f64 (coup 2 (trC F S K) (Int.ofNat 0) (Int.ofNat 1))) (fcvt .f32 .f64 K)) (can .f64 4562254508917369340) == some .gt) = false := gap_ok (rep_wide rc) (rep_wide hK) rep_tM hd
  have hv : valid 2 2 4 lTR lTG (trC F S K) = true := hw
  have hi : impOk 2 2 4 lTR lTG (trC F S K) W = true := by
    show (valid 2 2 4 lTR lTG (trC F S K) && above W) = true
    rw [hv, ha]; rfl
  have hn : coupNo 2 2 4 lTR lTG (trC F S K) (Int.ofNat 0) (Int.ofNat 1) = false := by
    unfold coupNo
    rw [hv, show inn 2 (Int.ofNat 0) = true by decide +kernel, show inn 2 (Int.ofNat 1) = true by decide +kernel]
    rfl
  unfold c3b
  simp only [hw, hi, q1, p1, hn, hx, cond_false, g1, g2, Bool.not_false, Bool.and_self, Bool.not_true, cond_true]
end Go.Fw.T1

/-
  The law of loops that are tuned: words that the kernel evaluates.
-/
namespace Go.Fw.T1
open Go.Proofs
set_option maxRecDepth 100000 in
theorem wAC_all : allUpTo (fun i => allUpTo (fun j => band (wA (lW (Int.ofNat i)) (lF (Int.ofNat j))) (wC (lW (Int.ofNat i)) (lF (Int.ofNat j)))) 8) 12 = true := by decide +kernel
set_option maxRecDepth 100000 in
theorem above_all : allUpTo (fun i => above (lW (Int.ofNat i))) 12 = true := by decide +kernel
end Go.Fw.T1

/-
  The law of loops that are tuned: what the kernel evaluates, for a loop alone.
-/
namespace Go.Fw.T1
open Go.Proofs
noncomputable def vWt (v : Nat) : V := vof .f32 (lW (Int.ofNat v))
noncomputable def vFt (v : Nat) : V := vof .f32 (lF (Int.ofNat v))
noncomputable def vKt (v : Nat) : V := vof .f32 (lK (Int.ofNat v))
set_option maxRecDepth 100000 in
theorem kAC_all : allUpTo (fun i => allUpTo (fun j => band (kA (vWt i) (vFt j)) (kC (vWt i) (vFt j))) 8) 12 = true := by decide +kernel
end Go.Fw.T1
