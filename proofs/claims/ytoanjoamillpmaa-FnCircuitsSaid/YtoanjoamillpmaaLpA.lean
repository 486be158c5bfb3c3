/-
  The seat's tables.
-/
import Derived.Test.YtoanjoamillpmaaFwC
import Derived.Test.YtoanjoamillpmaaChecked
import Derived.Test.YtoanjoamillpmaaFwD

namespace Go.Fw.T1
open Go.Proofs
def types : List Nat := [24, 36, 4, 3, 2, 84, 105, 5, 22, 26, 27, 28, 33, 46, 88, 91, 85, 86]
def tab : List (Nat × TI) :=
  [(24, { bytes := 4, zero := [A.flt .f32 0], fk := some .f32 }),
    (36, { bytes := 8, zero := [A.flt .f64 0], fk := some .f64 }),
    (4, { bytes := 1, zero := [A.bool false], isBool := true }),
    (3, { bytes := 8, zero := [A.int .i64 (Int.ofNat 0)], ik := some IntKind.i64 }),
    (2, { bytes := 8, zero := [A.int .i64 (Int.ofNat 0)], ik := some IntKind.i64 }),
    (84, { bytes := 8, zero := [A.int IntKind.u64 (Int.ofNat 0)], ik := some IntKind.u64 }),
    (105, { bytes := 4, zero := [A.int IntKind.u32 (Int.ofNat 0)], ik := some IntKind.u32 }),
    (5, { bytes := 1, zero := [A.int .u8 (Int.ofNat 0)], ik := some IntKind.u8 }),
    (22, { bytes := 24, zero := [A.emp], elem := some 5 }),
    (26, { bytes := 24, zero := [A.emp], elem := some 24 }),
    (27, { agg := true, size := 3, bytes := 72, zero := [A.emp, A.emp, A.emp], fields := [(0, 1), (1, 1), (2, 1)] }),
    (28, { agg := true, size := 3, bytes := 72, zero := [A.emp, A.emp, A.emp], fields := [(0, 1), (1, 1), (2, 1)] }),
    (33, { bytes := 8, zero := [A.cpx .f32 0 0], ck := some .f32 }),
    (46, { bytes := 24, zero := [A.emp], elem := some 33 }),
    (88, { bytes := 24, zero := [A.emp], elem := some 46 }),
    (91, { bytes := 24, zero := [A.emp], elem := some 26 }),
    (85, { agg := true, size := 3, bytes := 40, zero := [A.emp, A.int .i64 (Int.ofNat 0), A.int IntKind.u64 (Int.ofNat 0)], fields := [(0, 1), (1, 1), (2, 1)] }),
    (86, { agg := true, size := 3, bytes := 40, zero := [A.emp, A.int .i64 (Int.ofNat 0), A.int IntKind.u64 (Int.ofNat 0)], fields := [(0, 1), (1, 1), (2, 1)] })]
theorem tab_eq : tabOf Try.prog types = some tab := by kernel_rfl
theorem mixed : Try.prog.follows .mixedOrders = true := by kernel_rfl
end Go.Fw.T1

/-
  Bytes that come in.
-/
namespace Go.Fw.T1
open Go.Proofs
open Go.RowKit (Below)
theorem own : ownKnob Try.prog.godebug = none := by kernel_rfl
theorem laidOut : laidOutB Try.prog = true := by kernel_rfl
section
variable {H : Type} {enc : TypeId × Value → H} {w : World} {spare : Nat → Bool} {held : Bool}
set_option maxRecDepth 100000 in
theorem in_bytesA {r : Reach} {base : Nat} {v : Value} {x : DataW H × List MemPlace} (hv : Value.okWide Try.prog w r base 22 v) (h : ∃ fuel, DataW.trod enc Try.prog w 0 spare held fuel 22 v.cells.toList = some x) :
    ∃ (n : Nat) (b : Nat → Nat), (∀ i, b i < 256) ∧ RelD w (fun b => b < w.heap.size) v (.ro 1 n (.gen fun i => .int .u8 (Int.ofNat (b i)))) := by
  obtain ⟨fuel, h⟩ := h
  obtain ⟨a, l, c, rfl⟩ := Go.WideShapes.okWide_slice Try.underlying22 hv
  obtain ⟨u, n, b, e, hb, hr⟩ := in_bytes Try.underlying22 Try.underlying5 (by kernel_rfl) h
  have e' : [Value.slice a l c] = [u] := e
  simp only [List.cons.injEq, and_true] at e'
  subst e'
  exact ⟨n, b, hb, hr⟩
end
end Go.Fw.T1

/-
  Slices of floats: copied.
-/
namespace Go.Fw.T1
open Go.Proofs
theorem wrap_small {x : Int} (h0 : 0 ≤ x) (h : x ≤ 4611686018427387904) : IntKind.i64.wrap x = x := by
  simp [IntKind.wrap, IntKind.bits, IntKind.signed]
  omega
end Go.Fw.T1

/-
  Floats compared.
-/
namespace Go.Fw.T1
open Go.Proofs
def xts : List (Nat × Ext) := [(72, .sqrt), (75, .bits64)]
theorem xts_ok (f : Nat) (e : Ext) (h : (f, e) ∈ xts) : ∃ fn, XtOK Try.prog f e fn := by
  simp only [xts, List.mem_cons, Prod.mk.injEq, List.not_mem_nil, or_false] at h
  rcases h with ⟨rfl, rfl⟩ | ⟨rfl, rfl⟩
  · exact ⟨_, Try.func72, by kernel_rfl, by kernel_rfl, by kernel_rfl, by kernel_rfl⟩
  · exact ⟨_, Try.func75, by kernel_rfl, by kernel_rfl, by kernel_rfl, by kernel_rfl⟩
theorem no_fts (P : Program) (f : Nat) (fn : Func) (h : (f, fn) ∈ ([] : List (Nat × Func))) : P.funcs[f]? = some fn ∧ (fn.name == "runtime.NumGoroutine") = false := by cases h
noncomputable def cfg0 : Cfg := mkCfg tab [] xts (look [])
theorem cfg0_ok : CfgOK Try.prog cfg0 := cfg_ok tab_eq (no_fts _) xts_ok env_nil mixed
noncomputable def env0 : List (Nat × (List A → Option (Bool × A))) := []
theorem env0_ok : EnvOK Try.prog (look env0) := env_nil
noncomputable def env1 : List (Nat × (List A → Option (Bool × A))) := (74, auto cfg0 Try.f74) :: env0
theorem env1_ok : EnvOK Try.prog (look env1) := env_cons (auto_at cfg0_ok Try.func74 (by kernel_rfl) (by kernel_rfl)) env0_ok
noncomputable def cfg1 : Cfg := mkCfg tab [] xts (look env1)
theorem cfg1_ok : CfgOK Try.prog cfg1 := cfg_ok tab_eq (no_fts _) xts_ok env1_ok mixed
end Go.Fw.T1

/-
  'eqFloat32S': the law's comparison of two slices.
-/
namespace Go.Fw.T1
open Go.Proofs
theorem lt_dec {k m : Nat} (h : k < m) : decide (Int.ofNat k < Int.ofNat m) = true := by simp; omega
theorem ge_dec {k m : Nat} (h : m ≤ k) : decide (Int.ofNat k < Int.ofNat m) = false := by simp; omega
end Go.Fw.T1

/-
  The leaves: functions of numbers.
-/
namespace Go.Fw.T1
open Go.Proofs
theorem of_auto {cfg : Cfg} (hc : CfgOK Try.prog cfg) {f : Nat} {fn : Func} {lp : Nat → Option (St → T)} (hlp : LpOK Try.prog lp (bodyOf fn)) (hf : Try.prog.funcs[f]? = some fn) (hb : fn.body.isSome = true) (hn : (fn.name == "runtime.NumGoroutine") = false)
    {s : List A → Option (Bool × A)} (h : ∀ ds c r, s ds = some (c, r) → c = true → ∃ c', autoLp cfg lp fn ds = some (c', r) ∧ c' = true) : EnvAt Try.prog f s :=
  ⟨⟨fn, hf, hb, hn⟩, fun ds c r hs hct => by
    obtain ⟨c', h1, h2⟩ := h ds c r hs hct
    exact (autoLp_at hc hlp hf hb hn).2 ds c' r h1 h2⟩
def nan (x : Nat) : Bool := forder .f32 x x != some .eq
def fin (x : Nat) : Bool := forder .f32 (fop .sub .f32 x x) (can .f32 0) == some .eq
def lt0 (x : Nat) : Bool := forder .f32 x (can .f32 0) == some .lt
def gt0 (x : Nat) : Bool := forder .f32 x (can .f32 0) == some .gt
def ge0 (x : Nat) : Bool := forder .f32 x (can .f32 0) == some .gt || forder .f32 x (can .f32 0) == some .eq
def bad (x : Nat) : Bool := bif !fin x then true else lt0 x
def least (x : Nat) : Bool := bif fin x then ge0 x else false
def above (x : Nat) : Bool := bif fin x then gt0 x else false
def sFin : List A → Option (Bool × A)
  | [.flt .f32 x] => some (true, .bool (fin x))
  | _ => none
def sBad : List A → Option (Bool × A)
  | [.flt .f32 x] => some (true, .bool (bad x))
  | _ => none
def sNotFin : List A → Option (Bool × A)
  | [.flt .f32 x] => some (true, .bool (!fin x))
  | _ => none
def sAbove : List A → Option (Bool × A)
  | [.flt .f32 x] => some (true, .bool (above x))
  | _ => none
theorem flt1 {g : Nat → Bool × A} {ds : List A} {c : Bool} {r : A} {s : List A → Option (Bool × A)} (hs : ∀ ds, s ds = match ds with | [.flt .f32 x] => some (g x) | _ => none) (h : s ds = some (c, r)) : ∃ x, ds = [.flt .f32 x] ∧ g x = (c, r) := by
  rw [hs] at h
  split at h
  · injection h with h; exact ⟨_, rfl, h⟩
  · cases h
theorem s87_at : EnvAt Try.prog 56 sFin := of_auto cfg1_ok (lp_none _) Try.func56 (by kernel_rfl) (by kernel_rfl) fun ds c r h _ => by
  obtain ⟨x, rfl, e⟩ := flt1 (g := fun x => (true, .bool (fin x))) (fun ds => rfl) h
  injection e with e1 e2; subst e2
  exact ⟨_, (by kernel_rfl : autoLp cfg1 (fun _ => none) Try.f56 [.flt .f32 x] = some (true, .bool (fin x))), rfl⟩
noncomputable def env2 : List (Nat × (List A → Option (Bool × A))) := (56, sFin) :: env1
theorem env2_ok : EnvOK Try.prog (look env2) := env_cons s87_at env1_ok
noncomputable def cfg2 : Cfg := mkCfg tab [] xts (look env2)
theorem cfg2_ok : CfgOK Try.prog cfg2 := cfg_ok tab_eq (no_fts _) xts_ok env2_ok mixed
theorem s86_at : EnvAt Try.prog 67 sBad := of_auto cfg2_ok (lp_none _) Try.func67 (by kernel_rfl) (by kernel_rfl) fun ds c r h _ => by
  obtain ⟨x, rfl, e⟩ := flt1 (g := fun x => (true, .bool (bad x))) (fun ds => rfl) h
  injection e with e1 e2; subst e2
  exact ⟨_, (by kernel_rfl : autoLp cfg2 (fun _ => none) Try.f67 [.flt .f32 x] = some (true, .bool (bad x))), rfl⟩
theorem s88_at : EnvAt Try.prog 68 sNotFin := of_auto cfg2_ok (lp_none _) Try.func68 (by kernel_rfl) (by kernel_rfl) fun ds c r h _ => by
  obtain ⟨x, rfl, e⟩ := flt1 (g := fun x => (true, .bool (!fin x))) (fun ds => rfl) h
  injection e with e1 e2; subst e2
  exact ⟨_, (by kernel_rfl : autoLp cfg2 (fun _ => none) Try.f68 [.flt .f32 x] = some (true, .bool (!fin x))), rfl⟩
theorem s66_at : EnvAt Try.prog 31 sAbove := of_auto cfg2_ok (lp_none _) Try.func31 (by kernel_rfl) (by kernel_rfl) fun ds c r h _ => by
  obtain ⟨x, rfl, e⟩ := flt1 (g := fun x => (true, .bool (above x))) (fun ds => rfl) h
  injection e with e1 e2; subst e2
  exact ⟨_, (by kernel_rfl : autoLp cfg2 (fun _ => none) Try.f31 [.flt .f32 x] = some (true, .bool (above x))), rfl⟩
noncomputable def env3 : List (Nat × (List A → Option (Bool × A))) := (67, sBad) :: (68, sNotFin) :: (31, sAbove) :: (40, auto cfg2 Try.f40) :: (36, auto cfg2 Try.f36) :: env2
theorem env3_ok : EnvOK Try.prog (look env3) := env_cons s86_at (env_cons s88_at (env_cons s66_at (env_cons (auto_at cfg2_ok Try.func40 (by kernel_rfl) (by kernel_rfl)) (env_cons (auto_at cfg2_ok Try.func36 (by kernel_rfl) (by kernel_rfl)) env2_ok))))
noncomputable def cfg3 : Cfg := mkCfg tab [] xts (look env3)
theorem cfg3_ok : CfgOK Try.prog cfg3 := cfg_ok tab_eq (no_fts _) xts_ok env3_ok mixed
theorem auto_fit {x : Option (Bool × A)} {c' : Bool} {r' r : A} (h : x = some (c', r')) (h1 : r' = r) (h2 : c' = true) : ∃ c', x = some (c', r) ∧ c' = true := ⟨c', by rw [h, h1], h2⟩
theorem condT {b : Bool} {X Y : Prop} (h : b = true) (hx : X) : cond b X Y := by subst h; exact hx
theorem condE {b : Bool} {X Y : Prop} (h : b = false) (hy : Y) : cond b X Y := by subst h; exact hy
theorem wrap_succ {k : Nat} (h : k ≤ 4611686018427387000) : IntKind.i64.wrap (Int.ofNat k + Int.ofNat 1) = Int.ofNat (k + 1) := wrap_small (by simp; omega) (by simp; omega)
end Go.Fw.T1

/-
  Loops of the library's search functions.
-/
namespace Go.Fw.T1
open Go.Proofs
noncomputable def I97a (n : Nat) (r : Nat → Nat) (k : Nat) : List A := [.ro 1 n (.flts .f32 r), .fn 67 [], .int .i64 (Int.ofNat 0), .int .i64 (Int.ofNat n), .int .i64 (Int.ofNat k)]
theorem round97a (n : Nat) (r : Nat → Nat) (k : Nat) (L : XK → List A → List (Option O) → Prop) :
    ((exec cfg3 (fun _ => true) (fun _ => none) 0 1000 (loopOf Try.f73 0) (litSt Try.f73.ntmps 64 [0, 1, 4, 7, 8] [] (I97a n r k) [])).rt [0, 1, 4, 7, 8] []).Ok L =
    bif decide (Int.ofNat k < Int.ofNat n) then
      bif decide (Int.ofNat k < Int.ofNat n) then
        bif bad (r k) then
          L (XK.ret) [A.ro 1 n (Row.flts .f32 r), A.fn 67 [], A.int .i64 (Int.ofNat k), A.int .i64 (Int.ofNat n), A.int .i64 (Int.ofNat k)] []
        else
          L (XK.normal) [A.ro 1 n (Row.flts .f32 r), A.fn 67 [], A.int .i64 (Int.ofNat 0), A.int .i64 (Int.ofNat n), A.int .i64 (IntKind.i64.wrap (Int.ofNat k + Int.ofNat 1))] []
      else
        False
    else
      L (XK.exit 0) [A.ro 1 n (Row.flts .f32 r), A.fn 67 [], A.int .i64 (Int.ofNat 0), A.int .i64 (Int.ofNat n), A.int .i64 (Int.ofNat k)] [] := by kernel_rfl
noncomputable def F97a : List A → List (Option O) → Option R3
  | [.ro 1 n (.flts .f32 r), .fn 67 [], .int .i64 0, .int .i64 l, .int .i64 0], [] => some (.ite (decide (l = Int.ofNat n) && Nat.ble n 4611686018427387000) (.ite (allUpTo (fun k => !bad (r k)) (n)) (.leaf .normal (I97a n r (n)) []) (.leaf (.ret) ((fun k => [A.ro 1 n (Row.flts .f32 r), A.fn 67 [], A.int .i64 (Int.ofNat k), A.int .i64 (Int.ofNat n), A.int .i64 (Int.ofNat k)]) (firstIdx (fun k => !bad (r k)) (n))) [])) .fail)
  | _, _ => none
theorem loop97a : CodeOK Try.prog (fun _ σ => sumAt Try.f73.ntmps 64 [0, 1, 4, 7, 8] [] F97a σ) (.block 0 (.loop (loopOf Try.f73 0))) := by
  refine block_ok (own := fun _ => true) (lp := (fun _ => none)) (un := 0) (fuel := 1000) cfg3_ok (lp_none _) fun az os R hF hok => ?_
  unfold F97a at hF
  split at hF
  · rename_i n r l
    injection hF with hF
    subst hF
    have hg := hok.guard
    have hg' := hg
    simp only [Bool.and_eq_true, Nat.ble_eq, Nat.beq_eq, decide_eq_true_eq] at hg'
    obtain ⟨rfl, hn⟩ := hg'
    refine for_fact0 (fun k => !bad (r k)) (n) (I97a n r) _ (.ret) (fun k => [A.ro 1 n (Row.flts .f32 r), A.fn 67 [], A.int .i64 (Int.ofNat k), A.int .i64 (Int.ofNat n), A.int .i64 (Int.ofNat k)]) (fun k => [A.ro 1 n (Row.flts .f32 r), A.fn 67 [], A.int .i64 (Int.ofNat k), A.int .i64 (Int.ofNat n), A.int .i64 (Int.ofNat k)]) (I97a n r (n)) rfl (fun _ => rfl) (fun _ => ALe.self _) (fun _ => rfl) (ALe.self _) rfl (fun h => by cases h) (fun k hk L h1 h2 h3 => ?_) fun L hL => ?_
    · rw [round97a]
      by_cases hkm : k < n
      · refine condT (lt_dec hkm) ?_
        refine condT (lt_dec hkm) ?_
        cases hs : bad (r k)
        · have := h1 hkm (by rw [hs]; rfl)
          rw [wrap_succ (by omega)]
          exact this
        · exact h2 hkm (by rw [hs]; rfl)
      · refine condE (ge_dec (by omega)) ?_
        obtain rfl : k = n := by omega
        exact h3 rfl
    · exact ⟨fun h => (hL.1 hg).1 h, fun N hN hf hall => by
        have := (hL.1 hg).2 (allUpTo_false hN hf)
        rw [firstIdx_eq hN hf hall] at this
        exact this⟩
  · cases hF
noncomputable def I97b (n : Nat) (r : Nat → Nat) (k : Nat) : List A := [.ro 1 n (.flts .f32 r), .fn 68 [], .int .i64 (Int.ofNat 0), .int .i64 (Int.ofNat n), .int .i64 (Int.ofNat k)]
theorem round97b (n : Nat) (r : Nat → Nat) (k : Nat) (L : XK → List A → List (Option O) → Prop) :
    ((exec cfg3 (fun _ => true) (fun _ => none) 0 1000 (loopOf Try.f73 0) (litSt Try.f73.ntmps 64 [0, 1, 4, 7, 8] [] (I97b n r k) [])).rt [0, 1, 4, 7, 8] []).Ok L =
    bif decide (Int.ofNat k < Int.ofNat n) then
      bif decide (Int.ofNat k < Int.ofNat n) then
        bif !fin (r k) then
          L (XK.ret) [A.ro 1 n (Row.flts .f32 r), A.fn 68 [], A.int .i64 (Int.ofNat k), A.int .i64 (Int.ofNat n), A.int .i64 (Int.ofNat k)] []
        else
          L (XK.normal) [A.ro 1 n (Row.flts .f32 r), A.fn 68 [], A.int .i64 (Int.ofNat 0), A.int .i64 (Int.ofNat n), A.int .i64 (IntKind.i64.wrap (Int.ofNat k + Int.ofNat 1))] []
      else
        False
    else
      L (XK.exit 0) [A.ro 1 n (Row.flts .f32 r), A.fn 68 [], A.int .i64 (Int.ofNat 0), A.int .i64 (Int.ofNat n), A.int .i64 (Int.ofNat k)] [] := by kernel_rfl
noncomputable def F97b : List A → List (Option O) → Option R3
  | [.ro 1 n (.flts .f32 r), .fn 68 [], .int .i64 0, .int .i64 l, .int .i64 0], [] => some (.ite (decide (l = Int.ofNat n) && Nat.ble n 4611686018427387000) (.ite (allUpTo (fun k => fin (r k)) (n)) (.leaf .normal (I97b n r (n)) []) (.leaf (.ret) ((fun k => [A.ro 1 n (Row.flts .f32 r), A.fn 68 [], A.int .i64 (Int.ofNat k), A.int .i64 (Int.ofNat n), A.int .i64 (Int.ofNat k)]) (firstIdx (fun k => fin (r k)) (n))) [])) .fail)
  | _, _ => none
theorem loop97b : CodeOK Try.prog (fun _ σ => sumAt Try.f73.ntmps 64 [0, 1, 4, 7, 8] [] F97b σ) (.block 0 (.loop (loopOf Try.f73 0))) := by
  refine block_ok (own := fun _ => true) (lp := (fun _ => none)) (un := 0) (fuel := 1000) cfg3_ok (lp_none _) fun az os R hF hok => ?_
  unfold F97b at hF
  split at hF
  · rename_i n r l
    injection hF with hF
    subst hF
    have hg := hok.guard
    have hg' := hg
    simp only [Bool.and_eq_true, Nat.ble_eq, Nat.beq_eq, decide_eq_true_eq] at hg'
    obtain ⟨rfl, hn⟩ := hg'
    refine for_fact0 (fun k => fin (r k)) (n) (I97b n r) _ (.ret) (fun k => [A.ro 1 n (Row.flts .f32 r), A.fn 68 [], A.int .i64 (Int.ofNat k), A.int .i64 (Int.ofNat n), A.int .i64 (Int.ofNat k)]) (fun k => [A.ro 1 n (Row.flts .f32 r), A.fn 68 [], A.int .i64 (Int.ofNat k), A.int .i64 (Int.ofNat n), A.int .i64 (Int.ofNat k)]) (I97b n r (n)) rfl (fun _ => rfl) (fun _ => ALe.self _) (fun _ => rfl) (ALe.self _) rfl (fun h => by cases h) (fun k hk L h1 h2 h3 => ?_) fun L hL => ?_
    · rw [round97b]
      by_cases hkm : k < n
      · refine condT (lt_dec hkm) ?_
        refine condT (lt_dec hkm) ?_
        cases hs : fin (r k)
        · exact h2 hkm hs
        · have := h1 hkm hs
          rw [wrap_succ (by omega)]
          exact this
      · refine condE (ge_dec (by omega)) ?_
        obtain rfl : k = n := by omega
        exact h3 rfl
    · exact ⟨fun h => (hL.1 hg).1 h, fun N hN hf hall => by
        have := (hL.1 hg).2 (allUpTo_false hN hf)
        rw [firstIdx_eq hN hf hall] at this
        exact this⟩
  · cases hF
noncomputable def idx (f : Nat → Bool) (n : Nat) : Int := bif allUpTo f n then Int.negSucc 0 else Int.ofNat (firstIdx f n)
noncomputable def lp97a : List (Nat × (St → T)) := [(0, sumAt Try.f73.ntmps 64 [0, 1, 4, 7, 8] [] F97a)]
theorem lp97a_ok : LpOK Try.prog (look lp97a) (bodyOf Try.f73) := lp_loops (by kernel_rfl) (by kernel_rfl) fun p hp => by
  simp only [lp97a, List.mem_cons, List.not_mem_nil, or_false] at hp
  rcases hp with rfl
  · exact loop97a
theorem auto97a (n : Nat) (r : Nat → Nat) : autoLp cfg3 (look lp97a) Try.f73 [.ro 1 n (.flts .f32 r), .fn 67 []] =
    some (decide (Int.ofNat n = Int.ofNat n) && n.ble 4611686018427387000 && bif allUpTo (fun k => !bad (r k)) n then true else true, A.int .i64 (bif allUpTo (fun k => !bad (r k)) n then Int.negSucc 0 else Int.ofNat (Fw.firstIdx (fun k => !bad (r k)) n))) := by kernel_rfl
noncomputable def s97a : List A → Option (Bool × A)
  | [.ro 1 n (.flts .f32 r), .fn 67 []] => some (Nat.ble n 4611686018427387000, .int .i64 (idx (fun k => !bad (r k)) n))
  | _ => none
theorem s97a_at : EnvAt Try.prog 73 s97a := of_auto cfg3_ok lp97a_ok Try.func73 (by kernel_rfl) (by kernel_rfl) fun ds c r h hc => by
  unfold s97a at h
  split at h
  · rename_i n r
    simp only [Option.some.injEq, Prod.mk.injEq] at h
    obtain ⟨rfl, rfl⟩ := h
    refine auto_fit (auto97a n r) ?_ ?_
    · rfl
    · rw [hc]; simp
  · cases h
noncomputable def lp97b : List (Nat × (St → T)) := [(0, sumAt Try.f73.ntmps 64 [0, 1, 4, 7, 8] [] F97b)]
theorem lp97b_ok : LpOK Try.prog (look lp97b) (bodyOf Try.f73) := lp_loops (by kernel_rfl) (by kernel_rfl) fun p hp => by
  simp only [lp97b, List.mem_cons, List.not_mem_nil, or_false] at hp
  rcases hp with rfl
  · exact loop97b
theorem auto97b (n : Nat) (r : Nat → Nat) : autoLp cfg3 (look lp97b) Try.f73 [.ro 1 n (.flts .f32 r), .fn 68 []] =
    some (decide (Int.ofNat n = Int.ofNat n) && n.ble 4611686018427387000 && bif allUpTo (fun k => fin (r k)) n then true else true, A.int .i64 (bif allUpTo (fun k => fin (r k)) n then Int.negSucc 0 else Int.ofNat (Fw.firstIdx (fun k => fin (r k)) n))) := by kernel_rfl
noncomputable def s97b : List A → Option (Bool × A)
  | [.ro 1 n (.flts .f32 r), .fn 68 []] => some (Nat.ble n 4611686018427387000, .int .i64 (idx (fun k => fin (r k)) n))
  | _ => none
theorem s97b_at : EnvAt Try.prog 73 s97b := of_auto cfg3_ok lp97b_ok Try.func73 (by kernel_rfl) (by kernel_rfl) fun ds c r h hc => by
  unfold s97b at h
  split at h
  · rename_i n r
    simp only [Option.some.injEq, Prod.mk.injEq] at h
    obtain ⟨rfl, rfl⟩ := h
    refine auto_fit (auto97b n r) ?_ ?_
    · rfl
    · rw [hc]; simp
  · cases h
noncomputable def s97 : List A → Option (Bool × A)
  | [.ro 1 n (.flts .f32 r), .fn 67 []] => s97a [.ro 1 n (.flts .f32 r), .fn 67 []]
  | ds => s97b ds
theorem s97_at : EnvAt Try.prog 73 s97 := by
  refine ⟨s97a_at.1, fun ds c r h hc => ?_⟩
  unfold s97 at h
  split at h
  · exact s97a_at.2 _ _ _ h hc
  · exact s97b_at.2 _ _ _ h hc
noncomputable def env4 : List (Nat × (List A → Option (Bool × A))) := (73, s97) :: env3
theorem env4_ok : EnvOK Try.prog (look env4) := env_cons s97_at env3_ok
noncomputable def cfg4 : Cfg := mkCfg tab [] xts (look env4)
theorem cfg4_ok : CfgOK Try.prog cfg4 := cfg_ok tab_eq (no_fts _) xts_ok env4_ok mixed
noncomputable def env5 : List (Nat × (List A → Option (Bool × A))) := (66, auto cfg4 Try.f66) :: env4
theorem env5_ok : EnvOK Try.prog (look env5) := env_cons (auto_at cfg4_ok Try.func66 (by kernel_rfl) (by kernel_rfl)) env4_ok
noncomputable def cfg5 : Cfg := mkCfg tab [] xts (look env5)
theorem cfg5_ok : CfgOK Try.prog cfg5 := cfg_ok tab_eq (no_fts _) xts_ok env5_ok mixed
theorem idx_ge (f : Nat → Bool) (n : Nat) : decide (idx f n ≥ 0) = !allUpTo f n := by
  unfold idx
  cases allUpTo f n
  · simp
  · rfl
theorem auto58 (n : Nat) (r : Nat → Nat) : autoLp cfg5 (fun _ => none) Try.f52 [.ro 1 n (.flts .f32 r)] =
    some (n.ble 4611686018427387000 && true && true, A.bool !decide (idx (fun k => !bad (r k)) n ≥ 0)) := by kernel_rfl
noncomputable def s58 : List A → Option (Bool × A)
  | [.ro 1 n (.flts .f32 r)] => some (Nat.ble n 4611686018427387000, .bool (allUpTo (fun k => !bad (r k)) n))
  | _ => none
theorem s58_at : EnvAt Try.prog 52 s58 := of_auto cfg5_ok (lp_none _) Try.func52 (by kernel_rfl) (by kernel_rfl) fun ds c r h hc => by
  unfold s58 at h
  split at h
  · rename_i n r
    simp only [Option.some.injEq, Prod.mk.injEq] at h
    obtain ⟨rfl, rfl⟩ := h
    refine auto_fit (auto58 n r) ?_ ?_
    · simp [idx_ge]
    · rw [hc]; simp
  · cases h
theorem auto59 (n : Nat) (r : Nat → Nat) : autoLp cfg5 (fun _ => none) Try.f53 [.ro 1 n (.flts .f32 r)] =
    some (n.ble 4611686018427387000 && true && true, A.bool !decide (idx (fun k => fin (r k)) n ≥ 0)) := by kernel_rfl
noncomputable def s59 : List A → Option (Bool × A)
  | [.ro 1 n (.flts .f32 r)] => some (Nat.ble n 4611686018427387000, .bool (allUpTo (fun k => fin (r k)) n))
  | _ => none
theorem s59_at : EnvAt Try.prog 53 s59 := of_auto cfg5_ok (lp_none _) Try.func53 (by kernel_rfl) (by kernel_rfl) fun ds c r h hc => by
  unfold s59 at h
  split at h
  · rename_i n r
    simp only [Option.some.injEq, Prod.mk.injEq] at h
    obtain ⟨rfl, rfl⟩ := h
    refine auto_fit (auto59 n r) ?_ ?_
    · simp [idx_ge]
    · rw [hc]; simp
  · cases h
end Go.Fw.T1

/-
  Circuits that are valid: the reference's test.
-/
namespace Go.Fw.T1
open Go.Proofs
noncomputable def env6 : List (Nat × (List A → Option (Bool × A))) := (52, s58) :: (53, s59) :: env5
theorem env6_ok : EnvOK Try.prog (look env6) := env_cons s58_at (env_cons s59_at env5_ok)
noncomputable def cfg6 : Cfg := mkCfg tab [] xts (look env6)
theorem cfg6_ok : CfgOK Try.prog cfg6 := cfg_ok tab_eq (no_fts _) xts_ok env6_ok mixed
theorem blt_lt' {a b : Nat} (h : Nat.blt a b = true) : a < b := by
  unfold Nat.blt at h
  exact Nat.le_of_ble_eq_true h
theorem lt_blt {a b : Nat} (h : a < b) : Nat.blt a b = true := Nat.ble_eq_true_of_le h
theorem mul_lt6 {i n : Nat} (hi : i < n) (hn : n ≤ 6) : i * n + n ≤ n * n := by
  have : (i + 1) * n ≤ n * n := Nat.mul_le_mul_right n hi
  rw [Nat.add_mul, Nat.one_mul] at this
  exact this
theorem sq_le {n : Nat} (hn : n ≤ 6) : n * n ≤ 36 := Nat.mul_le_mul hn hn
theorem ix_lt {i j n : Nat} (hi : i < n) (hj : j < n) (hn : n ≤ 6) : i * n + j < n * n := by
  have := mul_lt6 hi hn
  omega
theorem wrap_nat {x : Nat} (h : x ≤ 4611686018427387000) : IntKind.i64.wrap (Int.ofNat x) = Int.ofNat x := wrap_small (by simp) (by simp; omega)
theorem wrap_ix {i j n : Nat} (hi : i < n) (hj : j < n) (hn : n ≤ 6) : IntKind.i64.wrap (IntKind.i64.wrap (Int.ofNat i * Int.ofNat n) + Int.ofNat j) = Int.ofNat (i * n + j) := by
  have h1 := ix_lt hi hj hn
  have h2 := sq_le hn
  have h3 : (Int.ofNat i * Int.ofNat n) = Int.ofNat (i * n) := rfl
  have h4 : Int.ofNat (i * n) + Int.ofNat j = Int.ofNat (i * n + j) := rfl
  rw [h3, wrap_nat (x := i * n) (by omega), h4, wrap_nat (by omega)]
theorem wrap_mm {n : Nat} (hn : n ≤ 6) : IntKind.i64.wrap (Int.ofNat n * Int.ofNat n) = Int.ofNat (n * n) := by
  have h2 := sq_le hn
  have h3 : (Int.ofNat n * Int.ofNat n) = Int.ofNat (n * n) := rfl
  rw [h3, wrap_nat (by omega)]
theorem dec0 (x : Nat) : decide ((0 : Int) ≤ Int.ofNat x) = true := by simp
noncomputable def badsym (c : Nat → Nat) (n i j : Nat) : Bool := bif !fin (c (i * n + j)) then true else forder .f32 (c (i * n + j)) (c (j * n + i)) != some .eq
noncomputable def badrow (r g c : Nat → Nat) (n i : Nat) : Bool := bif (bif !least (r i) then true else !least (g i)) then true else !(forder .f32 (c (i * n + i)) (can .f32 0) == some .gt)
noncomputable def sizes (n gn cn : Nat) : Bool := decide (1 ≤ n ∧ n ≤ 6 ∧ gn = n ∧ cn = n * n)
theorem ne_nat (a b : Nat) : (Int.ofNat a != Int.ofNat b) = !decide (a = b) := by
  by_cases h : a = b
  · subst h; simp
  · simp [h]; omega
theorem sizes_eq (n gn cn : Nat) : (bif bif bif decide (Int.ofNat n < 1) then true else decide (Int.ofNat n > 6) then true else Int.ofNat gn != Int.ofNat n then true else Int.ofNat cn != IntKind.i64.wrap (Int.ofNat n * Int.ofNat n)) = !sizes n gn cn := by
  by_cases h1 : n < 1
  · rw [show decide (Int.ofNat n < 1) = true by simp; omega]
    simp [sizes]; omega
  rw [show decide (Int.ofNat n < 1) = false by simp; omega]
  by_cases h2 : n > 6
  · rw [show decide (Int.ofNat n > 6) = true by simp; omega]
    simp [sizes]; omega
  rw [show decide (Int.ofNat n > 6) = false by simp; omega, wrap_mm (by omega), ne_nat, ne_nat]
  by_cases h3 : gn = n
  · by_cases h4 : cn = n * n
    · simp [sizes, h3, h4]; omega
    · simp [sizes, h3, h4]
  · simp [sizes, h3]
noncomputable def valid (n gn cn : Nat) (r g c : Nat → Nat) : Bool := sizes n gn cn && allUpTo (fun k => !badrow r g c n k && allUpTo (fun j => !badsym c n k j) n) n
end Go.Fw.T1

/-
  Circuits that are valid: the program's test.
-/
namespace Go.Fw.T1
open Go.Proofs
noncomputable def env7 : List (Nat × (List A → Option (Bool × A))) := (33, auto cfg6 Try.f33) :: env6
theorem env7_ok : EnvOK Try.prog (look env7) := env_cons (auto_at cfg6_ok Try.func33 (by kernel_rfl) (by kernel_rfl)) env6_ok
noncomputable def cfg7 : Cfg := mkCfg tab [] xts (look env7)
theorem cfg7_ok : CfgOK Try.prog cfg7 := cfg_ok tab_eq (no_fts _) xts_ok env7_ok mixed
noncomputable def unsym (c : Nat → Nat) (n i j : Nat) : Bool := forder .f32 (c (i * n + j)) (c (j * n + i)) != some .eq
noncomputable def notpos (c : Nat → Nat) (n i : Nat) : Bool := !(forder .f32 (c (i * n + i)) (can .f32 0) == some .gt)
noncomputable def I21j (n gn cn i : Nat) (p q : Int) (r g c : Nat → Nat) (k : Nat) : List A := [.ptr 0 0, .bool false, .int .i64 (Int.ofNat i), .int .i64 p, .int .i64 q, .int .i64 (Int.ofNat i), .int .i64 (Int.ofNat k)]
noncomputable def J21j (n gn cn i : Nat) (p q : Int) (r g c : Nat → Nat) : List O := [.var [.ro 1 n (.flts .f32 r), .ro 1 gn (.flts .f32 g), .ro 1 cn (.flts .f32 c)]]
theorem round21j (n gn cn i : Nat) (p q : Int) (r g c : Nat → Nat) (k : Nat) (L : XK → List A → List (Option O) → Prop) :
    ((exec cfg7 (fun _ => true) (fun _ => none) 0 1000 (loopOf Try.f26 2) (litSt Try.f26.ntmps 928 [1, 2, 4, 48, 49, 58, 59] [0] (I21j n gn cn i p q r g c k) (J21j n gn cn i p q r g c))).rt [1, 2, 4, 48, 49, 58, 59] [0]).Ok L =
    bif decide (Int.ofNat k < Int.ofNat i) then
      bif decide (0 ≤ IntKind.i64.wrap (IntKind.i64.wrap (Int.ofNat i * Int.ofNat n) + Int.ofNat k)) && decide (IntKind.i64.wrap (IntKind.i64.wrap (Int.ofNat i * Int.ofNat n) + Int.ofNat k) < Int.ofNat cn) && true && true then
        bif decide (0 ≤ IntKind.i64.wrap (IntKind.i64.wrap (Int.ofNat k * Int.ofNat n) + Int.ofNat i)) && decide (IntKind.i64.wrap (IntKind.i64.wrap (Int.ofNat k * Int.ofNat n) + Int.ofNat i) < Int.ofNat cn) && true then
          bif forder .f32 (c (IntKind.i64.wrap (IntKind.i64.wrap (Int.ofNat i * Int.ofNat n) + Int.ofNat k)).toNat) (c (IntKind.i64.wrap (IntKind.i64.wrap (Int.ofNat k * Int.ofNat n) + Int.ofNat i)).toNat) != some Ordering.eq then
            L (XK.ret) [A.ptr 0 0, A.bool false, A.int .i64 (Int.ofNat i), A.int .i64 p, A.int .i64 q, A.int .i64 (Int.ofNat i), A.int .i64 (Int.ofNat k)] [some (O.var [A.ro 1 n (Row.flts .f32 r), A.ro 1 gn (Row.flts .f32 g), A.ro 1 cn (Row.flts .f32 c)])]
          else
            L (XK.normal) [A.ptr 0 0, A.bool false, A.int .i64 (Int.ofNat i), A.int .i64 p, A.int .i64 q, A.int .i64 (Int.ofNat i), A.int .i64 (IntKind.i64.wrap (Int.ofNat k + Int.ofNat 1))] [some (O.var [A.ro 1 n (Row.flts .f32 r), A.ro 1 gn (Row.flts .f32 g), A.ro 1 cn (Row.flts .f32 c)])]
        else
          False
      else
        False
    else
      L (XK.exit 2) [A.ptr 0 0, A.bool false, A.int .i64 (Int.ofNat i), A.int .i64 p, A.int .i64 q, A.int .i64 (Int.ofNat i), A.int .i64 (Int.ofNat k)] [some (O.var [A.ro 1 n (Row.flts .f32 r), A.ro 1 gn (Row.flts .f32 g), A.ro 1 cn (Row.flts .f32 c)])] := by kernel_rfl
noncomputable def F21j : List A → List (Option O) → Option R3
  | [.ptr 0 0, .bool false, .int .i64 (.ofNat i), .int .i64 p, .int .i64 q, .int .i64 m, .int .i64 0], [some (.var [.ro 1 n (.flts .f32 r), .ro 1 gn (.flts .f32 g), .ro 1 cn (.flts .f32 c)])] => some (.ite (decide (m = Int.ofNat i) && Nat.blt i n && Nat.ble n 6 && Nat.beq cn (n * n)) (.ite (allUpTo (fun k => !unsym c n i k) (i)) (.leaf .normal (I21j n gn cn i p q r g c (i)) (J21j n gn cn i p q r g c)) (.leaf (.ret) ((I21j n gn cn i p q r g c) (firstIdx (fun k => !unsym c n i k) (i))) (J21j n gn cn i p q r g c))) .fail)
  | _, _ => none
theorem loop21j : CodeOK Try.prog (fun _ σ => sumAt Try.f26.ntmps 928 [1, 2, 4, 48, 49, 58, 59] [0] F21j σ) (.block 2 (.loop (loopOf Try.f26 2))) := by
  refine block_ok (own := fun _ => true) (lp := (fun _ => none)) (un := 0) (fuel := 1000) cfg7_ok (lp_none _) fun az os R hF hok => ?_
  unfold F21j at hF
  split at hF
  · rename_i i p q m n r gn g cn c
    injection hF with hF
    subst hF
    have hg := hok.guard
    have hg' := hg
    simp only [Bool.and_eq_true, Nat.ble_eq, Nat.beq_eq, decide_eq_true_eq] at hg'
    obtain ⟨⟨⟨rfl, hi⟩, hn⟩, hcn⟩ := hg'
    have hi := blt_lt' hi
    refine for_fact (fun k => !unsym c n i k) (i) (I21j n gn cn i p q r g c) (fun _ => J21j n gn cn i p q r g c) _ (.ret) (I21j n gn cn i p q r g c) (I21j n gn cn i p q r g c) (I21j n gn cn i p q r g c (i)) (J21j n gn cn i p q r g c) rfl (OSims.self (J21j n gn cn i p q r g c)) (fun _ => rfl) (fun _ => rfl) (fun _ => ALe.self _) (fun _ => rfl) (ALe.self _) (OSims.self (J21j n gn cn i p q r g c)) rfl (fun h => by cases h) (fun k hk L h1' h2 h3 => ?_) fun L hL => ?_
    · have h1 := fun a b => h1' a b _ (OSims.self (J21j n gn cn i p q r g c))
      rw [round21j]
      by_cases hkm : k < i
      · refine condT (lt_dec hkm) ?_
        have hkn : k < n := by omega
        rw [wrap_ix hkn hi hn, wrap_ix hi hkn hn]
        refine condT (by rw [hcn]; simp only [dec0, lt_dec (ix_lt hkn hi hn), lt_dec (ix_lt hi hkn hn), Bool.and_self, Bool.true_or, Bool.and_true]) ?_
        refine condT (by rw [hcn]; simp only [dec0, lt_dec (ix_lt hkn hi hn), lt_dec (ix_lt hi hkn hn), Bool.and_self, Bool.true_or, Bool.and_true]) ?_
        show cond (unsym c n i k) _ _
        cases hs : unsym c n i k
        · have := h1 hkm (by rw [hs]; rfl)
          rw [wrap_succ (by omega)]
          exact this
        · exact h2 hkm (by rw [hs]; rfl)
      · refine condE (ge_dec (by omega)) ?_
        obtain rfl : k = i := by omega
        exact h3 rfl
    · exact ⟨fun h => (hL.1 hg).1 h, fun N hN hf hall => by
        have := (hL.1 hg).2 (allUpTo_false hN hf)
        rw [firstIdx_eq hN hf hall] at this
        exact this⟩
  · cases hF
noncomputable def lpi21i : List (Nat × (St → T)) := [(2, sumAt Try.f26.ntmps 928 [1, 2, 4, 48, 49, 58, 59] [0] F21j)]
theorem lpi21i_ok : LpOK Try.prog (look lpi21i) (loopOf Try.f26 0) := lp_in (lp_loops (by kernel_rfl) (by kernel_rfl) fun p hp => by
  simp only [lpi21i, List.mem_cons, List.not_mem_nil, or_false] at hp
  rcases hp with rfl
  · exact loop21j) _
noncomputable def I21i (n gn cn : Nat) (r g c : Nat → Nat) (k : Nat) : List A := [.ptr 0 0, .bool false, .int .i64 (Int.ofNat n), .int .i64 (Int.ofNat k)]
noncomputable def J21i (n gn cn : Nat) (r g c : Nat → Nat) : List O := [.var [.ro 1 n (.flts .f32 r), .ro 1 gn (.flts .f32 g), .ro 1 cn (.flts .f32 c)]]
theorem round21i (n gn cn : Nat) (r g c : Nat → Nat) (k : Nat) (L : XK → List A → List (Option O) → Prop) :
    ((exec cfg7 (fun _ => true) (look lpi21i) 0 1000 (loopOf Try.f26 0) (litSt Try.f26.ntmps 752 [1, 2, 48, 49] [0] (I21i n gn cn r g c k) (J21i n gn cn r g c))).rt [1, 2, 48, 49] [0]).Ok L =
    bif decide (Int.ofNat k < Int.ofNat n) then
      bif decide (0 ≤ IntKind.i64.wrap (IntKind.i64.wrap (Int.ofNat k * Int.ofNat n) + Int.ofNat k)) && decide (IntKind.i64.wrap (IntKind.i64.wrap (Int.ofNat k * Int.ofNat n) + Int.ofNat k) < Int.ofNat cn) && true then
        bif !forder .f32 (c (IntKind.i64.wrap (IntKind.i64.wrap (Int.ofNat k * Int.ofNat n) + Int.ofNat k)).toNat) (can .f32 0) == some Ordering.gt then
          L (XK.ret) [A.ptr 0 0, A.bool false, A.int .i64 (Int.ofNat n), A.int .i64 (Int.ofNat k)] [some (O.var [A.ro 1 n (Row.flts .f32 r), A.ro 1 gn (Row.flts .f32 g), A.ro 1 cn (Row.flts .f32 c)])]
        else
          bif decide (Int.ofNat k = Int.ofNat k) && k.blt n && n.ble 6 && cn.beq (n * n) then
            bif allUpTo (fun k_1 => !unsym c n k k_1) k then
              L (XK.normal) [A.ptr 0 0, A.bool false, A.int .i64 (Int.ofNat n), A.int .i64 (IntKind.i64.wrap (Int.ofNat k + Int.ofNat 1))] [some (O.var [A.ro 1 n (Row.flts .f32 r), A.ro 1 gn (Row.flts .f32 g), A.ro 1 cn (Row.flts .f32 c)])]
            else
              L (XK.ret) [A.ptr 0 0, A.bool false, A.int .i64 (Int.ofNat n), A.int .i64 (Int.ofNat k)] [some (O.var [A.ro 1 n (Row.flts .f32 r), A.ro 1 gn (Row.flts .f32 g), A.ro 1 cn (Row.flts .f32 c)])]
          else
            False
      else
        False
    else
      L (XK.exit 0) [A.ptr 0 0, A.bool false, A.int .i64 (Int.ofNat n), A.int .i64 (Int.ofNat k)] [some (O.var [A.ro 1 n (Row.flts .f32 r), A.ro 1 gn (Row.flts .f32 g), A.ro 1 cn (Row.flts .f32 c)])] := by kernel_rfl
noncomputable def F21i : List A → List (Option O) → Option R3
  | [.ptr 0 0, .bool false, .int .i64 m, .int .i64 0], [some (.var [.ro 1 n (.flts .f32 r), .ro 1 gn (.flts .f32 g), .ro 1 cn (.flts .f32 c)])] => some (.ite (decide (m = Int.ofNat n) && Nat.ble n 6 && Nat.beq cn (n * n)) (.ite (allUpTo (fun k => !notpos c n k && allUpTo (fun j => !unsym c n k j) k) (n)) (.leaf .normal (I21i n gn cn r g c (n)) (J21i n gn cn r g c)) (.leaf (.ret) ((I21i n gn cn r g c) (firstIdx (fun k => !notpos c n k && allUpTo (fun j => !unsym c n k j) k) (n))) (J21i n gn cn r g c))) .fail)
  | _, _ => none
theorem loop21i : CodeOK Try.prog (fun _ σ => sumAt Try.f26.ntmps 752 [1, 2, 48, 49] [0] F21i σ) (.block 0 (.loop (loopOf Try.f26 0))) := by
  refine block_ok (own := fun _ => true) (lp := (look lpi21i)) (un := 0) (fuel := 1000) cfg7_ok lpi21i_ok fun az os R hF hok => ?_
  unfold F21i at hF
  split at hF
  · rename_i m n r gn g cn c
    injection hF with hF
    subst hF
    have hg := hok.guard
    have hg' := hg
    simp only [Bool.and_eq_true, Nat.ble_eq, Nat.beq_eq, decide_eq_true_eq] at hg'
    obtain ⟨⟨rfl, hn⟩, hcn⟩ := hg'
    refine for_fact (fun k => !notpos c n k && allUpTo (fun j => !unsym c n k j) k) (n) (I21i n gn cn r g c) (fun _ => J21i n gn cn r g c) _ (.ret) (I21i n gn cn r g c) (I21i n gn cn r g c) (I21i n gn cn r g c (n)) (J21i n gn cn r g c) rfl (OSims.self (J21i n gn cn r g c)) (fun _ => rfl) (fun _ => rfl) (fun _ => ALe.self _) (fun _ => rfl) (ALe.self _) (OSims.self (J21i n gn cn r g c)) rfl (fun h => by cases h) (fun k hk L h1' h2 h3 => ?_) fun L hL => ?_
    · have h1 := fun a b => h1' a b _ (OSims.self (J21i n gn cn r g c))
      rw [round21i]
      by_cases hkm : k < n
      · refine condT (lt_dec hkm) ?_
        rw [wrap_ix hkm hkm hn]
        refine condT (by rw [hcn]; simp only [dec0, lt_dec (ix_lt hkm hkm hn), Bool.and_self, Bool.and_true]) ?_
        show cond (notpos c n k) _ _
        cases hs : notpos c n k
        · refine condE rfl ?_
          refine condT (by simp only [hcn, Nat.beq_refl, Nat.ble_eq_true_of_le hn, lt_blt hkm, decide_true, Bool.and_self]) ?_
          cases ha : allUpTo (fun j => !unsym c n k j) k
          · exact h2 hkm (by rw [hs, ha]; rfl)
          · have := h1 hkm (by rw [hs, ha]; rfl)
            rw [wrap_succ (by omega)]
            exact this
        · exact h2 hkm (by rw [hs]; rfl)
      · refine condE (ge_dec (by omega)) ?_
        obtain rfl : k = n := by omega
        exact h3 rfl
    · exact ⟨fun h => (hL.1 hg).1 h, fun N hN hf hall => by
        have := (hL.1 hg).2 (allUpTo_false hN hf)
        rw [firstIdx_eq hN hf hall] at this
        exact this⟩
  · cases hF
theorem fin_notNaN {x : Nat} (h : fin x = true) : isNaN .f32 x = false := by
  cases hx : isNaN .f32 x
  · rfl
  · unfold fin at h
    rw [fop_nan (.inl hx), forder_none.2 (.inl (isNaN_qnan _))] at h
    cases h
theorem least_bad (x : Nat) : (!least x) = bad x := by
  unfold least bad
  cases hf : fin x
  · rfl
  · have h1 := fin_notNaN hf
    have h2 : forder .f32 x (can .f32 0) ≠ none := fun h => by
      rcases forder_none.1 h with h | h
      · rw [h1] at h; cases h
      · rw [isNaN_zero] at h; cases h
    show (!ge0 x) = lt0 x
    unfold ge0 lt0
    cases ho : forder .f32 x (can .f32 0) with
    | none => exact absurd ho h2
    | some o => cases o <;> rfl
theorem badrow_eq (r g c : Nat → Nat) (n i : Nat) : badrow r g c n i = (bad (r i) || bad (g i) || notpos c n i) := by
  unfold badrow notpos
  rw [least_bad, least_bad]
  cases bad (r i) <;> cases bad (g i) <;> rfl
theorem badsym_eq (c : Nat → Nat) (n i j : Nat) : badsym c n i j = (!fin (c (i * n + j)) || unsym c n i j) := by
  unfold badsym unsym
  cases fin (c (i * n + j)) <;> rfl
theorem unsym_comm (c : Nat → Nat) (n i j : Nat) : unsym c n i j = unsym c n j i := forder_eq_comm _ _ _
theorem unsym_self {c : Nat → Nat} {n i : Nat} (h : fin (c (i * n + i)) = true) : unsym c n i i = false := by
  unfold unsym
  rw [forder_self (fin_notNaN h)]
  rfl
theorem valid_eq {n cn : Nat} (r g c : Nat → Nat) (hcn : cn = n * n) :
    allUpTo (fun k => !badrow r g c n k && allUpTo (fun j => !badsym c n k j) n) n =
      (allUpTo (fun k => !bad (r k)) n && (allUpTo (fun k => !bad (g k)) n && (allUpTo (fun k => fin (c k)) cn && allUpTo (fun k => !notpos c n k && allUpTo (fun j => !unsym c n k j) k) n))) := by
  subst hcn
  apply Bool.eq_iff_iff.2
  simp only [Bool.and_eq_true, allUpTo_iff, badrow_eq, badsym_eq, Bool.not_eq_true', Bool.or_eq_false_iff, Bool.not_eq_false']
  constructor
  · intro h
    refine ⟨fun i hi => (h i hi).1.1.1, fun i hi => (h i hi).1.1.2, fun k hk => ?_, fun i hi => ⟨(h i hi).1.2, fun j hj => ((h i hi).2 j (by omega)).2⟩⟩
    have hn : 0 < n := by
      rcases Nat.eq_zero_or_pos n with h0 | h0
      · subst h0; simp at hk
      · exact h0
    have h1 : k / n < n := (Nat.div_lt_iff_lt_mul hn).2 hk
    have := ((h (k / n) h1).2 (k % n) (Nat.mod_lt _ hn)).1
    rwa [Nat.mul_comm, Nat.div_add_mod] at this
  · rintro ⟨h1, h2, h3, h4⟩ i hi
    have hfin : ∀ a b, a < n → b < n → fin (c (a * n + b)) = true := fun a b ha hb => h3 _ (by
      have : (a + 1) * n ≤ n * n := Nat.mul_le_mul_right n ha
      rw [Nat.add_mul, Nat.one_mul] at this
      omega)
    refine ⟨⟨⟨h1 i hi, h2 i hi⟩, (h4 i hi).1⟩, fun j hj => ⟨hfin i j hi hj, ?_⟩⟩
    rcases Nat.lt_trichotomy j i with h | h | h
    · exact (h4 i hi).2 j h
    · subst h; exact unsym_self (hfin j j hi hi)
    · rw [unsym_comm]; exact (h4 j hj).2 i h
noncomputable def lp21 : List (Nat × (St → T)) := [(0, sumAt Try.f26.ntmps 752 [1, 2, 48, 49] [0] F21i)]
theorem lp21_ok : LpOK Try.prog (look lp21) (bodyOf Try.f26) := lp_loops (by kernel_rfl) (by kernel_rfl) fun p hp => by
  simp only [lp21, List.mem_cons, List.not_mem_nil, or_false] at hp
  rcases hp with rfl
  · exact loop21i
theorem auto21 (n gn cn : Nat) (r g c : Nat → Nat) : autoLp cfg7 (look lp21) Try.f26 [.agg [.ro 1 n (.flts .f32 r), .ro 1 gn (.flts .f32 g), .ro 1 cn (.flts .f32 c)]] =
    some ((n.ble 4611686018427387000 || !(bif bif bif decide (Int.ofNat n < 1) then true else decide (Int.ofNat n > 6) then true else Int.ofNat gn != Int.ofNat n then true else Int.ofNat cn != IntKind.i64.wrap (Int.ofNat n * Int.ofNat n)) == false) && ((gn.ble 4611686018427387000 || !(bif bif bif bif decide (Int.ofNat n < 1) then true else decide (Int.ofNat n > 6) then true else Int.ofNat gn != Int.ofNat n then true else Int.ofNat cn != IntKind.i64.wrap (Int.ofNat n * Int.ofNat n) then true else !allUpTo (fun k => !bad (r k)) n) == false) && ((cn.ble 4611686018427387000 || !(bif bif bif bif bif decide (Int.ofNat n < 1) then true else decide (Int.ofNat n > 6) then true else Int.ofNat gn != Int.ofNat n then true else Int.ofNat cn != IntKind.i64.wrap (Int.ofNat n * Int.ofNat n) then true else !allUpTo (fun k => !bad (r k)) n then true else !allUpTo (fun k => !bad (g k)) gn) == false) && bif bif bif bif bif bif bif decide (Int.ofNat n < 1) then true else decide (Int.ofNat n > 6) then true else Int.ofNat gn != Int.ofNat n then true else Int.ofNat cn != IntKind.i64.wrap (Int.ofNat n * Int.ofNat n) then true else !allUpTo (fun k => !bad (r k)) n then true else !allUpTo (fun k => !bad (g k)) gn then true else !allUpTo (fun k => fin (c k)) cn then true else decide (Int.ofNat n = Int.ofNat n) && n.ble 6 && cn.beq (n * n) && bif allUpTo (fun k => !notpos c n k && allUpTo (fun j => !unsym c n k j) k) n then true else true)), A.bool (bif bif bif bif bif bif bif decide (Int.ofNat n < 1) then true else decide (Int.ofNat n > 6) then true else Int.ofNat gn != Int.ofNat n then true else Int.ofNat cn != IntKind.i64.wrap (Int.ofNat n * Int.ofNat n) then true else !allUpTo (fun k => !bad (r k)) n then true else !allUpTo (fun k => !bad (g k)) gn then true else !allUpTo (fun k => fin (c k)) cn then false else bif allUpTo (fun k => !notpos c n k && allUpTo (fun j => !unsym c n k j) k) n then true else false)) := by kernel_rfl
noncomputable def s21 : List A → Option (Bool × A)
  | [.agg [.ro 1 n (.flts .f32 r), .ro 1 gn (.flts .f32 g), .ro 1 cn (.flts .f32 c)]] => some (true, .bool (valid n gn cn r g c))
  | _ => none
theorem s21_at : EnvAt Try.prog 26 s21 := of_auto cfg7_ok lp21_ok Try.func26 (by kernel_rfl) (by kernel_rfl) fun ds cc rr h hc => by
  unfold s21 at h
  split at h
  · rename_i n r gn g cn c
    simp only [Option.some.injEq, Prod.mk.injEq] at h
    obtain ⟨rfl, rfl⟩ := h
    refine auto_fit (auto21 n gn cn r g c) ?_ ?_
    · rw [sizes_eq]
      unfold valid
      cases hs : sizes n gn cn
      · rfl
      · simp only [sizes, decide_eq_true_eq] at hs
        rw [valid_eq r g c hs.2.2.2, hs.2.2.1]
        cases allUpTo (fun k => !bad (r k)) n <;> cases allUpTo (fun k => !bad (g k)) n <;> cases allUpTo (fun k => fin (c k)) cn <;> cases allUpTo (fun k => !notpos c n k && allUpTo (fun j => !unsym c n k j) k) n <;> rfl
    · rw [sizes_eq]
      cases hs : sizes n gn cn
      · simp
      · simp only [sizes, decide_eq_true_eq] at hs
        have h2 := sq_le hs.2.1
        have e1 : n.ble 4611686018427387000 = true := Nat.ble_eq_true_of_le (by omega)
        have e2 : cn.ble 4611686018427387000 = true := Nat.ble_eq_true_of_le (by omega)
        rw [hs.2.2.1, e1, e2]
        simp [hs]
  · cases h
end Go.Fw.T1

/-
  The laws' own functions on circuits.
-/
namespace Go.Fw.T1
open Go.Proofs
noncomputable def env8 : List (Nat × (List A → Option (Bool × A))) := (26, s21) :: env7
theorem env8_ok : EnvOK Try.prog (look env8) := env_cons s21_at env7_ok
noncomputable def env9 : List (Nat × (List A → Option (Bool × A))) := env8
theorem env9_ok : EnvOK Try.prog (look env9) := env8_ok
theorem ble_of {n m : Nat} (h : n ≤ m) : n.ble m = true := Nat.ble_eq_true_of_le h
end Go.Fw.T1

/-
  Loops that are valid.
-/
namespace Go.Fw.T1
open Go.Proofs
noncomputable def env10 : List (Nat × (List A → Option (Bool × A))) := env9
theorem env10_ok : EnvOK Try.prog (look env10) := env9_ok
noncomputable def env11 : List (Nat × (List A → Option (Bool × A))) := env10
theorem env11_ok : EnvOK Try.prog (look env11) := env10_ok
end Go.Fw.T1

/-
  The energy of loops.
-/
namespace Go.Fw.T1
open Go.Proofs
noncomputable def env12 : List (Nat × (List A → Option (Bool × A))) := env11
theorem env12_ok : EnvOK Try.prog (look env12) := env11_ok
noncomputable def cfg12 : Cfg := mkCfg tab [] xts (look env12)
theorem cfg12_ok : CfgOK Try.prog cfg12 := cfg_ok tab_eq (no_fts _) xts_ok env12_ok mixed
end Go.Fw.T1

/-
  Couplings, resonances, qualities.
-/
namespace Go.Fw.T1
open Go.Proofs
def root32 (x : Nat) : Nat := fcvt .f64 .f32 (fsqrt (fcvt .f32 .f64 x))
noncomputable def env13 : List (Nat × (List A → Option (Bool × A))) := (60, auto cfg12 Try.f60) :: (61, auto cfg12 Try.f61) :: env12
theorem env13_ok : EnvOK Try.prog (look env13) := env_cons (auto_at cfg12_ok Try.func60 (by kernel_rfl) (by kernel_rfl)) (env_cons (auto_at cfg12_ok Try.func61 (by kernel_rfl) (by kernel_rfl)) env12_ok)
noncomputable def cfg13 : Cfg := mkCfg tab [] xts (look env13)
theorem cfg13_ok : CfgOK Try.prog cfg13 := cfg_ok tab_eq (no_fts _) xts_ok env13_ok mixed
theorem auto75 (x : Nat) : autoLp cfg13 (fun _ => none) Try.f38 [.flt .f32 x] =
    some (fcvtOk .f64 .f32 (fsqrt (fcvt .f32 .f64 x)) && true, A.flt .f32 (fcvt .f64 .f32 (fsqrt (fcvt .f32 .f64 x)))) := by kernel_rfl
noncomputable def s75 : List A → Option (Bool × A)
  | [.flt .f32 x] => some (true, .flt .f32 (root32 x))
  | _ => none
theorem s75_at : EnvAt Try.prog 38 s75 := of_auto cfg13_ok (lp_none _) Try.func38 (by kernel_rfl) (by kernel_rfl) fun ds cc rr h hc => by
  unfold s75 at h
  split at h
  · rename_i x
    simp only [Option.some.injEq, Prod.mk.injEq] at h
    obtain ⟨rfl, rfl⟩ := h
    refine auto_fit (auto75 x) ?_ ?_
    · rfl
    · simp only [sqrt_ok, Bool.and_true]
  · cases h
noncomputable def env14 : List (Nat × (List A → Option (Bool × A))) := (38, s75) :: (30, auto cfg13 Try.f30) :: env13
theorem env14_ok : EnvOK Try.prog (look env14) := env_cons s75_at (env_cons (auto_at cfg13_ok Try.func30 (by kernel_rfl) (by kernel_rfl)) env13_ok)
noncomputable def cfg14 : Cfg := mkCfg tab [] xts (look env14)
theorem cfg14_ok : CfgOK Try.prog cfg14 := cfg_ok tab_eq (no_fts _) xts_ok env14_ok mixed
noncomputable def env15 : List (Nat × (List A → Option (Bool × A))) := (35, auto cfg14 Try.f35) :: env14
theorem env15_ok : EnvOK Try.prog (look env15) := env_cons (auto_at cfg14_ok Try.func35 (by kernel_rfl) (by kernel_rfl)) env14_ok
noncomputable def cfg15 : Cfg := mkCfg tab [] xts (look env15)
theorem cfg15_ok : CfgOK Try.prog cfg15 := cfg_ok tab_eq (no_fts _) xts_ok env15_ok mixed
def inn (n : Nat) (i : Int) : Bool := bif decide (i ≥ 0) then decide (i ≤ IntKind.i64.wrap (Int.ofNat n - 1)) else false
theorem inn_spec {n : Nat} {i : Int} (hn : 1 ≤ n) (hn6 : n ≤ 6) (h : inn n i = true) : ∃ k, i = Int.ofNat k ∧ k < n := by
  unfold inn at h
  have e : IntKind.i64.wrap (Int.ofNat n - 1) = Int.ofNat (n - 1) := by
    rw [show (Int.ofNat n - 1) = Int.ofNat (n - 1) by simp; omega, wrap_nat (by omega)]
  rw [e] at h
  cases h0 : decide (i ≥ 0)
  · rw [h0] at h; cases h
  · rw [h0] at h
    have h1 := of_decide_eq_true h0
    have h2 : i ≤ Int.ofNat (n - 1) := of_decide_eq_true h
    obtain ⟨k, rfl⟩ := Int.eq_ofNat_of_zero_le h1
    refine ⟨k, rfl, ?_⟩
    simp at h2
    omega
theorem valid_sizes {n gn cn : Nat} {r g c : Nat → Nat} (h : valid n gn cn r g c = true) : 1 ≤ n ∧ n ≤ 6 ∧ gn = n ∧ cn = n * n := by
  unfold valid at h
  simp only [Bool.and_eq_true, sizes, decide_eq_true_eq] at h
  exact h.1
def ixI (n : Nat) (i j : Int) : Nat := (IntKind.i64.wrap (IntKind.i64.wrap (i * Int.ofNat n) + j)).toNat
noncomputable def coupNo (n gn cn : Nat) (r g c : Nat → Nat) (i j : Int) : Bool := bif bif bif !valid n gn cn r g c then true else !inn n i then true else !inn n j then true else i == j
noncomputable def coup (n : Nat) (c : Nat → Nat) (i j : Int) : Nat := fop .quo .f32 (c (ixI n i j)) (root32 (fop .mul .f32 (c (ixI n i i)) (c (ixI n j j))))
theorem coup_ok {n gn cn : Nat} {r g c : Nat → Nat} {i j : Int} (h : coupNo n gn cn r g c i j = false) : ∃ a b, i = Int.ofNat a ∧ j = Int.ofNat b ∧ a < n ∧ b < n ∧ n ≤ 6 ∧ cn = n * n := by
  unfold coupNo at h
  cases hv : valid n gn cn r g c
  · rw [hv] at h; cases h
  cases hi : inn n i
  · rw [hv, hi] at h; cases h
  cases hj : inn n j
  · rw [hv, hi, hj] at h; cases h
  obtain ⟨h1, h2, _, h4⟩ := valid_sizes hv
  obtain ⟨a, rfl, ha⟩ := inn_spec h1 h2 hi
  obtain ⟨b, rfl, hb⟩ := inn_spec h1 h2 hj
  exact ⟨a, b, rfl, rfl, ha, hb, h2, h4⟩
theorem auto42 (n gn cn : Nat) (r g c : Nat → Nat) (i j : Int) : autoLp cfg15 (fun _ => none) Try.f14 [.agg [.ro 1 n (.flts .f32 r), .ro 1 gn (.flts .f32 g), .ro 1 cn (.flts .f32 c)], .int .i64 i, .int .i64 j] =
    some (bif bif bif !bif valid n gn cn r g c then bif decide (i ≥ 0) then decide (i ≤ IntKind.i64.wrap (Int.ofNat n - 1)) else false else false then true else !bif valid n gn cn r g c then bif decide (j ≥ 0) then decide (j ≤ IntKind.i64.wrap (Int.ofNat n - 1)) else false else false then true else i == j then true else decide (0 ≤ IntKind.i64.wrap (IntKind.i64.wrap (i * Int.ofNat n) + i)) && decide (IntKind.i64.wrap (IntKind.i64.wrap (i * Int.ofNat n) + i) < Int.ofNat cn) && true && (decide (0 ≤ IntKind.i64.wrap (IntKind.i64.wrap (i * Int.ofNat n) + j)) && decide (IntKind.i64.wrap (IntKind.i64.wrap (i * Int.ofNat n) + j) < Int.ofNat cn) && true && true) && (decide (0 ≤ IntKind.i64.wrap (IntKind.i64.wrap (j * Int.ofNat n) + j)) && decide (IntKind.i64.wrap (IntKind.i64.wrap (j * Int.ofNat n) + j) < Int.ofNat cn) && true && true), A.tup [A.flt .f32 (bif bif bif !bif valid n gn cn r g c then bif decide (i ≥ 0) then decide (i ≤ IntKind.i64.wrap (Int.ofNat n - 1)) else false else false then true else !bif valid n gn cn r g c then bif decide (j ≥ 0) then decide (j ≤ IntKind.i64.wrap (Int.ofNat n - 1)) else false else false then true else i == j then can .f32 0 else fop .quo .f32 (c (IntKind.i64.wrap (IntKind.i64.wrap (i * Int.ofNat n) + j)).toNat) (root32 (fop .mul .f32 (c (IntKind.i64.wrap (IntKind.i64.wrap (i * Int.ofNat n) + i)).toNat) (c (IntKind.i64.wrap (IntKind.i64.wrap (j * Int.ofNat n) + j)).toNat)))), A.bool (bif bif bif !bif valid n gn cn r g c then bif decide (i ≥ 0) then decide (i ≤ IntKind.i64.wrap (Int.ofNat n - 1)) else false else false then true else !bif valid n gn cn r g c then bif decide (j ≥ 0) then decide (j ≤ IntKind.i64.wrap (Int.ofNat n - 1)) else false else false then true else i == j then false else true)]) := by kernel_rfl
noncomputable def s42 : List A → Option (Bool × A)
  | [.agg [.ro 1 n (.flts .f32 r), .ro 1 gn (.flts .f32 g), .ro 1 cn (.flts .f32 c)], .int .i64 i, .int .i64 j] => some (true, .tup [.flt .f32 (bif coupNo n gn cn r g c i j then can .f32 0 else coup n c i j), .bool (bif coupNo n gn cn r g c i j then false else true)])
  | _ => none
theorem s42_at : EnvAt Try.prog 14 s42 := of_auto cfg15_ok (lp_none _) Try.func14 (by kernel_rfl) (by kernel_rfl) fun ds cc rr h hc => by
  unfold s42 at h
  split at h
  · rename_i n r gn g cn c i j
    simp only [Option.some.injEq, Prod.mk.injEq] at h
    obtain ⟨rfl, rfl⟩ := h
    refine auto_fit (auto42 n gn cn r g c i j) ?_ ?_
    · show A.tup [A.flt .f32 (bif bif bif !bif valid n gn cn r g c then inn n i else false then true else !bif valid n gn cn r g c then inn n j else false then true else i == j then _ else _), A.bool (bif bif bif !bif valid n gn cn r g c then inn n i else false then true else !bif valid n gn cn r g c then inn n j else false then true else i == j then _ else _)] = _
      unfold coupNo
      cases valid n gn cn r g c <;> cases inn n i <;> cases inn n j <;> rfl
    · show (bif bif bif !bif valid n gn cn r g c then inn n i else false then true else !bif valid n gn cn r g c then inn n j else false then true else i == j then true else _) = true
      have e : (bif bif !bif valid n gn cn r g c then inn n i else false then true else !bif valid n gn cn r g c then inn n j else false then true else i == j) = coupNo n gn cn r g c i j := by
        unfold coupNo
        cases valid n gn cn r g c <;> cases inn n i <;> cases inn n j <;> rfl
      rw [e]
      cases h : coupNo n gn cn r g c i j
      · obtain ⟨a, b, rfl, rfl, ha, hb, hn, hcn⟩ := coup_ok h
        simp only [wrap_ix ha ha hn, wrap_ix hb hb hn, wrap_ix ha hb hn, dec0, hcn, lt_dec (ix_lt ha ha hn), lt_dec (ix_lt hb hb hn), lt_dec (ix_lt ha hb hn), Bool.and_self, cond_false]
      · rfl
  · cases h
noncomputable def loopNo (n gn cn : Nat) (r g c : Nat → Nat) (i : Int) : Bool := bif !valid n gn cn r g c then true else !inn n i
theorem loopNo_eq (n gn cn : Nat) (r g c : Nat → Nat) (i : Int) : (!bif valid n gn cn r g c then inn n i else false) = loopNo n gn cn r g c i := by
  unfold loopNo
  cases valid n gn cn r g c <;> cases inn n i <;> rfl
theorem loop_ok {n gn cn : Nat} {r g c : Nat → Nat} {i : Int} (h : loopNo n gn cn r g c i = false) : ∃ a, i = Int.ofNat a ∧ a < n ∧ n ≤ 6 ∧ gn = n ∧ cn = n * n := by
  unfold loopNo at h
  cases hv : valid n gn cn r g c
  · rw [hv] at h; cases h
  cases hi : inn n i
  · rw [hv, hi] at h; cases h
  obtain ⟨h1, h2, h3, h4⟩ := valid_sizes hv
  obtain ⟨a, rfl, ha⟩ := inn_spec h1 h2 hi
  exact ⟨a, rfl, ha, h2, h3, h4⟩
noncomputable def reso (n : Nat) (g c : Nat → Nat) (i : Int) : Nat := root32 (fop .quo .f32 (g i.toNat) (c (ixI n i i)))
theorem auto48 (n gn cn : Nat) (r g c : Nat → Nat) (i : Int) : autoLp cfg15 (fun _ => none) Try.f8 [.agg [.ro 1 n (.flts .f32 r), .ro 1 gn (.flts .f32 g), .ro 1 cn (.flts .f32 c)], .int .i64 i] =
    some (bif !bif valid n gn cn r g c then bif decide (i ≥ 0) then decide (i ≤ IntKind.i64.wrap (Int.ofNat n - 1)) else false else false then true else decide (0 ≤ IntKind.i64.wrap (IntKind.i64.wrap (i * Int.ofNat n) + i)) && decide (IntKind.i64.wrap (IntKind.i64.wrap (i * Int.ofNat n) + i) < Int.ofNat cn) && true && (decide (0 ≤ i) && decide (i < Int.ofNat gn) && true) && true && true, A.tup [A.flt .f32 (bif !bif valid n gn cn r g c then bif decide (i ≥ 0) then decide (i ≤ IntKind.i64.wrap (Int.ofNat n - 1)) else false else false then can .f32 0 else root32 (fop .quo .f32 (g i.toNat) (c (IntKind.i64.wrap (IntKind.i64.wrap (i * Int.ofNat n) + i)).toNat))), A.bool (bif !bif valid n gn cn r g c then bif decide (i ≥ 0) then decide (i ≤ IntKind.i64.wrap (Int.ofNat n - 1)) else false else false then false else true)]) := by kernel_rfl
noncomputable def s48 : List A → Option (Bool × A)
  | [.agg [.ro 1 n (.flts .f32 r), .ro 1 gn (.flts .f32 g), .ro 1 cn (.flts .f32 c)], .int .i64 i] => some (true, .tup [.flt .f32 (bif loopNo n gn cn r g c i then can .f32 0 else reso n g c i), .bool (bif loopNo n gn cn r g c i then false else true)])
  | _ => none
theorem s48_at : EnvAt Try.prog 8 s48 := of_auto cfg15_ok (lp_none _) Try.func8 (by kernel_rfl) (by kernel_rfl) fun ds cc rr h hc => by
  unfold s48 at h
  split at h
  · rename_i n r gn g cn c i
    simp only [Option.some.injEq, Prod.mk.injEq] at h
    obtain ⟨rfl, rfl⟩ := h
    refine auto_fit (auto48 n gn cn r g c i) ?_ ?_
    · rw [← loopNo_eq]; rfl
    · show (bif (!bif valid n gn cn r g c then inn n i else false) then true else _) = true
      rw [loopNo_eq]
      cases h : loopNo n gn cn r g c i
      · obtain ⟨a, rfl, ha, hn, hgn, hcn⟩ := loop_ok h
        simp only [wrap_ix ha ha hn, dec0, hcn, hgn, lt_dec ha, lt_dec (ix_lt ha ha hn), Bool.and_self, cond_false]
      · rfl
  · cases h
noncomputable def qualNo (n gn cn : Nat) (r g c : Nat → Nat) (i : Int) : Bool := bif loopNo n gn cn r g c i then true else forder .f32 (r i.toNat) (can .f32 0) == some .eq
noncomputable def qual (n : Nat) (r g c : Nat → Nat) (i : Int) : Nat := fop .quo .f32 (fop .mul .f32 (reso n g c i) (c (ixI n i i))) (r i.toNat)
theorem auto46 (n gn cn : Nat) (r g c : Nat → Nat) (i : Int) : autoLp cfg15 (fun _ => none) Try.f10 [.agg [.ro 1 n (.flts .f32 r), .ro 1 gn (.flts .f32 g), .ro 1 cn (.flts .f32 c)], .int .i64 i] =
    some ((decide (0 ≤ i) && decide (i < Int.ofNat n) || !(!bif valid n gn cn r g c then bif decide (i ≥ 0) then decide (i ≤ IntKind.i64.wrap (Int.ofNat n - 1)) else false else false) == false) && bif bif !bif valid n gn cn r g c then bif decide (i ≥ 0) then decide (i ≤ IntKind.i64.wrap (Int.ofNat n - 1)) else false else false then true else forder .f32 (r i.toNat) (can .f32 0) == some Ordering.eq then true else decide (0 ≤ i) && decide (i < Int.ofNat n) && (decide (0 ≤ IntKind.i64.wrap (IntKind.i64.wrap (i * Int.ofNat n) + i)) && decide (IntKind.i64.wrap (IntKind.i64.wrap (i * Int.ofNat n) + i) < Int.ofNat cn) && true && (decide (0 ≤ IntKind.i64.wrap (IntKind.i64.wrap (i * Int.ofNat n) + i)) && decide (IntKind.i64.wrap (IntKind.i64.wrap (i * Int.ofNat n) + i) < Int.ofNat cn) && true && (decide (0 ≤ i) && decide (i < Int.ofNat gn) && true) && true && true)) && true, A.tup [A.flt .f32 (bif bif !bif valid n gn cn r g c then bif decide (i ≥ 0) then decide (i ≤ IntKind.i64.wrap (Int.ofNat n - 1)) else false else false then true else forder .f32 (r i.toNat) (can .f32 0) == some Ordering.eq then can .f32 0 else fop .quo .f32 (fop .mul .f32 (root32 (fop .quo .f32 (g i.toNat) (c (IntKind.i64.wrap (IntKind.i64.wrap (i * Int.ofNat n) + i)).toNat))) (c (IntKind.i64.wrap (IntKind.i64.wrap (i * Int.ofNat n) + i)).toNat)) (r i.toNat)), A.bool (bif bif !bif valid n gn cn r g c then bif decide (i ≥ 0) then decide (i ≤ IntKind.i64.wrap (Int.ofNat n - 1)) else false else false then true else forder .f32 (r i.toNat) (can .f32 0) == some Ordering.eq then false else true)]) := by kernel_rfl
noncomputable def s46 : List A → Option (Bool × A)
  | [.agg [.ro 1 n (.flts .f32 r), .ro 1 gn (.flts .f32 g), .ro 1 cn (.flts .f32 c)], .int .i64 i] => some (true, .tup [.flt .f32 (bif qualNo n gn cn r g c i then can .f32 0 else qual n r g c i), .bool (bif qualNo n gn cn r g c i then false else true)])
  | _ => none
theorem s46_at : EnvAt Try.prog 10 s46 := of_auto cfg15_ok (lp_none _) Try.func10 (by kernel_rfl) (by kernel_rfl) fun ds cc rr h hc => by
  unfold s46 at h
  split at h
  · rename_i n r gn g cn c i
    simp only [Option.some.injEq, Prod.mk.injEq] at h
    obtain ⟨rfl, rfl⟩ := h
    refine auto_fit (auto46 n gn cn r g c i) ?_ ?_
    · unfold qualNo; rw [← loopNo_eq]; rfl
    · show ((decide (0 ≤ i) && decide (i < Int.ofNat n) || !((!bif valid n gn cn r g c then inn n i else false) == false)) && bif bif (!bif valid n gn cn r g c then inn n i else false) then true else _ then true else _) = true
      rw [loopNo_eq]
      cases h : loopNo n gn cn r g c i
      · obtain ⟨a, rfl, ha, hn, hgn, hcn⟩ := loop_ok h
        simp only [wrap_ix ha ha hn, dec0, hcn, hgn, lt_dec ha, lt_dec (ix_lt ha ha hn), Bool.and_self, cond_false, Bool.true_or, Bool.cond_self]
      · simp
  · cases h
noncomputable def env16 : List (Nat × (List A → Option (Bool × A))) := (14, s42) :: (10, s46) :: (8, s48) :: env15
theorem env16_ok : EnvOK Try.prog (look env16) := env_cons s42_at (env_cons s46_at (env_cons s48_at env15_ok))
noncomputable def cfg16 : Cfg := mkCfg tab [] xts (look env16)
theorem cfg16_ok : CfgOK Try.prog cfg16 := cfg_ok tab_eq (no_fts _) xts_ok env16_ok mixed
end Go.Fw.T1

/-
  Circuits compared.
-/
namespace Go.Fw.T1
open Go.Proofs
def nega (x : Nat) : Bool := decide (IntKind.i64.wrap (Int.ofNat (fcvt .f32 .f64 x)) < 0)
def same82 (x y : Nat) : Bool := bif bif nan x then true else nan y then bif nan x then nan y else false else bif forder .f32 x y == some .eq then nega x == nega y else false
theorem nan_eq (x : Nat) : nan x = isNaN .f32 x := by
  unfold nan
  have := @forder_self_iff .f32 x
  cases h : isNaN .f32 x
  · rw [h] at this; simp only [bne, this]; rfl
  · rw [h] at this; simp only [bne, this]; rfl
theorem auto82 (x y : Nat) : autoLp cfg16 (fun _ => none) Try.f71 [.flt .f32 x, .flt .f32 y] =
    some (bif bif forder .f32 x x != some Ordering.eq then true else forder .f32 y y != some Ordering.eq then true else (!isNaN .f64 (fcvt .f32 .f64 x) && true || !(forder .f32 x y == some Ordering.eq) == true) && ((!isNaN .f64 (fcvt .f32 .f64 y) && true || !(forder .f32 x y == some Ordering.eq) == true) && true), A.bool (bif bif forder .f32 x x != some Ordering.eq then true else forder .f32 y y != some Ordering.eq then bif forder .f32 x x != some Ordering.eq then forder .f32 y y != some Ordering.eq else false else bif forder .f32 x y == some Ordering.eq then decide (IntKind.i64.wrap (Int.ofNat (fcvt .f32 .f64 x)) < 0) == decide (IntKind.i64.wrap (Int.ofNat (fcvt .f32 .f64 y)) < 0) else false)) := by kernel_rfl
noncomputable def s82 : List A → Option (Bool × A)
  | [.flt .f32 x, .flt .f32 y] => some (true, .bool (same82 x y))
  | _ => none
theorem s82_at : EnvAt Try.prog 71 s82 := of_auto cfg16_ok (lp_none _) Try.func71 (by kernel_rfl) (by kernel_rfl) fun ds cc rr h hc => by
  unfold s82 at h
  split at h
  · rename_i x y
    simp only [Option.some.injEq, Prod.mk.injEq] at h
    obtain ⟨rfl, rfl⟩ := h
    refine auto_fit (auto82 x y) ?_ ?_
    · rfl
    · show (bif bif nan x then true else nan y then true else _) = true
      cases hx : nan x
      · cases hy : nan y
        · rw [nan_eq] at hx hy
          simp only [notNaN_fcvt hx, notNaN_fcvt hy]
          simp
        · rfl
      · rfl
  · cases h
noncomputable def env17 : List (Nat × (List A → Option (Bool × A))) := (71, s82) :: env16
theorem env17_ok : EnvOK Try.prog (look env17) := env_cons s82_at env16_ok
noncomputable def cfg17 : Cfg := mkCfg tab [] xts (look env17)
theorem cfg17_ok : CfgOK Try.prog cfg17 := cfg_ok tab_eq (no_fts _) xts_ok env17_ok mixed
noncomputable def I81 (n m n2 : Nat) (r s r2 : Nat → Nat) (k : Nat) : List A := [.ro 1 n2 (.flts .f32 r2), .ro 1 m (.flts .f32 s), .fn 71 [], .bool false, .ro 1 n (.flts .f32 r), .int .i64 (Int.ofNat n), .int .i64 (Int.ofNat k)]
theorem round81 (n m n2 : Nat) (r s r2 : Nat → Nat) (k : Nat) (L : XK → List A → List (Option O) → Prop) :
    ((exec cfg17 (fun _ => true) (fun _ => none) 0 1000 (loopOf Try.f70 0) (litSt Try.f70.ntmps 144 [0, 1, 2, 6, 15, 16, 17] [] (I81 n m n2 r s r2 k) [])).rt [0, 1, 2, 6, 15, 16, 17] []).Ok L =
    bif decide (Int.ofNat k < Int.ofNat n) then
      bif decide (Int.ofNat k < Int.ofNat n) then
        bif decide (Int.ofNat k < Int.ofNat m) then
          bif !same82 (r k) (s k) then
            L (XK.ret) [A.ro 1 n2 (Row.flts .f32 r2), A.ro 1 m (Row.flts .f32 s), A.fn 71 [], A.bool false, A.ro 1 n (Row.flts .f32 r), A.int .i64 (Int.ofNat n), A.int .i64 (Int.ofNat k)] []
          else
            L (XK.normal) [A.ro 1 n2 (Row.flts .f32 r2), A.ro 1 m (Row.flts .f32 s), A.fn 71 [], A.bool false, A.ro 1 n (Row.flts .f32 r), A.int .i64 (Int.ofNat n), A.int .i64 (IntKind.i64.wrap (Int.ofNat k + Int.ofNat 1))] []
        else
          False
      else
        False
    else
      L (XK.exit 0) [A.ro 1 n2 (Row.flts .f32 r2), A.ro 1 m (Row.flts .f32 s), A.fn 71 [], A.bool false, A.ro 1 n (Row.flts .f32 r), A.int .i64 (Int.ofNat n), A.int .i64 (Int.ofNat k)] [] := by kernel_rfl
noncomputable def F81 : List A → List (Option O) → Option R3
  | [.ro 1 n2 (.flts .f32 r2), .ro 1 m (.flts .f32 s), .fn 71 [], .bool false, .ro 1 n (.flts .f32 r), .int .i64 l, .int .i64 0], [] => some (.ite (decide (l = Int.ofNat n) && Nat.beq m n && Nat.ble n 4611686018427387000) (.ite (allUpTo (fun k => same82 (r k) (s k)) (n)) (.leaf .normal (I81 n m n2 r s r2 (n)) []) (.leaf (.ret) ((I81 n m n2 r s r2) (firstIdx (fun k => same82 (r k) (s k)) (n))) [])) .fail)
  | _, _ => none
theorem loop81 : CodeOK Try.prog (fun _ σ => sumAt Try.f70.ntmps 144 [0, 1, 2, 6, 15, 16, 17] [] F81 σ) (.block 0 (.loop (loopOf Try.f70 0))) := by
  refine block_ok (own := fun _ => true) (lp := (fun _ => none)) (un := 0) (fuel := 1000) cfg17_ok (lp_none _) fun az os R hF hok => ?_
  unfold F81 at hF
  split at hF
  · rename_i n2 r2 m s n r l
    injection hF with hF
    subst hF
    have hg := hok.guard
    have hg' := hg
    simp only [Bool.and_eq_true, Nat.ble_eq, Nat.beq_eq, decide_eq_true_eq] at hg'
    obtain ⟨⟨rfl, hm⟩, hn⟩ := hg'
    refine for_fact0 (fun k => same82 (r k) (s k)) (n) (I81 n m n2 r s r2) _ (.ret) (I81 n m n2 r s r2) (I81 n m n2 r s r2) (I81 n m n2 r s r2 (n)) rfl (fun _ => rfl) (fun _ => ALe.self _) (fun _ => rfl) (ALe.self _) rfl (fun h => by cases h) (fun k hk L h1 h2 h3 => ?_) fun L hL => ?_
    · rw [round81]
      by_cases hkm : k < n
      · refine condT (lt_dec hkm) ?_
        refine condT (lt_dec hkm) ?_
        refine condT (by rw [hm]; exact lt_dec hkm) ?_
        cases hs : same82 (r k) (s k)
        · exact h2 hkm hs
        · have := h1 hkm hs
          rw [wrap_succ (by omega)]
          exact this
      · refine condE (ge_dec (by omega)) ?_
        obtain rfl : k = n := by omega
        exact h3 rfl
    · exact ⟨fun h => (hL.1 hg).1 h, fun N hN hf hall => by
        have := (hL.1 hg).2 (allUpTo_false hN hf)
        rw [firstIdx_eq hN hf hall] at this
        exact this⟩
  · cases hF
noncomputable def sameL (f : Nat → Bool) (n m : Nat) : Bool := bif Int.ofNat n != Int.ofNat m then false else allUpTo f n
noncomputable def lp81 : List (Nat × (St → T)) := [(0, sumAt Try.f70.ntmps 144 [0, 1, 2, 6, 15, 16, 17] [] F81)]
theorem lp81_ok : LpOK Try.prog (look lp81) (bodyOf Try.f70) := lp_loops (by kernel_rfl) (by kernel_rfl) fun p hp => by
  simp only [lp81, List.mem_cons, List.not_mem_nil, or_false] at hp
  rcases hp with rfl
  · exact loop81
theorem auto81 (n m : Nat) (r s : Nat → Nat) : autoLp cfg17 (look lp81) Try.f70 [.ro 1 n (.flts .f32 r), .ro 1 m (.flts .f32 s), .fn 71 []] =
    some (bif Int.ofNat n != Int.ofNat m then true else decide (Int.ofNat n = Int.ofNat n) && m.beq n && n.ble 4611686018427387000 && bif allUpTo (fun k => same82 (r k) (s k)) n then true else true, A.bool (bif Int.ofNat n != Int.ofNat m then false else bif allUpTo (fun k => same82 (r k) (s k)) n then true else false)) := by kernel_rfl
noncomputable def s81 : List A → Option (Bool × A)
  | [.ro 1 n (.flts .f32 r), .ro 1 m (.flts .f32 s), .fn 71 []] => some (Nat.ble n 4611686018427387000, .bool (sameL (fun k => same82 (r k) (s k)) n m))
  | _ => none
theorem s81_at : EnvAt Try.prog 70 s81 := of_auto cfg17_ok lp81_ok Try.func70 (by kernel_rfl) (by kernel_rfl) fun ds cc rr h hc => by
  unfold s81 at h
  split at h
  · rename_i n r m s
    simp only [Option.some.injEq, Prod.mk.injEq] at h
    obtain ⟨rfl, rfl⟩ := h
    refine auto_fit (auto81 n m r s) ?_ ?_
    · unfold sameL
      cases Int.ofNat n != Int.ofNat m <;> cases allUpTo (fun k => same82 (r k) (s k)) n <;> rfl
    · rw [ne_nat]
      by_cases h : n = m
      · subst h
        rw [hc]
        simp
      · simp [h]
  · cases h
noncomputable def env18 : List (Nat × (List A → Option (Bool × A))) := (70, s81) :: env17
theorem env18_ok : EnvOK Try.prog (look env18) := env_cons s81_at env17_ok
noncomputable def cfg18 : Cfg := mkCfg tab [] xts (look env18)
theorem cfg18_ok : CfgOK Try.prog cfg18 := cfg_ok tab_eq (no_fts _) xts_ok env18_ok mixed
noncomputable def env19 : List (Nat × (List A → Option (Bool × A))) := (55, auto cfg18 Try.f55) :: env18
theorem env19_ok : EnvOK Try.prog (look env19) := env_cons (auto_at cfg18_ok Try.func55 (by kernel_rfl) (by kernel_rfl)) env18_ok
noncomputable def cfg19 : Cfg := mkCfg tab [] xts (look env19)
theorem cfg19_ok : CfgOK Try.prog cfg19 := cfg_ok tab_eq (no_fts _) xts_ok env19_ok mixed
noncomputable def env20 : List (Nat × (List A → Option (Bool × A))) := (29, auto cfg19 Try.f29) :: env19
theorem env20_ok : EnvOK Try.prog (look env20) := env_cons (auto_at cfg19_ok Try.func29 (by kernel_rfl) (by kernel_rfl)) env19_ok
noncomputable def cfg20 : Cfg := mkCfg tab [] xts (look env20)
theorem cfg20_ok : CfgOK Try.prog cfg20 := cfg_ok tab_eq (no_fts _) xts_ok env20_ok mixed
end Go.Fw.T1

/-
  Slices written into; circuits copied.
-/
namespace Go.Fw.T1
open Go.Proofs
theorem of_autoS {cfg : Cfg} (hc : CfgOK Try.prog cfg) {f : Nat} {fn : Func} {lp : Nat → Option (St → T)} {sel : Bool} (hlp : LpOK Try.prog lp (bodyOf fn)) (hf : Try.prog.funcs[f]? = some fn) (hb : fn.body.isSome = true) (hn : (fn.name == "runtime.NumGoroutine") = false)
    {s : List A → Option (Bool × A)} (h : ∀ ds c r, s ds = some (c, r) → c = true → ∃ c', autoS cfg lp sel fn ds = some (c', r) ∧ c' = true) : EnvAt Try.prog f s :=
  ⟨⟨fn, hf, hb, hn⟩, fun ds c r hs hct => by
    obtain ⟨c', h1, h2⟩ := h ds c r hs hct
    exact (autoS_at hc hlp hf hb hn).2 ds c' r h1 h2⟩
theorem auto91 (n : Nat) (r : Nat → Nat) : autoS cfg20 (fun _ => none) false Try.f57 [.ro 1 n (.flts .f32 r)] =
    some (decide (0 < n) && (decide (0 + n ≤ 1073741824) && true), A.ro 1 (0 + n) (Row.flts .f32 r)) := by kernel_rfl
noncomputable def s91 : List A → Option (Bool × A)
  | [.ro 1 n (.flts .f32 r)] => some (decide (0 < n) && decide (n ≤ 1073741824), .ro 1 n (.flts .f32 r))
  | _ => none
theorem s91_at : EnvAt Try.prog 57 s91 := of_autoS cfg20_ok (lp_none _) Try.func57 (by kernel_rfl) (by kernel_rfl) fun ds cc rr h hc => by
  unfold s91 at h
  split at h
  · rename_i n r
    simp only [Option.some.injEq, Prod.mk.injEq] at h
    obtain ⟨rfl, rfl⟩ := h
    refine auto_fit (auto91 n r) ?_ ?_
    · rw [Nat.zero_add]
    · simpa using hc
  · cases h
noncomputable def env21 : List (Nat × (List A → Option (Bool × A))) := (57, s91) :: env20
theorem env21_ok : EnvOK Try.prog (look env21) := env_cons s91_at env20_ok
noncomputable def cfg21 : Cfg := mkCfg tab [] xts (look env21)
theorem cfg21_ok : CfgOK Try.prog cfg21 := cfg_ok tab_eq (no_fts _) xts_ok env21_ok mixed
theorem auto67 (n gn cn : Nat) (r g c : Nat → Nat) : autoLp cfg21 (fun _ => none) Try.f32 [.agg [.ro 1 n (.flts .f32 r), .ro 1 gn (.flts .f32 g), .ro 1 cn (.flts .f32 c)]] =
    some (decide (0 < gn) && decide (gn ≤ 1073741824) && (decide (0 < n) && decide (n ≤ 1073741824) && true) && (decide (0 < cn) && decide (cn ≤ 1073741824) && true), A.agg [A.ro 1 n (Row.flts .f32 r), A.ro 1 gn (Row.flts .f32 g), A.ro 1 cn (Row.flts .f32 c)]) := by kernel_rfl
noncomputable def s67 : List A → Option (Bool × A)
  | [.agg [.ro 1 n (.flts .f32 r), .ro 1 gn (.flts .f32 g), .ro 1 cn (.flts .f32 c)]] => some (decide (0 < n) && decide (n ≤ 1073741824) && (decide (0 < gn) && decide (gn ≤ 1073741824)) && (decide (0 < cn) && decide (cn ≤ 1073741824)), .agg [.ro 1 n (.flts .f32 r), .ro 1 gn (.flts .f32 g), .ro 1 cn (.flts .f32 c)])
  | _ => none
theorem s67_at : EnvAt Try.prog 32 s67 := of_auto cfg21_ok (lp_none _) Try.func32 (by kernel_rfl) (by kernel_rfl) fun ds cc rr h hc => by
  unfold s67 at h
  split at h
  · rename_i n r gn g cn c
    simp only [Option.some.injEq, Prod.mk.injEq] at h
    obtain ⟨rfl, rfl⟩ := h
    refine auto_fit (auto67 n gn cn r g c) ?_ ?_
    · rfl
    · simp only [Bool.and_eq_true, decide_eq_true_eq] at hc; simp [hc]
  · cases h
noncomputable def fts68 : List (Nat × Func) := [(34, Try.f34)]
theorem fts68_ok (f : Nat) (fn : Func) (h : (f, fn) ∈ fts68) : Try.prog.funcs[f]? = some fn ∧ (fn.name == "runtime.NumGoroutine") = false := by
  simp only [fts68, List.mem_cons, Prod.mk.injEq, List.not_mem_nil, or_false] at h
  obtain ⟨rfl, rfl⟩ := h
  exact ⟨Try.func34, by kernel_rfl⟩
noncomputable def env22 : List (Nat × (List A → Option (Bool × A))) := (32, s67) :: env21
theorem env22_ok : EnvOK Try.prog (look env22) := env_cons s67_at env21_ok
noncomputable def cfg22 : Cfg := mkCfg tab fts68 xts (look env22)
theorem cfg22_ok : CfgOK Try.prog cfg22 := cfg_ok tab_eq fts68_ok xts_ok env22_ok mixed
noncomputable def tuneNo (n gn cn : Nat) (r g c : Nat → Nat) (i : Int) (w : Nat) : Bool := bif loopNo n gn cn r g c i then true else !above w
noncomputable def tuneG (n : Nat) (g c : Nat → Nat) (i : Int) (w : Nat) (j : Nat) : Nat := match decide (j = i.toNat) with
  | true => fop .mul .f32 (fop .mul .f32 w w) (c (ixI n i i))
  | false => g j
noncomputable def tuneOk (n gn cn : Nat) (r g c : Nat → Nat) (i : Int) (w : Nat) : Bool := !tuneNo n gn cn r g c i w && valid n gn cn r (tuneG n g c i w) c
theorem tune_sizes {n gn cn : Nat} {r g c : Nat → Nat} {i : Int} {w : Nat} (h : tuneNo n gn cn r g c i w = false) : ∃ a, i = Int.ofNat a ∧ a < n ∧ 1 ≤ n ∧ n ≤ 6 ∧ gn = n ∧ cn = n * n := by
  unfold tuneNo at h
  cases hl : loopNo n gn cn r g c i
  · obtain ⟨a, h1, h2, h3, h4, h5⟩ := loop_ok hl
    exact ⟨a, h1, h2, by omega, h3, h4, h5⟩
  · rw [hl] at h; cases h
theorem tune_assert {n gn cn : Nat} {r g c : Nat → Nat} {i : Int} {w : Nat} (h : tuneNo n gn cn r g c i w = false) : (decide (0 < n) && decide (n ≤ 1073741824)) = true ∧ (decide (0 < gn) && decide (gn ≤ 1073741824)) = true ∧ (decide (0 < cn) && decide (cn ≤ 1073741824)) = true ∧
    (decide (0 ≤ IntKind.i64.wrap (IntKind.i64.wrap (i * Int.ofNat n) + i)) && decide (IntKind.i64.wrap (IntKind.i64.wrap (i * Int.ofNat n) + i) < Int.ofNat cn)) = true ∧ (decide (0 ≤ i) && decide (i < Int.ofNat gn)) = true := by
  obtain ⟨a, rfl, ha, h1, h2, h3, h4⟩ := tune_sizes h
  have h5 := sq_le h2
  have h6 : 1 * 1 ≤ n * n := Nat.mul_le_mul h1 h1
  rw [wrap_ix ha ha h2, h3, h4]
  refine ⟨?_, ?_, ?_, ?_, ?_⟩
  · simp; omega
  · simp; omega
  · simp only [Bool.and_eq_true, decide_eq_true_eq]; omega
  · rw [dec0, lt_dec (ix_lt ha ha h2)]; rfl
  · rw [dec0, lt_dec ha]; rfl
theorem tuneNo_eq (n gn cn : Nat) (r g c : Nat → Nat) (i : Int) (w : Nat) : (bif !bif valid n gn cn r g c then inn n i else false then true else !above w) = tuneNo n gn cn r g c i w := by
  unfold tuneNo
  rw [← loopNo_eq]
theorem auto31T (n gn cn : Nat) (r g c : Nat → Nat) (i : Int) (w : Nat) : autoS cfg22 (fun _ => none) false Try.f7 [.agg [.ro 1 n (.flts .f32 r), .ro 1 gn (.flts .f32 g), .ro 1 cn (.flts .f32 c)], .int .i64 i, .flt .f32 w] =
    some   ((!bif !bif valid n gn cn r g c then bif decide (i ≥ 0) then decide (i ≤ IntKind.i64.wrap (Int.ofNat n - 1)) else false else false then true else !above w) &&       (decide (0 < n) && decide (n ≤ 1073741824) && (decide (0 < gn) && decide (gn ≤ 1073741824)) && (decide (0 < cn) && decide (cn ≤ 1073741824)) &&         (decide (0 ≤ IntKind.i64.wrap (IntKind.i64.wrap (i * Int.ofNat n) + i)) && decide (IntKind.i64.wrap (IntKind.i64.wrap (i * Int.ofNat n) + i) < Int.ofNat cn) && true && true &&           (decide (0 ≤ i) && decide (i < Int.ofNat gn) &&             (!!valid n gn cn r                     (fun j =>                       match decide (j = i.toNat) with                       | true => fop .mul .f32 (fop .mul .f32 w w) (c (IntKind.i64.wrap (IntKind.i64.wrap (i * Int.ofNat n) + i)).toNat)                       | false => g j)                     c &&               true)))),     A.tup       [A.agg           [A.ro 1 n (Row.flts .f32 r),             A.ro 1 gn               (Row.flts .f32 fun j =>                 match decide (j = i.toNat) with                 | true => fop .mul .f32 (fop .mul .f32 w w) (c (IntKind.i64.wrap (IntKind.i64.wrap (i * Int.ofNat n) + i)).toNat)                 | false => g j),             A.ro 1 cn (Row.flts .f32 c)],         A.bool true]) := by kernel_rfl
noncomputable def s31T : List A → Option (Bool × A)
  | [.agg [.ro 1 n (.flts .f32 r), .ro 1 gn (.flts .f32 g), .ro 1 cn (.flts .f32 c)], .int .i64 i, .flt .f32 w] => some (tuneOk n gn cn r g c i w, .tup [.agg [.ro 1 n (.flts .f32 r), .ro 1 gn (.flts .f32 (tuneG n g c i w)), .ro 1 cn (.flts .f32 c)], .bool true])
  | _ => none
theorem s31T_at : EnvAt Try.prog 7 s31T := of_autoS cfg22_ok (lp_none _) Try.func7 (by kernel_rfl) (by kernel_rfl) fun ds cc rr h hc => by
  unfold s31T at h
  split at h
  · rename_i n r gn g cn c i w
    simp only [Option.some.injEq, Prod.mk.injEq] at h
    obtain ⟨rfl, rfl⟩ := h
    refine auto_fit (auto31T n gn cn r g c i w) ?_ ?_
    · rfl
    · simp only [tuneOk, Bool.and_eq_true, Bool.not_eq_true'] at hc
      obtain ⟨h1, h2, h3, h4, h5⟩ := tune_assert hc.1
      show ((!(bif !bif valid n gn cn r g c then inn n i else false then true else !above w)) && ((decide (0 < n) && decide (n ≤ 1073741824)) && (decide (0 < gn) && decide (gn ≤ 1073741824)) && (decide (0 < cn) && decide (cn ≤ 1073741824)) && ((decide (0 ≤ IntKind.i64.wrap (IntKind.i64.wrap (i * Int.ofNat n) + i)) && decide (IntKind.i64.wrap (IntKind.i64.wrap (i * Int.ofNat n) + i) < Int.ofNat cn)) && true && true && ((decide (0 ≤ i) && decide (i < Int.ofNat gn)) && (!!valid n gn cn r (tuneG n g c i w) c && true))))) = true
      rw [h1, h2, h3, h4, h5, tuneNo_eq, hc.1, hc.2]
      rfl
  · cases h
end Go.Fw.T1

/-
  Slices written into.
-/
namespace Go.Fw.T1
open Go.Proofs
noncomputable def env23 : List (Nat × (List A → Option (Bool × A))) := env22
theorem env23_ok : EnvOK Try.prog (look env23) := env22_ok
noncomputable def env24 : List (Nat × (List A → Option (Bool × A))) := env23
theorem env24_ok : EnvOK Try.prog (look env24) := env23_ok
noncomputable def cfg24 : Cfg := mkCfg tab [] xts (look env24)
theorem cfg24_ok : CfgOK Try.prog cfg24 := cfg_ok tab_eq (no_fts _) xts_ok env24_ok mixed
end Go.Fw.T1

/-
  Transformers.
-/
namespace Go.Fw.T1
open Go.Proofs
def trR (s t i : Nat) : Nat := [s, t].getD i 0
def trC (a b k i : Nat) : Nat := [a, fop .mul .f32 k (root32 (fop .mul .f32 a b)), fop .mul .f32 k (root32 (fop .mul .f32 a b)), b].getD i 0
noncomputable def trOk (a b k s t : Nat) : Bool := valid 2 2 4 (trR s t) (trR (can .f32 0) (can .f32 0)) (trC a b k)
theorem auto44T (a b k s t : Nat) : autoS cfg22 (fun _ => none) false Try.f13 [.flt .f32 a, .flt .f32 b, .flt .f32 k, .flt .f32 s, .flt .f32 t] =
    some ((!!valid 2 2 4 (fun i => [s, t].getD i 0) (fun i => [can .f32 0, can .f32 0].getD i 0) fun i => [a, fop .mul .f32 k (root32 (fop .mul .f32 a b)), fop .mul .f32 k (root32 (fop .mul .f32 a b)), b].getD i 0) && true, A.tup [A.agg [A.ro 1 2 (Row.flts .f32 fun i => [s, t].getD i 0), A.ro 1 2 (Row.flts .f32 fun i => [can .f32 0, can .f32 0].getD i 0), A.ro 1 4 (Row.flts .f32 fun i => [a, fop .mul .f32 k (root32 (fop .mul .f32 a b)), fop .mul .f32 k (root32 (fop .mul .f32 a b)), b].getD i 0)], A.bool true]) := by kernel_rfl
noncomputable def s44T : List A → Option (Bool × A)
  | [.flt .f32 a, .flt .f32 b, .flt .f32 k, .flt .f32 s, .flt .f32 t] => some (trOk a b k s t, .tup [.agg [.ro 1 2 (.flts .f32 (trR s t)), .ro 1 2 (.flts .f32 (trR (can .f32 0) (can .f32 0))), .ro 1 4 (.flts .f32 (trC a b k))], .bool true])
  | _ => none
theorem s44T_at : EnvAt Try.prog 13 s44T := of_autoS cfg22_ok (lp_none _) Try.func13 (by kernel_rfl) (by kernel_rfl) fun ds cc rr h hc => by
  unfold s44T at h
  split at h
  · rename_i a b k s t
    simp only [Option.some.injEq, Prod.mk.injEq] at h
    obtain ⟨rfl, rfl⟩ := h
    refine auto_fit (auto44T a b k s t) ?_ ?_
    · rfl
    · show (!!trOk a b k s t && true) = true
      simpa using hc
  · cases h
end Go.Fw.T1

/-
  Impedances.
-/
namespace Go.Fw.T1
open Go.Proofs
def zR (n : Nat) (r : Nat → Nat) (p : Nat) : Nat := bif Nat.beq (p / n) (p % n) then r (p / n) else can .f32 0
def zI (n : Nat) (g c : Nat → Nat) (w p : Nat) : Nat := bif Nat.beq (p / n) (p % n) then fop .sub .f32 (fop .mul .f32 w (c p)) (fop .quo .f32 (g (p / n)) w) else fop .mul .f32 w (c p)
def upto (l : Nat) (a b : Nat → Nat) (p : Nat) : Nat := match decide (p < l) with | true => a p | false => b p
theorem upto_app {l k : Nat} {a z : Nat → Nat} {v : Nat} (hv : v = z (l + k)) {p : Nat} (hp : p < l + k + 1) : (match decide (p < l + k) with | true => upto l a z p | false => v) = upto l a z p := by
  by_cases h : p < l + k
  · simp [h]
  · obtain rfl : p = l + k := by omega
    have h2 : ¬ (l + k < l) := by omega
    simp [upto, h2, hv]
theorem cpx_at {k : FloatKind} {f1 f2 g1 g2 : Nat → Nat} {p : Nat} (h1 : f1 p = g1 p) (h2 : f2 p = g2 p) : (Row.cpxs k f1 f2 : Row A).at p = (Row.cpxs k g1 g2 : Row A).at p := by
  simp only [Row.at, h1, h2]
theorem ix_div {i k n : Nat} (hk : k < n) : (i * n + k) / n = i := by
  rw [Nat.mul_comm, Nat.mul_add_div (by omega), Nat.div_eq_of_lt hk, Nat.add_zero]
theorem ix_mod {i k n : Nat} (hk : k < n) : (i * n + k) % n = k := by
  rw [Nat.mul_comm, Nat.mul_add_mod, Nat.mod_eq_of_lt hk]
theorem zR_on {n i : Nat} (r : Nat → Nat) (hi : i < n) : r i = zR n r (i * n + i) := by
  unfold zR; rw [ix_div hi, ix_mod hi, Nat.beq_refl]; rfl
theorem zI_on {n i w : Nat} (g c : Nat → Nat) (hi : i < n) : fop .sub .f32 (fop .mul .f32 w (c (i * n + i))) (fop .quo .f32 (g i) w) = zI n g c w (i * n + i) := by
  unfold zI; rw [ix_div hi, ix_mod hi, Nat.beq_refl]; rfl
theorem beq_ne {i k : Nat} (h : i ≠ k) : Nat.beq i k = false := by
  cases hb : Nat.beq i k
  · rfl
  · exact absurd (Nat.eq_of_beq_eq_true hb) h
theorem zR_off {n i k : Nat} (r : Nat → Nat) (hk : k < n) (h : i ≠ k) : can .f32 0 = zR n r (i * n + k) := by
  unfold zR; rw [ix_div hk, ix_mod hk, beq_ne h]; rfl
theorem zI_off {n i k w : Nat} (g c : Nat → Nat) (hk : k < n) (h : i ≠ k) : fop .mul .f32 w (c (i * n + k)) = zI n g c w (i * n + k) := by
  unfold zI; rw [ix_div hk, ix_mod hk, beq_ne h]; rfl
noncomputable def I72j (n gn cn i w l : Nat) (r g c a b : Nat → Nat) (q q2 : Int) (k : Nat) : List A := [.flt .f32 w, .ptr 0 0, .sl 32 (l + k), .int .i64 (Int.ofNat i), .int .i64 q, .int .i64 q2, .int .i64 (Int.ofNat n), .int .i64 (Int.ofNat k)]
noncomputable def J72j (n gn cn i w l : Nat) (r g c a b : Nat → Nat) (q q2 : Int) (k : Nat) : List O := [.var [.ro 1 n (.flts .f32 r), .ro 1 gn (.flts .f32 g), .ro 1 cn (.flts .f32 c)], .row 33 1 (l + k) (.cpxs .f32 (upto l a (zR n r)) (upto l b (zI n g c w)))]
theorem round72j (n gn cn i w l : Nat) (r g c a b : Nat → Nat) (q q2 : Int) (k : Nat) (L : XK → List A → List (Option O) → Prop) :
    ((exec cfg22 (fun _ => true) (fun _ => none) 0 1000 (loopOf Try.f46 2) (litSt Try.f46.ntmps 208 [1, 2, 5, 6, 11, 12, 16, 17] [0, 32] (I72j n gn cn i w l r g c a b q q2 k) (J72j n gn cn i w l r g c a b q q2 k))).rt [1, 2, 5, 6, 11, 12, 16, 17] [0, 32]).Ok L =
    bif decide (Int.ofNat k < Int.ofNat n) then
      bif decide (0 ≤ IntKind.i64.wrap (IntKind.i64.wrap (Int.ofNat i * Int.ofNat n) + Int.ofNat k)) && decide (IntKind.i64.wrap (IntKind.i64.wrap (Int.ofNat i * Int.ofNat n) + Int.ofNat k) < Int.ofNat cn) && true then
        bif Int.ofNat i == Int.ofNat k then
          bif decide (Int.ofNat i < Int.ofNat gn) && (decide (0 ≤ IntKind.i64.wrap (IntKind.i64.wrap (Int.ofNat i * Int.ofNat n) + Int.ofNat i)) && decide (IntKind.i64.wrap (IntKind.i64.wrap (Int.ofNat i * Int.ofNat n) + Int.ofNat i) < Int.ofNat cn) && true && (decide (Int.ofNat i < Int.ofNat n) && true)) then
            bif decide (l + k + 1 ≤ 1073741824) then
              L (XK.normal) ([A.flt .f32 w, A.ptr 0 0, A.sl 32 (l + k + 1), A.int .i64 (Int.ofNat i), A.int .i64 q, A.int .i64 q2, A.int .i64 (Int.ofNat n), A.int .i64 (IntKind.i64.wrap (Int.ofNat k + Int.ofNat 1))]) ([some (O.var [A.ro 1 n (Row.flts .f32 r), A.ro 1 gn (Row.flts .f32 g), A.ro 1 cn (Row.flts .f32 c)]),   some     (O.row 33 1 (l + k + 1)       (Row.cpxs .f32         (fun j =>           match decide (j < l + k) with           | true => upto l a (zR n r) j           | false => r i)         fun j =>         match decide (j < l + k) with         | true => upto l b (zI n g c w) j         | false => fop .sub .f32 (fop .mul .f32 w (c (IntKind.i64.wrap (IntKind.i64.wrap (Int.ofNat i * Int.ofNat n) + Int.ofNat i)).toNat)) (fop .quo .f32 (g i) w)))])
            else
              False
          else
            False
        else
          bif decide (l + k + 1 ≤ 1073741824) then
            L (XK.normal) ([A.flt .f32 w, A.ptr 0 0, A.sl 32 (l + k + 1), A.int .i64 (Int.ofNat i), A.int .i64 q, A.int .i64 q2, A.int .i64 (Int.ofNat n), A.int .i64 (IntKind.i64.wrap (Int.ofNat k + Int.ofNat 1))]) ([some (O.var [A.ro 1 n (Row.flts .f32 r), A.ro 1 gn (Row.flts .f32 g), A.ro 1 cn (Row.flts .f32 c)]),   some     (O.row 33 1 (l + k + 1)       (Row.cpxs .f32         (fun j =>           match decide (j < l + k) with           | true => upto l a (zR n r) j           | false => can .f32 0)         fun j =>         match decide (j < l + k) with         | true => upto l b (zI n g c w) j         | false => fop .mul .f32 w (c (IntKind.i64.wrap (IntKind.i64.wrap (Int.ofNat i * Int.ofNat n) + Int.ofNat k)).toNat)))])
          else
            False
      else
        False
    else
      L (XK.exit 2) ([A.flt .f32 w, A.ptr 0 0, A.sl 32 (l + k), A.int .i64 (Int.ofNat i), A.int .i64 q, A.int .i64 q2, A.int .i64 (Int.ofNat n), A.int .i64 (Int.ofNat k)]) ([some (O.var [A.ro 1 n (Row.flts .f32 r), A.ro 1 gn (Row.flts .f32 g), A.ro 1 cn (Row.flts .f32 c)]), some (O.row 33 1 (l + k) (Row.cpxs .f32 (fun p => upto l a (zR n r) p) fun p => upto l b (zI n g c w) p))]) := by kernel_rfl
noncomputable def F72j : List A → List (Option O) → Option R3
  | [.flt .f32 w, .ptr 0 0, .sl 32 l, .int .i64 (.ofNat i), .int .i64 q, .int .i64 q2, .int .i64 m, .int .i64 0], [some (.var [.ro 1 n (.flts .f32 r), .ro 1 gn (.flts .f32 g), .ro 1 cn (.flts .f32 c)]), some (.row 33 1 l2 (.cpxs .f32 a b))] => some (.ite (decide (m = Int.ofNat n) && Nat.beq l2 l && Nat.beq l (i * n) && Nat.blt i n && Nat.ble n 6 && Nat.beq cn (n * n) && Nat.beq gn n) (.leaf .normal (I72j n gn cn i w l r g c a b q q2 (n)) (J72j n gn cn i w l r g c a b q q2 (n))) .fail)
  | _, _ => none
theorem loop72j : CodeOK Try.prog (fun _ σ => sumAt Try.f46.ntmps 208 [1, 2, 5, 6, 11, 12, 16, 17] [0, 32] F72j σ) (.block 2 (.loop (loopOf Try.f46 2))) := by
  refine block_ok (own := fun _ => true) (lp := (fun _ => none)) (un := 0) (fuel := 1000) cfg22_ok (lp_none _) fun az os R hF hok => ?_
  unfold F72j at hF
  split at hF
  · rename_i w l i q q2 m n r gn g cn c l2 a b
    injection hF with hF
    subst hF
    have hg := hok.guard
    have hg' := hg
    simp only [Bool.and_eq_true, Nat.ble_eq, Nat.beq_eq, decide_eq_true_eq] at hg'
    obtain ⟨⟨⟨⟨⟨⟨rfl, hl2⟩, hl⟩, hi⟩, hn⟩, hcn⟩, hgn⟩ := hg'
    have hi := blt_lt' hi
    refine for_fact (fun _ => true) (n) (I72j n gn cn i w l r g c a b q q2) (J72j n gn cn i w l r g c a b q q2) _ .ret (I72j n gn cn i w l r g c a b q q2) (I72j n gn cn i w l r g c a b q q2) (I72j n gn cn i w l r g c a b q q2 (n)) (J72j n gn cn i w l r g c a b q q2 (n)) rfl (by unfold J72j; exact ⟨rfl, ⟨33, _, by rw [hl2]; rfl, .inr rfl, fun p hp => cpx_at (by simp [upto, show p < l from hp]) (by simp [upto, show p < l from hp])⟩, trivial⟩) (fun _ => rfl) (fun _ => rfl) (fun _ => ALe.self _) (fun _ => rfl) (ALe.self _) (OSims.self (J72j n gn cn i w l r g c a b q q2 (n))) rfl (fun h => by cases h) (fun k hk L h1 h2 h3 => ?_) fun L hL => ?_
    · rw [round72j]
      by_cases hkm : k < n
      · refine condT (lt_dec hkm) ?_
        have hx := ix_lt hi hkm hn
        have hx2 := sq_le hn
        rw [wrap_ix hi hkm hn, wrap_succ (by omega)]
        refine condT (by rw [hcn, dec0, lt_dec hx]; rfl) ?_
        by_cases hik : i = k
        · subst hik
          rw [wrap_ix hi hi hn]
          refine condT (by simp) ?_
          refine condT (by rw [hgn, hcn, lt_dec hi, dec0, lt_dec hx]; rfl) ?_
          refine condT (decide_eq_true (by omega)) ?_
          exact h1 hkm rfl _ ⟨rfl, ⟨33, _, rfl, .inr rfl, fun p hp => cpx_at (upto_app (by rw [hl]; exact zR_on r hi) hp) (upto_app (by rw [hl]; exact zI_on g c hi) hp)⟩, trivial⟩
        · refine condE (by simp; omega) ?_
          refine condT (decide_eq_true (by omega)) ?_
          exact h1 hkm rfl _ ⟨rfl, ⟨33, _, rfl, .inr rfl, fun p hp => cpx_at (upto_app (by rw [hl]; exact zR_off r hkm hik) hp) (upto_app (by rw [hl]; exact zI_off g c hkm hik) hp)⟩, trivial⟩
      · refine condE (ge_dec (by omega)) ?_
        obtain rfl : k = n := by omega
        exact h3 rfl
    · exact ⟨fun _ => hL.1 hg, fun N _ h => by cases h⟩
  · cases hF
end Go.Fw.T1

/-
  The outer loops of impedances.
-/
namespace Go.Fw.T1
open Go.Proofs
theorem upto_self (l : Nat) (a : Nat → Nat) (p : Nat) : upto l a a p = a p := by
  unfold upto; split <;> rfl
noncomputable def lpi72i : List (Nat × (St → T)) := [(2, sumAt Try.f46.ntmps 208 [1, 2, 5, 6, 11, 12, 16, 17] [0, 32] F72j)]
theorem lpi72i_ok : LpOK Try.prog (look lpi72i) (loopOf Try.f46 0) := lp_in (lp_loops (by kernel_rfl) (by kernel_rfl) fun p hp => by
  simp only [lpi72i, List.mem_cons, List.not_mem_nil, or_false] at hp
  rcases hp with rfl
  · exact loop72j) _
noncomputable def I72i (n gn cn w : Nat) (r g c : Nat → Nat) (k : Nat) : List A := [.flt .f32 w, .ptr 0 0, .sl 32 (n * k), .int .i64 (Int.ofNat n), .int .i64 (Int.ofNat k)]
noncomputable def J72i (n gn cn w : Nat) (r g c : Nat → Nat) (k : Nat) : List O := [.var [.ro 1 n (.flts .f32 r), .ro 1 gn (.flts .f32 g), .ro 1 cn (.flts .f32 c)], .row 33 1 (n * k) (.cpxs .f32 (zR n r) (zI n g c w))]
theorem round72i (n gn cn w : Nat) (r g c : Nat → Nat) (k : Nat) (L : XK → List A → List (Option O) → Prop) :
    ((exec cfg22 (fun _ => true) (look lpi72i) 0 1000 (loopOf Try.f46 0) (litSt Try.f46.ntmps 112 [1, 2, 5, 11, 12] [0, 32] (I72i n gn cn w r g c k) (J72i n gn cn w r g c k))).rt [1, 2, 5, 11, 12] [0, 32]).Ok L =
    bif decide (Int.ofNat k < Int.ofNat n) then
      bif decide (Int.ofNat n = Int.ofNat n) && (n * k).beq (n * k) && (n * k).beq (k * n) && k.blt n && n.ble 6 && cn.beq (n * n) && gn.beq n then
        L (XK.normal) ([A.flt .f32 w, A.ptr 0 0, A.sl 32 (n * k + n), A.int .i64 (Int.ofNat n), A.int .i64 (IntKind.i64.wrap (Int.ofNat k + Int.ofNat 1))]) ([some (O.var [A.ro 1 n (Row.flts .f32 r), A.ro 1 gn (Row.flts .f32 g), A.ro 1 cn (Row.flts .f32 c)]), some (O.row 33 1 (n * k + n) (Row.cpxs .f32 (fun p => upto (n * k) (zR n r) (zR n r) p) fun p => upto (n * k) (zI n g c w) (zI n g c w) p))])
      else
        False
    else
      L (XK.exit 0) ([A.flt .f32 w, A.ptr 0 0, A.sl 32 (n * k), A.int .i64 (Int.ofNat n), A.int .i64 (Int.ofNat k)]) ([some (O.var [A.ro 1 n (Row.flts .f32 r), A.ro 1 gn (Row.flts .f32 g), A.ro 1 cn (Row.flts .f32 c)]), some (O.row 33 1 (n * k) (Row.cpxs .f32 (fun p => zR n r p) fun p => zI n g c w p))]) := by kernel_rfl
noncomputable def F72i : List A → List (Option O) → Option R3
  | [.flt .f32 w, .ptr 0 0, .sl 32 0, .int .i64 m, .int .i64 0], [some (.var [.ro 1 n (.flts .f32 r), .ro 1 gn (.flts .f32 g), .ro 1 cn (.flts .f32 c)]), some (.row 33 1 0 gg)] => some (.ite (decide (m = Int.ofNat n) && Nat.ble n 6 && Nat.beq cn (n * n) && Nat.beq gn n) (.leaf .normal (I72i n gn cn w r g c (n)) (J72i n gn cn w r g c (n))) .fail)
  | _, _ => none
theorem loop72i : CodeOK Try.prog (fun _ σ => sumAt Try.f46.ntmps 112 [1, 2, 5, 11, 12] [0, 32] F72i σ) (.block 0 (.loop (loopOf Try.f46 0))) := by
  refine block_ok (own := fun _ => true) (lp := (look lpi72i)) (un := 0) (fuel := 1000) cfg22_ok lpi72i_ok fun az os R hF hok => ?_
  unfold F72i at hF
  split at hF
  · rename_i w m n r gn g cn c gg
    injection hF with hF
    subst hF
    have hg := hok.guard
    have hg' := hg
    simp only [Bool.and_eq_true, Nat.ble_eq, Nat.beq_eq, decide_eq_true_eq] at hg'
    obtain ⟨⟨⟨rfl, hn⟩, hcn⟩, hgn⟩ := hg'
    refine for_fact (fun _ => true) (n) (I72i n gn cn w r g c) (J72i n gn cn w r g c) _ .ret (I72i n gn cn w r g c) (I72i n gn cn w r g c) (I72i n gn cn w r g c (n)) (J72i n gn cn w r g c (n)) rfl (by unfold J72i; exact ⟨rfl, ⟨33, _, rfl, .inr rfl, fun p hp => absurd hp (by omega)⟩, trivial⟩) (fun _ => rfl) (fun _ => rfl) (fun _ => ALe.self _) (fun _ => rfl) (ALe.self _) (OSims.self (J72i n gn cn w r g c (n))) rfl (fun h => by cases h) (fun k hk L h1 h2 h3 => ?_) fun L hL => ?_
    · rw [round72i]
      by_cases hkm : k < n
      · refine condT (lt_dec hkm) ?_
        have hx2 := sq_le hn
        have hkn : n * k = k * n := Nat.mul_comm n k
        have hb : Nat.blt k n = true := by simp [Nat.blt_eq, hkm]
        have hn6 : Nat.ble n 6 = true := by simp [Nat.ble_eq, hn]
        rw [wrap_succ (by omega)]
        refine condT (by rw [hcn, hgn, hb, hn6, hkn]; simp) ?_
        exact h1 hkm rfl _ ⟨rfl, ⟨33, _, rfl, .inr rfl, fun p hp => cpx_at (upto_self _ _ _) (upto_self _ _ _)⟩, trivial⟩
      · refine condE (ge_dec (by omega)) ?_
        obtain rfl : k = n := by omega
        exact h3 rfl
    · exact ⟨fun _ => hL.1 hg, fun N _ h => by cases h⟩
  · cases hF
end Go.Fw.T1

/-
  Impedances' contracts.
-/
namespace Go.Fw.T1
open Go.Proofs
noncomputable def lp72 : List (Nat × (St → T)) := [(0, sumAt Try.f46.ntmps 112 [1, 2, 5, 11, 12] [0, 32] F72i)]
theorem lp72_ok : LpOK Try.prog (look lp72) (bodyOf Try.f46) := lp_loops (by kernel_rfl) (by kernel_rfl) fun p hp => by
  simp only [lp72, List.mem_cons, List.not_mem_nil, or_false] at hp
  rcases hp with rfl
  · exact loop72i
theorem auto72 (n gn cn w : Nat) (r g c : Nat → Nat) : autoLp cfg22 (look lp72) Try.f46 [.agg [.ro 1 n (.flts .f32 r), .ro 1 gn (.flts .f32 g), .ro 1 cn (.flts .f32 c)], .flt .f32 w] =
    some (decide (Int.ofNat n = Int.ofNat n) && n.ble 6 && cn.beq (n * n) && gn.beq n && true, A.ro 1 (n * n) (Row.cpxs .f32 (fun p => zR n r p) fun p => zI n g c w p)) := by kernel_rfl
noncomputable def s72 : List A → Option (Bool × A)
  | [.agg [.ro 1 n (.flts .f32 r), .ro 1 gn (.flts .f32 g), .ro 1 cn (.flts .f32 c)], .flt .f32 w] => some (Nat.ble n 6 && Nat.beq cn (n * n) && Nat.beq gn n, .ro 1 (n * n) (.cpxs .f32 (zR n r) (zI n g c w)))
  | _ => none
theorem s72_at : EnvAt Try.prog 46 s72 := of_auto cfg22_ok lp72_ok Try.func46 (by kernel_rfl) (by kernel_rfl) fun ds cc rr h hc => by
  unfold s72 at h
  split at h
  · rename_i n r gn g cn c w
    simp only [Option.some.injEq, Prod.mk.injEq] at h
    obtain ⟨rfl, rfl⟩ := h
    refine auto_fit (auto72 n gn cn w r g c) ?_ ?_
    · rfl
    · simpa using hc
  · cases h
noncomputable def env25 : List (Nat × (List A → Option (Bool × A))) := (46, s72) :: env22
theorem env25_ok : EnvOK Try.prog (look env25) := env_cons s72_at env22_ok
noncomputable def cfg25 : Cfg := mkCfg tab [] xts (look env25)
theorem cfg25_ok : CfgOK Try.prog cfg25 := cfg_ok tab_eq (no_fts _) xts_ok env25_ok mixed
noncomputable def impOk (n gn cn : Nat) (r g c : Nat → Nat) (w : Nat) : Bool := valid n gn cn r g c && above w
theorem auto35T (n gn cn w : Nat) (r g c : Nat → Nat) : autoS cfg25 (fun _ => none) false Try.f20 [.agg [.ro 1 n (.flts .f32 r), .ro 1 gn (.flts .f32 g), .ro 1 cn (.flts .f32 c)], .flt .f32 w] =
    some ((!bif !valid n gn cn r g c then true else !above w) && (n.ble 6 && cn.beq (n * n) && gn.beq n && true), A.tup [A.ro 1 (n * n) (Row.cpxs .f32 (fun p => zR n r p) fun p => zI n g c w p), A.bool true]) := by kernel_rfl
noncomputable def s35T : List A → Option (Bool × A)
  | [.agg [.ro 1 n (.flts .f32 r), .ro 1 gn (.flts .f32 g), .ro 1 cn (.flts .f32 c)], .flt .f32 w] => some (impOk n gn cn r g c w, .tup [.ro 1 (n * n) (.cpxs .f32 (zR n r) (zI n g c w)), .bool true])
  | _ => none
theorem s35T_at : EnvAt Try.prog 20 s35T := of_autoS cfg25_ok (lp_none _) Try.func20 (by kernel_rfl) (by kernel_rfl) fun ds cc rr h hc => by
  unfold s35T at h
  split at h
  · rename_i n r gn g cn c w
    simp only [Option.some.injEq, Prod.mk.injEq] at h
    obtain ⟨rfl, rfl⟩ := h
    refine auto_fit (auto35T n gn cn w r g c) ?_ ?_
    · rfl
    · simp only [impOk, Bool.and_eq_true] at hc
      obtain ⟨_, h2, h3, h4⟩ := valid_sizes hc.1
      rw [hc.1, hc.2, h3, h4]
      simp [h2]
  · cases h
end Go.Fw.T1

/-
  Complex numbers compared.
-/
namespace Go.Fw.T1
open Go.Proofs
end Go.Fw.T1

/-
  The law of impedances.
-/
namespace Go.Fw.T1
open Go.Proofs
end Go.Fw.T1

/-
  The law of impedances, closed.
-/
namespace Go.Fw.T1
open Go.Proofs
end Go.Fw.T1

/-
  Tables whose zero circuit's slices are nil.
-/
namespace Go.Fw.T1
open Go.Proofs
noncomputable def cfgD : Cfg := mkCfg (nilTab tab) fts68 xts (look env25)
theorem cfgD_ok : CfgOK Try.prog cfgD := cfgN_ok' tab_eq fts68_ok xts_ok env25_ok mixed
end Go.Fw.T1

/-
  A loop dropped: the reference's rows.
-/
namespace Go.Fw.T1
open Go.Proofs
def dn (a k : Nat) : Nat := match Nat.blt a k with | true => k - 1 | false => k
def up (a p : Nat) : Nat := match Nat.blt p a with | true => p | false => p + 1
theorem blt_t {a b : Nat} (h : a < b) : Nat.blt a b = true := by simp [Nat.blt_eq, h]
theorem blt_f {a b : Nat} (h : b ≤ a) : Nat.blt a b = false := by
  cases hb : Nat.blt a b
  · rfl
  · have := blt_lt' hb; omega
theorem dn_skip (a : Nat) : dn a (a + 1) = dn a a := by
  unfold dn
  rw [blt_t (by omega), blt_f (Nat.le_refl a)]; rfl
theorem dn_step {a k : Nat} (h : k ≠ a) : dn a (k + 1) = dn a k + 1 := by
  unfold dn
  rcases Nat.lt_or_ge a k with h1 | h1
  · rw [blt_t (by omega), blt_t h1]; simp only; omega
  · rw [blt_f (by omega), blt_f h1]
theorem dn_end {a n : Nat} (h : a < n) : dn a n = n - 1 := by unfold dn; rw [blt_t h]
theorem dn_le (a k : Nat) : dn a k ≤ k := by unfold dn; split <;> omega
theorem up_dn {a k : Nat} (h : k ≠ a) : up a (dn a k) = k := by
  unfold up dn
  rcases Nat.lt_or_ge a k with h1 | h1
  · rw [blt_t h1]
    show (match Nat.blt (k - 1) a with | true => k - 1 | false => k - 1 + 1) = k
    rw [blt_f (by omega)]
    show k - 1 + 1 = k
    omega
  · rw [blt_f h1]
    show (match Nat.blt k a with | true => k | false => k + 1) = k
    rw [blt_t (by omega)]
def jn (l : Nat) (u v : Nat → Nat) (p : Nat) : Nat := match decide (p < l) with | true => u p | false => v (p - l)
theorem jn_app {l k : Nat} {u v : Nat → Nat} {x p : Nat} (hx : x = v k) (hp : p < l + k + 1) : (match decide (p < l + k) with | true => jn l u v p | false => [x].getD (p - (l + k)) 0) = jn l u v p := by
  by_cases h : p < l + k
  · rw [decide_eq_true h]
  · rw [decide_eq_false h]
    obtain rfl : p = l + k := by omega
    unfold jn
    rw [decide_eq_false (by omega), Nat.sub_self, show l + k - l = k by omega, hx]; rfl
theorem app1 {k : Nat} {u : Nat → Nat} {x p : Nat} (hx : x = u k) (hp : p < k + 1) : (match decide (p < k) with | true => u p | false => [x].getD (p - k) 0) = u p := by
  by_cases h : p < k
  · rw [decide_eq_true h]
  · rw [decide_eq_false h]
    obtain rfl : p = k := by omega
    rw [Nat.sub_self, hx]; rfl
theorem flt_at {k : FloatKind} {f g : Nat → Nat} {p : Nat} (h : f p = g p) : (Row.flts k f : Row A).at p = (Row.flts k g : Row A).at p := by simp only [Row.at, h]
def cut (a n : Nat) (c : Nat → Nat) (k p : Nat) : Nat := c (k * n + up a p)
end Go.Fw.T1

/-
  A loop dropped: the program's rows.
-/
namespace Go.Fw.T1
open Go.Proofs
noncomputable def I40j (n gn cn k0 d d2 q : Nat) (p1 p2 : Int) (r g c u v w : Nat → Nat) (i : Int) (k : Nat) : List A := [.int .i64 i, .ptr 0 0, .int .i64 p1, .int .i64 p2, .ptr 128 0, .ptr 16 0, .bool false, .int .i64 (Int.ofNat k0), .int .i64 (Int.ofNat n), .int .i64 (Int.ofNat k)]
noncomputable def J40j (n gn cn k0 d d2 q : Nat) (p1 p2 : Int) (r g c u v w : Nat → Nat) (i : Int) (k : Nat) : List O := [.var [.sl 208 d, .sl 224 d2, .sl 240 (q + dn i.toNat k)], .row 24 1 d (.flts .f32 u), .row 24 1 d2 (.flts .f32 v), .row 24 1 (q + dn i.toNat k) (.flts .f32 (jn q w (cut i.toNat n c k0))), .var [.ro 1 n (.flts .f32 r), .ro 1 gn (.flts .f32 g), .ro 1 cn (.flts .f32 c)], .var [.nils, .nils, .nils]]
theorem round40j (n gn cn k0 d d2 q : Nat) (p1 p2 : Int) (r g c u v w : Nat → Nat) (i : Int) (k : Nat) (L : XK → List A → List (Option O) → Prop) :
    ((exec cfgD (fun _ => true) (fun _ => none) 0 1000 (loopOf Try.f28 2) (litSt Try.f28.ntmps 752 [1, 2, 16, 17, 6, 4, 5, 7, 44, 45] [128, 208, 224, 240, 0, 16] (I40j n gn cn k0 d d2 q p1 p2 r g c u v w i k) (J40j n gn cn k0 d d2 q p1 p2 r g c u v w i k))).rt [1, 2, 16, 17, 6, 4, 5, 7, 44, 45] [128, 208, 224, 240, 0, 16]).Ok L =
    bif decide (Int.ofNat k < Int.ofNat n) then
      bif Int.ofNat k != i then
        bif decide (0 ≤ IntKind.i64.wrap (IntKind.i64.wrap (Int.ofNat k0 * Int.ofNat n) + Int.ofNat k)) && decide (IntKind.i64.wrap (IntKind.i64.wrap (Int.ofNat k0 * Int.ofNat n) + Int.ofNat k) < Int.ofNat cn) && true && true then
          bif decide (q + dn i.toNat k + 1 ≤ 1073741824) then
            L (XK.normal) ([A.int .i64 i, A.ptr 0 0, A.int .i64 p1, A.int .i64 p2, A.ptr 128 0, A.ptr 16 0, A.bool false, A.int .i64 (Int.ofNat k0), A.int .i64 (Int.ofNat n), A.int .i64 (IntKind.i64.wrap (Int.ofNat k + Int.ofNat 1))]) ([some (O.var [A.sl 208 d, A.sl 224 d2, A.sl 240 (q + dn i.toNat k + 1)]), some (O.row 24 1 d (Row.flts .f32 u)), some (O.row 24 1 d2 (Row.flts .f32 v)),   some     (O.row 24 1 (q + dn i.toNat k + 1)       (Row.flts .f32 fun j =>         match decide (j < q + dn i.toNat k) with         | true => jn q w (cut i.toNat n c k0) j         | false => [c (IntKind.i64.wrap (IntKind.i64.wrap (Int.ofNat k0 * Int.ofNat n) + Int.ofNat k)).toNat].getD (j - (q + dn i.toNat k)) 0)),   some (O.var [A.ro 1 n (Row.flts .f32 r), A.ro 1 gn (Row.flts .f32 g), A.ro 1 cn (Row.flts .f32 c)]), some (O.var [A.nils, A.nils, A.nils])])
          else
            False
        else
          False
      else
        L (XK.normal) ([A.int .i64 i, A.ptr 0 0, A.int .i64 p1, A.int .i64 p2, A.ptr 128 0, A.ptr 16 0, A.bool false, A.int .i64 (Int.ofNat k0), A.int .i64 (Int.ofNat n), A.int .i64 (IntKind.i64.wrap (Int.ofNat k + Int.ofNat 1))]) ([some (O.var [A.sl 208 d, A.sl 224 d2, A.sl 240 (q + dn i.toNat k)]), some (O.row 24 1 d (Row.flts .f32 u)), some (O.row 24 1 d2 (Row.flts .f32 v)), some (O.row 24 1 (q + dn i.toNat k) (Row.flts .f32 fun p => jn q w (cut i.toNat n c k0) p)), some (O.var [A.ro 1 n (Row.flts .f32 r), A.ro 1 gn (Row.flts .f32 g), A.ro 1 cn (Row.flts .f32 c)]), some (O.var [A.nils, A.nils, A.nils])])
    else
      L (XK.exit 2) ([A.int .i64 i, A.ptr 0 0, A.int .i64 p1, A.int .i64 p2, A.ptr 128 0, A.ptr 16 0, A.bool false, A.int .i64 (Int.ofNat k0), A.int .i64 (Int.ofNat n), A.int .i64 (Int.ofNat k)]) ([some (O.var [A.sl 208 d, A.sl 224 d2, A.sl 240 (q + dn i.toNat k)]), some (O.row 24 1 d (Row.flts .f32 u)), some (O.row 24 1 d2 (Row.flts .f32 v)), some (O.row 24 1 (q + dn i.toNat k) (Row.flts .f32 fun p => jn q w (cut i.toNat n c k0) p)), some (O.var [A.ro 1 n (Row.flts .f32 r), A.ro 1 gn (Row.flts .f32 g), A.ro 1 cn (Row.flts .f32 c)]), some (O.var [A.nils, A.nils, A.nils])]) := by kernel_rfl
noncomputable def F40j : List A → List (Option O) → Option R3
  | [.int .i64 i, .ptr 0 0, .int .i64 p1, .int .i64 p2, .ptr 128 0, .ptr 16 0, .bool false, .int .i64 (.ofNat k0), .int .i64 m, .int .i64 0], [some (.var [.sl 208 d, .sl 224 d2, .sl 240 q]), some (.row 24 1 d3 (.flts .f32 u)), some (.row 24 1 d4 (.flts .f32 v)), some (.row 24 1 q2 (.flts .f32 w)), some (.var [.ro 1 n (.flts .f32 r), .ro 1 gn (.flts .f32 g), .ro 1 cn (.flts .f32 c)]), some (.var [.nils, .nils, .nils])] => some (.ite (decide (m = Int.ofNat n) && Nat.beq d d3 && Nat.beq d2 d4 && Nat.beq q q2 && Nat.ble q 36 && Nat.ble n 6 && Nat.blt k0 n && Nat.beq cn (n * n) && decide (0 ≤ i)) (.leaf .normal (I40j n gn cn k0 d d2 q p1 p2 r g c u v w i (n)) (J40j n gn cn k0 d d2 q p1 p2 r g c u v w i (n))) .fail)
  | _, _ => none
theorem loop40j : CodeOK Try.prog (fun _ σ => sumAt Try.f28.ntmps 752 [1, 2, 16, 17, 6, 4, 5, 7, 44, 45] [128, 208, 224, 240, 0, 16] F40j σ) (.block 2 (.loop (loopOf Try.f28 2))) := by
  refine block_ok (own := fun _ => true) (lp := (fun _ => none)) (un := 0) (fuel := 1000) cfgD_ok (lp_none _) fun az os R hF hok => ?_
  unfold F40j at hF
  split at hF
  · rename_i i p1 p2 k0 m d d2 q d3 u d4 v q2 w n r gn g cn c
    injection hF with hF
    subst hF
    have hg := hok.guard
    have hg' := hg
    simp only [Bool.and_eq_true, Nat.ble_eq, Nat.beq_eq, decide_eq_true_eq] at hg'
    obtain ⟨⟨⟨⟨⟨⟨⟨⟨rfl, rfl⟩, rfl⟩, rfl⟩, hq⟩, hn⟩, hk0⟩, hcn⟩, hi⟩ := hg'
    have hk0 := blt_lt' hk0
    refine for_fact (ids := [128, 208, 224, 240, 0, 16]) (fun _ => true) (n) (I40j n gn cn k0 d d2 q p1 p2 r g c u v w i) (J40j n gn cn k0 d d2 q p1 p2 r g c u v w i) _ (.ret) (I40j n gn cn k0 d d2 q p1 p2 r g c u v w i) (I40j n gn cn k0 d d2 q p1 p2 r g c u v w i) (I40j n gn cn k0 d d2 q p1 p2 r g c u v w i (n)) (J40j n gn cn k0 d d2 q p1 p2 r g c u v w i (n)) rfl (by unfold J40j; exact ⟨by rw [show dn i.toNat 0 = 0 by unfold dn; rw [blt_f (Nat.zero_le _)]]; rfl, ⟨24, _, rfl, .inr rfl, fun _ _ => rfl⟩, ⟨24, _, rfl, .inr rfl, fun _ _ => rfl⟩, by rw [show dn i.toNat 0 = 0 by unfold dn; rw [blt_f (Nat.zero_le _)]]; exact ⟨24, _, rfl, .inr rfl, fun p hp => flt_at (by unfold jn; rw [decide_eq_true (show p < q from hp)])⟩, rfl, rfl, trivial⟩) (fun _ => rfl) (fun _ => rfl) (fun _ => ALe.self _) (fun _ => rfl) (ALe.self _) (OSims.self _) rfl (fun h => by cases h) (fun k hk L h1 h2 h3 => ?_) fun L hL => ?_
    · rw [round40j]
      by_cases hkm : k < n
      · refine condT (lt_dec hkm) ?_
        have hia : Int.ofNat i.toNat = i := Int.toNat_of_nonneg hi
        have hx := ix_lt hk0 hkm hn
        have hx2 := sq_le hn
        rw [wrap_ix hk0 hkm hn, wrap_succ (by omega)]
        have hd := dn_le i.toNat k
        by_cases hki : k = i.toNat
        · have e2 : dn i.toNat (k + 1) = dn i.toNat k := by rw [hki]; exact dn_skip _
          refine condE (by rw [hki, hia]; simp) ?_
          exact h1 hkm rfl _ (by unfold J40j; rw [e2]; exact OSims.self [_, _, _, _, _, _])
        · refine condT (by simp only [bne_iff_ne, ne_eq]; exact fun h => hki (by rw [← h]; rfl)) ?_
          refine condT (by rw [hcn, dec0, lt_dec hx]; rfl) ?_
          refine condT (decide_eq_true (by omega)) ?_
          exact h1 hkm rfl _ (by
            unfold J40j; rw [dn_step hki, ← Nat.add_assoc]
            exact ⟨rfl, ⟨24, _, rfl, .inr rfl, fun _ _ => rfl⟩, ⟨24, _, rfl, .inr rfl, fun _ _ => rfl⟩, ⟨24, _, rfl, .inr rfl, fun p hp => flt_at (jn_app (by show _ = c (k0 * n + up i.toNat (dn i.toNat k)); rw [up_dn hki]; rfl) hp)⟩, rfl, rfl, trivial⟩)
      · refine condE (ge_dec (by omega)) ?_
        obtain rfl : k = n := by omega
        exact h3 rfl
    · exact ⟨fun _ => hL.1 hg, fun N _ h => by cases h⟩
  · cases hF
end Go.Fw.T1

/-
  A loop dropped: the outer loops.
-/
namespace Go.Fw.T1
open Go.Proofs
def dropR (a : Nat) (r : Nat → Nat) (p : Nat) : Nat := r (up a p)
def dropC (a n : Nat) (c : Nat → Nat) (p : Nat) : Nat := c (up a (p / (n - 1)) * n + up a (p % (n - 1)))
theorem dn_zero (a : Nat) : dn a 0 = 0 := by unfold dn; rw [blt_f (Nat.zero_le _)]
theorem dropC_step {a k n : Nat} {c : Nat → Nat} (h : k ≠ a) {p : Nat} (hp : p < dn a k * (n - 1) + (n - 1)) : jn (dn a k * (n - 1)) (dropC a n c) (cut a n c k) p = dropC a n c p := by
  unfold jn
  rcases Nat.lt_or_ge p (dn a k * (n - 1)) with h1 | h1
  · rw [decide_eq_true h1]
  · rw [decide_eq_false (by omega)]
    obtain ⟨s, rfl⟩ : ∃ s, p = dn a k * (n - 1) + s := ⟨p - dn a k * (n - 1), by omega⟩
    have hs : s < n - 1 := by omega
    show cut a n c k (dn a k * (n - 1) + s - dn a k * (n - 1)) = _
    unfold cut dropC
    rw [ix_div hs, ix_mod hs, up_dn h, show dn a k * (n - 1) + s - dn a k * (n - 1) = s by omega]
theorem dn_mul {a k n : Nat} (hk : k ≤ n) (hn : n ≤ 6) : dn a k * (n - 1) ≤ 36 := by
  have h1 := dn_le a k
  have h2 : dn a k * (n - 1) ≤ 6 * 6 := Nat.mul_le_mul (by omega) (by omega)
  omega
noncomputable def lpi40i : List (Nat × (St → T)) := [(2, sumAt Try.f28.ntmps 752 [1, 2, 16, 17, 6, 4, 5, 7, 44, 45] [128, 208, 224, 240, 0, 16] F40j)]
theorem lpi40i_ok : LpOK Try.prog (look lpi40i) (loopOf Try.f28 0) := lp_in (lp_loops (by kernel_rfl) (by kernel_rfl) fun p hp => by
  simp only [lpi40i, List.mem_cons, List.not_mem_nil, or_false] at hp
  rcases hp with rfl
  · exact loop40j) _
noncomputable def I40i (n gn cn : Nat) (r g c : Nat → Nat) (i : Int) (k : Nat) : List A := [.int .i64 i, .ptr 0 0, .int .i64 (Int.ofNat n), .int .i64 (Int.ofNat k), .ptr 128 0, .ptr 16 0, .bool false]
noncomputable def J40i (n gn cn : Nat) (r g c : Nat → Nat) (i : Int) (k : Nat) : List O := [.var [.sl 208 (dn i.toNat k), .sl 224 (dn i.toNat k), .sl 240 (dn i.toNat k * (n - 1))], .row 24 1 (dn i.toNat k) (.flts .f32 (dropR i.toNat r)), .row 24 1 (dn i.toNat k) (.flts .f32 (dropR i.toNat g)), .row 24 1 (dn i.toNat k * (n - 1)) (.flts .f32 (dropC i.toNat n c)), .var [.ro 1 n (.flts .f32 r), .ro 1 gn (.flts .f32 g), .ro 1 cn (.flts .f32 c)], .var [.nils, .nils, .nils]]
theorem round40i (n gn cn : Nat) (r g c : Nat → Nat) (i : Int) (k : Nat) (L : XK → List A → List (Option O) → Prop) :
    ((exec cfgD (fun _ => true) (look lpi40i) 0 1000 (loopOf Try.f28 0) (litSt Try.f28.ntmps 256 [1, 2, 16, 17, 6, 4, 5] [128, 208, 224, 240, 0, 16] (I40i n gn cn r g c i k) (J40i n gn cn r g c i k))).rt [1, 2, 16, 17, 6, 4, 5] [128, 208, 224, 240, 0, 16]).Ok L =
    bif decide (Int.ofNat k < Int.ofNat n) then
      bif Int.ofNat k == i then
        L (XK.normal) ([A.int .i64 i, A.ptr 0 0, A.int .i64 (Int.ofNat n), A.int .i64 (IntKind.i64.wrap (Int.ofNat k + Int.ofNat 1)), A.ptr 128 0, A.ptr 16 0, A.bool false]) ([some (O.var [A.sl 208 (dn i.toNat k), A.sl 224 (dn i.toNat k), A.sl 240 (dn i.toNat k * (n - 1))]), some (O.row 24 1 (dn i.toNat k) (Row.flts .f32 fun p => dropR i.toNat r p)), some (O.row 24 1 (dn i.toNat k) (Row.flts .f32 fun p => dropR i.toNat g p)), some (O.row 24 1 (dn i.toNat k * (n - 1)) (Row.flts .f32 fun p => dropC i.toNat n c p)), some (O.var [A.ro 1 n (Row.flts .f32 r), A.ro 1 gn (Row.flts .f32 g), A.ro 1 cn (Row.flts .f32 c)]), some (O.var [A.nils, A.nils, A.nils])])
      else
        bif decide (Int.ofNat k < Int.ofNat n) && true then
          bif decide (dn i.toNat k + 1 ≤ 1073741824) then
            bif decide (Int.ofNat k < Int.ofNat gn) && true then
              bif decide (dn i.toNat k + 1 ≤ 1073741824) then
                bif decide (Int.ofNat n = Int.ofNat n) && (dn i.toNat k + 1).beq (dn i.toNat k + 1) && (dn i.toNat k + 1).beq (dn i.toNat k + 1) && (dn i.toNat k * (n - 1)).beq (dn i.toNat k * (n - 1)) && (dn i.toNat k * (n - 1)).ble 36 && n.ble 6 && k.blt n && cn.beq (n * n) && decide (0 ≤ i) then
                  L (XK.normal) ([A.int .i64 i, A.ptr 0 0, A.int .i64 (Int.ofNat n), A.int .i64 (IntKind.i64.wrap (Int.ofNat k + Int.ofNat 1)), A.ptr 128 0, A.ptr 16 0, A.bool false]) ([some (O.var [A.sl 208 (dn i.toNat k + 1), A.sl 224 (dn i.toNat k + 1), A.sl 240 (dn i.toNat k * (n - 1) + dn i.toNat n)]),   some     (O.row 24 1 (dn i.toNat k + 1)       (Row.flts .f32 fun j =>         match decide (j < dn i.toNat k) with         | true => dropR i.toNat r j         | false => [r k].getD (j - dn i.toNat k) 0)),   some     (O.row 24 1 (dn i.toNat k + 1)       (Row.flts .f32 fun j =>         match decide (j < dn i.toNat k) with         | true => dropR i.toNat g j         | false => [g k].getD (j - dn i.toNat k) 0)),   some (O.row 24 1 (dn i.toNat k * (n - 1) + dn i.toNat n) (Row.flts .f32 fun p => jn (dn i.toNat k * (n - 1)) (dropC i.toNat n c) (cut i.toNat n c k) p)), some (O.var [A.ro 1 n (Row.flts .f32 r), A.ro 1 gn (Row.flts .f32 g), A.ro 1 cn (Row.flts .f32 c)]), some (O.var [A.nils, A.nils, A.nils])])
                else
                  False
              else
                False
            else
              False
          else
            False
        else
          False
    else
      L (XK.exit 0) ([A.int .i64 i, A.ptr 0 0, A.int .i64 (Int.ofNat n), A.int .i64 (Int.ofNat k), A.ptr 128 0, A.ptr 16 0, A.bool false]) ([some (O.var [A.sl 208 (dn i.toNat k), A.sl 224 (dn i.toNat k), A.sl 240 (dn i.toNat k * (n - 1))]), some (O.row 24 1 (dn i.toNat k) (Row.flts .f32 fun p => dropR i.toNat r p)), some (O.row 24 1 (dn i.toNat k) (Row.flts .f32 fun p => dropR i.toNat g p)), some (O.row 24 1 (dn i.toNat k * (n - 1)) (Row.flts .f32 fun p => dropC i.toNat n c p)), some (O.var [A.ro 1 n (Row.flts .f32 r), A.ro 1 gn (Row.flts .f32 g), A.ro 1 cn (Row.flts .f32 c)]), some (O.var [A.nils, A.nils, A.nils])]) := by kernel_rfl
noncomputable def F40i : List A → List (Option O) → Option R3
  | [.int .i64 i, .ptr 0 0, .int .i64 m, .int .i64 0, .ptr 128 0, .ptr 16 0, .bool false], [some (.var [.sl 208 0, .sl 224 0, .sl 240 0]), some (.row 24 1 0 g1), some (.row 24 1 0 g2), some (.row 24 1 0 g3), some (.var [.ro 1 n (.flts .f32 r), .ro 1 gn (.flts .f32 g), .ro 1 cn (.flts .f32 c)]), some (.var [.nils, .nils, .nils])] => some (.ite (decide (m = Int.ofNat n) && Nat.beq gn n && Nat.ble n 6 && Nat.beq cn (n * n) && decide (0 ≤ i) && Nat.blt i.toNat n) (.leaf .normal (I40i n gn cn r g c i (n)) (J40i n gn cn r g c i (n))) .fail)
  | _, _ => none
theorem loop40i : CodeOK Try.prog (fun _ σ => sumAt Try.f28.ntmps 256 [1, 2, 16, 17, 6, 4, 5] [128, 208, 224, 240, 0, 16] F40i σ) (.block 0 (.loop (loopOf Try.f28 0))) := by
  refine block_ok (own := fun _ => true) (lp := (look lpi40i)) (un := 0) (fuel := 1000) cfgD_ok lpi40i_ok fun az os R hF hok => ?_
  unfold F40i at hF
  split at hF
  · rename_i i m g1 g2 g3 n r gn g cn c
    injection hF with hF
    subst hF
    have hg := hok.guard
    have hg' := hg
    simp only [Bool.and_eq_true, Nat.ble_eq, Nat.beq_eq, decide_eq_true_eq] at hg'
    obtain ⟨⟨⟨⟨⟨rfl, hgn⟩, hn⟩, hcn⟩, hi⟩, hin⟩ := hg'
    have hin := blt_lt' hin
    refine for_fact (ids := [128, 208, 224, 240, 0, 16]) (fun _ => true) (n) (I40i n gn cn r g c i) (J40i n gn cn r g c i) _ (.ret) (I40i n gn cn r g c i) (I40i n gn cn r g c i) (I40i n gn cn r g c i (n)) (J40i n gn cn r g c i (n)) rfl (by unfold J40i; exact by rw [dn_zero, Nat.zero_mul]; exact ⟨rfl, ⟨24, _, rfl, .inr rfl, fun p hp => absurd hp (by omega)⟩, ⟨24, _, rfl, .inr rfl, fun p hp => absurd hp (by omega)⟩, ⟨24, _, rfl, .inr rfl, fun p hp => absurd hp (by omega)⟩, rfl, rfl, trivial⟩) (fun _ => rfl) (fun _ => rfl) (fun _ => ALe.self _) (fun _ => rfl) (ALe.self _) (OSims.self _) rfl (fun h => by cases h) (fun k hk L h1 h2 h3 => ?_) fun L hL => ?_
    · rw [round40i]
      by_cases hkm : k < n
      · refine condT (lt_dec hkm) ?_
        have hia : Int.ofNat i.toNat = i := Int.toNat_of_nonneg hi
        have hd := dn_le i.toNat k
        have hm := dn_mul (a := i.toNat) (k := k) (n := n) (by omega) hn
        rw [wrap_succ (by omega)]
        by_cases hki : k = i.toNat
        · have e2 : dn i.toNat (k + 1) = dn i.toNat k := by rw [hki]; exact dn_skip _
          refine condT (by rw [hki, hia]; simp) ?_
          exact h1 hkm rfl _ (by unfold J40i; rw [e2]; exact OSims.self [_, _, _, _, _, _])
        · refine condE (by simp only [beq_eq_false_iff_ne, ne_eq]; exact fun h => hki (by rw [← h]; rfl)) ?_
          refine condT (by rw [lt_dec hkm]; rfl) ?_
          refine condT (decide_eq_true (by omega)) ?_
          refine condT (by rw [hgn, lt_dec hkm]; rfl) ?_
          refine condT (decide_eq_true (by omega)) ?_
          refine condT (by rw [hcn, Nat.beq_refl, Nat.beq_refl, Nat.beq_refl, ble_of hm, ble_of hn, blt_t hkm, decide_eq_true rfl, decide_eq_true hi]; rfl) ?_
          exact h1 hkm rfl _ (by
            unfold J40i; rw [dn_step hki, Nat.add_mul, Nat.one_mul, dn_end hin]
            exact ⟨rfl, ⟨24, _, rfl, .inr rfl, fun p hp => flt_at (app1 (by show r k = r (up i.toNat (dn i.toNat k)); rw [up_dn hki]) hp)⟩, ⟨24, _, rfl, .inr rfl, fun p hp => flt_at (app1 (by show g k = g (up i.toNat (dn i.toNat k)); rw [up_dn hki]) hp)⟩, ⟨24, _, rfl, .inr rfl, fun p hp => flt_at (dropC_step hki hp)⟩, rfl, rfl, trivial⟩)
      · refine condE (ge_dec (by omega)) ?_
        obtain rfl : k = n := by omega
        exact h3 rfl
    · exact ⟨fun _ => hL.1 hg, fun N _ h => by cases h⟩
  · cases hF
noncomputable def N40 : St → T := nilW 128 0 24 1 (nilW 128 1 24 1 (nilW 128 2 24 1 (sumAt Try.f28.ntmps 256 [1, 2, 16, 17, 6, 4, 5] [128, 208, 224, 240, 0, 16] F40i)))
theorem loopN40 : CodeOK Try.prog (fun _ σ => N40 σ) (.block 0 (.loop (loopOf Try.f28 0))) := nilW_ok (nilW_ok (nilW_ok loop40i))
end Go.Fw.T1

/-
  A loop dropped: contracts.
-/
namespace Go.Fw.T1
open Go.Proofs
noncomputable def dropNo (n gn cn : Nat) (r g c : Nat → Nat) (i : Int) : Bool := bif bif !valid n gn cn r g c then true else !inn n i then true else decide (Int.ofNat n < 2)
theorem drop_ok {n gn cn : Nat} {r g c : Nat → Nat} {i : Int} (h : dropNo n gn cn r g c i = false) : valid n gn cn r g c = true ∧ inn n i = true ∧ 0 ≤ i ∧ i.toNat < n ∧ 2 ≤ n ∧ n ≤ 6 ∧ gn = n ∧ cn = n * n := by
  unfold dropNo at h
  cases hv : valid n gn cn r g c
  · rw [hv] at h; cases h
  cases hi : inn n i
  · rw [hv, hi] at h; cases h
  rw [hv, hi] at h
  obtain ⟨h1, h2, h3, h4⟩ := valid_sizes hv
  obtain ⟨a, rfl, ha⟩ := inn_spec h1 h2 hi
  have h5 : ¬ (Int.ofNat n < 2) := of_decide_eq_false h
  exact ⟨rfl, rfl, by simp, ha, by simp at h5; omega, h2, h3, h4⟩
theorem up_lt {a p n : Nat} (h : p < n - 1) : up a p < n := by unfold up; split <;> omega
theorem dropC_at {a n i j : Nat} {c : Nat → Nat} (hj : j < n - 1) : dropC a n c (i * (n - 1) + j) = c (up a i * n + up a j) := by
  unfold dropC; rw [ix_div hj, ix_mod hj]
theorem valid_drop {n gn cn a : Nat} {r g c : Nat → Nat} (hv : valid n gn cn r g c = true) (ha : a < n) (h2 : 2 ≤ n) : valid (dn a n) (dn a n) (dn a n * (n - 1)) (dropR a r) (dropR a g) (dropC a n c) = true := by
  have hs := valid_sizes hv
  rw [dn_end ha]
  unfold valid at hv ⊢
  simp only [Bool.and_eq_true, allUpTo_iff, Bool.not_eq_true'] at hv ⊢
  refine ⟨decide_eq_true ⟨by omega, by omega, rfl, rfl⟩, fun i hi => ?_⟩
  have hu := hv.2 (up a i) (up_lt hi)
  refine ⟨?_, fun j hj => ?_⟩
  · have e : badrow (dropR a r) (dropR a g) (dropC a n c) (n - 1) i = badrow r g c n (up a i) := by
      unfold badrow; rw [dropC_at hi]; rfl
    rw [e]; exact hu.1
  · have e : badsym (dropC a n c) (n - 1) i j = badsym c n (up a i) (up a j) := by
      unfold badsym; rw [dropC_at hj, dropC_at hi]
    rw [e]; exact hu.2 (up a j) (up_lt hj)
noncomputable def lp40T : List (Nat × (St → T)) := [(0, N40)]
theorem lp40T_ok : LpOK Try.prog (look lp40T) (bodyOf Try.f28) := lp_loops (by kernel_rfl) (by kernel_rfl) fun p hp => by
  simp only [lp40T, List.mem_cons, List.not_mem_nil, or_false] at hp
  rcases hp with rfl
  · exact loopN40
theorem auto40T (n gn cn : Nat) (r g c : Nat → Nat) (i : Int) : autoS cfgD (look lp40T) false Try.f28 [.agg [.ro 1 n (.flts .f32 r), .ro 1 gn (.flts .f32 g), .ro 1 cn (.flts .f32 c)], .int .i64 i] =
    some ((!!bif valid n gn cn r g c then bif decide (i ≥ 0) then decide (i ≤ IntKind.i64.wrap (Int.ofNat n - 1)) else false else false) && (decide (Int.ofNat n = Int.ofNat n) && gn.beq n && n.ble 6 && cn.beq (n * n) && decide (0 ≤ i) && i.toNat.blt n && (!!valid (dn i.toNat n) (dn i.toNat n) (dn i.toNat n * (n - 1)) (dropR i.toNat r) (dropR i.toNat g) (dropC i.toNat n c) && true)), A.tup [A.agg [A.ro 1 (dn i.toNat n) (Row.flts .f32 fun p => dropR i.toNat r p), A.ro 1 (dn i.toNat n) (Row.flts .f32 fun p => dropR i.toNat g p), A.ro 1 (dn i.toNat n * (n - 1)) (Row.flts .f32 fun p => dropC i.toNat n c p)], A.bool true]) := by kernel_rfl
noncomputable def s40T : List A → Option (Bool × A)
  | [.agg [.ro 1 n (.flts .f32 r), .ro 1 gn (.flts .f32 g), .ro 1 cn (.flts .f32 c)], .int .i64 i] => some (!dropNo n gn cn r g c i, .tup [.agg [.ro 1 (dn i.toNat n) (.flts .f32 (dropR i.toNat r)), .ro 1 (dn i.toNat n) (.flts .f32 (dropR i.toNat g)), .ro 1 (dn i.toNat n * (n - 1)) (.flts .f32 (dropC i.toNat n c))], .bool true])
  | _ => none
theorem s40T_at : EnvAt Try.prog 28 s40T := of_autoS cfgD_ok lp40T_ok Try.func28 (by kernel_rfl) (by kernel_rfl) fun ds cc rr h hc => by
  unfold s40T at h
  split at h
  · rename_i n r gn g cn c i
    simp only [Option.some.injEq, Prod.mk.injEq] at h
    obtain ⟨rfl, rfl⟩ := h
    refine auto_fit (auto40T n gn cn r g c i) ?_ ?_
    · rfl
    · obtain ⟨hv, hinn, hi, hin, h2, h6, hgn, hcn⟩ := drop_ok (by simpa using hc)
      show ((!!bif valid n gn cn r g c then inn n i else false) && (decide (Int.ofNat n = Int.ofNat n) && gn.beq n && n.ble 6 && cn.beq (n * n) && decide (0 ≤ i) && i.toNat.blt n && (!!valid (dn i.toNat n) (dn i.toNat n) (dn i.toNat n * (n - 1)) (dropR i.toNat r) (dropR i.toNat g) (dropC i.toNat n c) && true))) = true
      rw [hv, hinn, valid_drop hv hin h2, hgn, hcn, Nat.beq_refl, Nat.beq_refl, ble_of h6, blt_t hin, decide_eq_true hi, decide_eq_true rfl]; rfl
  · cases h
end Go.Fw.T1

/-
  The law of a loop dropped.
-/
namespace Go.Fw.T1
open Go.Proofs
end Go.Fw.T1

/-
  Slices joined: a contract.
-/
namespace Go.Fw.T1
open Go.Proofs
noncomputable def ftsC : List (Nat × Func) := [(69, Try.f69)]
theorem ftsC_ok (f : Nat) (fn : Func) (h : (f, fn) ∈ ftsC) : Try.prog.funcs[f]? = some fn ∧ (fn.name == "runtime.NumGoroutine") = false := by
  simp only [ftsC, List.mem_cons, Prod.mk.injEq, List.not_mem_nil, or_false] at h
  obtain ⟨rfl, rfl⟩ := h
  exact ⟨Try.func69, by kernel_rfl⟩
noncomputable def cfgC : Cfg := mkCfg tab ftsC xts (look [])
theorem cfgC_ok : CfgOK Try.prog cfgC := cfg_ok tab_eq ftsC_ok xts_ok env_nil mixed
def two (n m : Nat) (x y : Nat → Nat) : Row A := .gen fun i => match i with | 0 => .ro 1 n (.flts .f32 x) | _ => .ro 1 m (.flts .f32 y)
def autoNS (cfg : Cfg) (un : Nat) (sel : Bool) (fn : Func) (ds : List A) : Option (Bool × A) :=
  match Nat.ble ds.length fn.ntmps with
  | false => none
  | true => match (exec cfg (fun _ => true) (fun _ => none) un 1000 (bodyOf fn) (St.enter fn ds [] 0)).valS cfg fn sel with
    | some (c, r) => some (c, r)
    | none => none
theorem autoNS_at {P : Program} {cfg : Cfg} (hc : CfgOK P cfg) {f : Nat} {fn : Func} {un : Nat} {sel : Bool} (hf : P.funcs[f]? = some fn) (hb : fn.body.isSome = true) (hn : (fn.name == "runtime.NumGoroutine") = false) : EnvAt P f (autoNS cfg un sel fn) := by
  refine ⟨⟨fn, hf, hb, hn⟩, fun ds c r h hct => ?_⟩
  unfold autoNS at h
  split at h
  · cases h
  · rename_i hle
    split at h
    · rename_i c' r' hv
      simp only [Option.some.injEq, Prod.mk.injEq] at h
      obtain ⟨rfl, rfl⟩ := h
      have hb' : fn.body = some (bodyOf fn) := by
        unfold bodyOf
        cases h : fn.body
        · rw [h] at hb; cases hb
        · rfl
      exact pure_of_tree hc hf hb' (Nat.le_of_ble_eq_true hle) (lp_none _) (T.valS_ok hv hct)
    · cases h
theorem auto79 (n m : Nat) (x y : Nat → Nat) : autoNS cfgC 3 true Try.f54 [.ro 1 2 (two n m x y)] =
    some   (!decide (IntKind.i64.wrap (0 + Int.ofNat n) < 0) && (decide (IntKind.i64.wrap (0 + 1) < Int.ofNat 2) && (decide (0 ≤ IntKind.i64.wrap (0 + 1)) && decide (IntKind.i64.wrap (0 + 1) < Int.ofNat 2) && (!decide (IntKind.i64.wrap (IntKind.i64.wrap (0 + Int.ofNat n) + Int.ofNat m) < 0) && (!decide (IntKind.i64.wrap (IntKind.i64.wrap (0 + 1) + 1) < Int.ofNat 2) && (!decide (IntKind.i64.wrap (IntKind.i64.wrap (0 + Int.ofNat n) + Int.ofNat m) < 0) && (decide (IntKind.i64.wrap (IntKind.i64.wrap (IntKind.i64.wrap (0 + Int.ofNat n) + Int.ofNat m) - IntKind.i64.wrap (0 - 0)) > 0) && (decide (0 < IntKind.i64.wrap (IntKind.i64.wrap (IntKind.i64.wrap (0 + Int.ofNat n) + Int.ofNat m) - IntKind.i64.wrap (0 - 0))) && decide (IntKind.i64.wrap (IntKind.i64.wrap (IntKind.i64.wrap (0 + Int.ofNat n) + Int.ofNat m) - IntKind.i64.wrap (0 - 0)) ≤ 1073741824) && (decide (Int.toNat 0 + n ≤ 1073741824) && (decide (IntKind.i64.wrap (0 + 1) < Int.ofNat 2) && (decide (0 ≤ IntKind.i64.wrap (0 + 1)) && decide (IntKind.i64.wrap (0 + 1) < Int.ofNat 2) && (decide (Int.toNat 0 + n + m ≤ 1073741824) && (!decide (IntKind.i64.wrap (IntKind.i64.wrap (0 + 1) + 1) < Int.ofNat 2) && true)))))))))))),     A.ro 1 (0 + n + m)       (Row.flts .f32 fun j =>         match decide (j < Int.toNat 0 + n) with         | true =>           (x (j - 0)         )| false => y (j - (0 + n)))) := by kernel_rfl
theorem PureCall.row_congr {P : Program} {f esz len : Nat} {g g' : Row A} {r : A} (h : PureCall P f [.ro esz len g'] r) (hg : ∀ i, i < len → g i = g' i) : PureCall P f [.ro esz len g] r :=
  fun w vs T hT hs hr => h w vs T hT hs fun i hi => by
    match i, hi with
    | 0, _ => exact RelD.row_congr (hr 0 (Nat.succ_pos 0)) hg
    | i + 1, hi => exact absurd (show i + 1 < 1 from hi) (by omega)
noncomputable def s79 : List A → Option (Bool × A)
  | [.ro 1 2 g] => match g.at 0, g.at 1 with
    | .ro 1 n (.flts .f32 x), .ro 1 m (.flts .f32 y) => some (Nat.ble 1 n && Nat.ble (n + m) 1000, .ro 1 (n + m) (.flts .f32 (jn n x y)))
    | _, _ => none
  | _ => none
theorem s79_at : EnvAt Try.prog 54 s79 := by
  have h0 := autoNS_at (un := 3) (sel := true) cfgC_ok Try.func54 (by kernel_rfl) (by kernel_rfl)
  refine ⟨h0.1, fun ds c r h hc => ?_⟩
  unfold s79 at h
  split at h
  · rename_i g
    split at h
    · rename_i n x m y e0 e1
      simp only [Option.some.injEq, Prod.mk.injEq] at h
      obtain ⟨hcc, rfl⟩ := h
      rw [← hcc] at hc
      simp only [Bool.and_eq_true, Nat.ble_eq] at hc
      obtain ⟨h1, h2⟩ := hc
      refine PureCall.row_congr (g' := two n m x y) ?_ fun i hi => ?_
      · have w1 : IntKind.i64.wrap (0 + Int.ofNat n) = Int.ofNat n := by rw [Int.zero_add]; exact wrap_nat (by omega)
        have w2 : IntKind.i64.wrap (Int.ofNat n + Int.ofNat m) = Int.ofNat (n + m) := wrap_nat (x := n + m) (by omega)
        have w3 : IntKind.i64.wrap (0 - 0) = 0 := by decide +kernel
        have w4 : IntKind.i64.wrap (Int.ofNat (n + m) - 0) = Int.ofNat (n + m) := by rw [Int.sub_zero]; exact wrap_nat (by omega)
        have w5 : IntKind.i64.wrap (0 + 1) = 1 := by decide +kernel
        have w6 : IntKind.i64.wrap (1 + 1) = 2 := by decide +kernel
        have key := h0.2 _ _ _ (auto79 n m x y) (by
          simp only [w1, w2, w3, w4, w5, w6]
          simp
          omega)
        have e : (.ro 1 (0 + n + m) (.flts .f32 fun j => match decide (j < Int.toNat 0 + n) with | true => x (j - 0) | false => y (j - (0 + n))) : A) = .ro 1 (n + m) (.flts .f32 (jn n x y)) := by
          rw [Nat.zero_add]
          congr 2
          funext j
          have h0 : ∀ q r, q = n → r = n → (match decide (j < q) with | true => x j | false => y (j - r)) = jn n x y j := fun q r hq hr => by subst hq; subst hr; rfl
          exact h0 _ _ (by first | rfl | exact Nat.zero_add n) (by first | rfl | exact Nat.zero_add n)
        rw [e] at key
        exact key
      · match i, hi with
        | 0, _ => exact e0
        | 1, _ => exact e1
        | i + 2, hi => exact absurd hi (by omega)
    · cases h
  · cases h
end Go.Fw.T1

/-
  Circuits joined: tables.
-/
namespace Go.Fw.T1
open Go.Proofs
noncomputable def env26j : List (Nat × (List A → Option (Bool × A))) := (54, s79) :: env25
theorem env26j_ok : EnvOK Try.prog (look env26j) := env_cons s79_at env25_ok
noncomputable def cfgDJ : Cfg := mkCfg (nilTab tab) fts68 xts (look env26j)
theorem cfgDJ_ok : CfgOK Try.prog cfgDJ := cfgN_ok' tab_eq fts68_ok xts_ok env26j_ok mixed
end Go.Fw.T1

/-
  Circuits joined: the program's rows.
-/
namespace Go.Fw.T1
open Go.Proofs
noncomputable def jv (n m : Nat) (c w : Nat → Nat) (i j : Nat) : Nat := bif decide (i < n) && decide (j < n) then c (i * n + j) else bif decide (n ≤ i) && decide (n ≤ j) then w ((i - n) * m + (j - n)) else can .f32 0
noncomputable def I50j (n gn cn m gm cm i q : Nat) (r g c u v w s1 s2 s3 : Nat → Nat) (k : Nat) : List A := [.ptr 0 0, .ptr 16 0, .int .i64 (Int.ofNat i), .int .i64 (Int.ofNat n), .int .i64 (Int.ofNat (n + m)), .int .i64 (Int.ofNat k), .int .i64 (Int.ofNat i), .int .i64 (Int.ofNat (n + m)), .ptr 400 0, .ptr 32 0, .bool false]
noncomputable def J50j (n gn cn m gm cm i q : Nat) (r g c u v w s1 s2 s3 : Nat → Nat) (k : Nat) : List O := [.var [.sl 272 (n + m), .sl 368 (gn + gm), .sl 528 (q + k)], .row 0 1 (n + m) (.flts .f32 s1), .row 0 1 (gn + gm) (.flts .f32 s2), .row 24 1 (q + k) (.flts .f32 (jn q s3 (jv n m c w i))), .var [.ro 1 n (.flts .f32 r), .ro 1 gn (.flts .f32 g), .ro 1 cn (.flts .f32 c)], .var [.ro 1 m (.flts .f32 u), .ro 1 gm (.flts .f32 v), .ro 1 cm (.flts .f32 w)], .var [.nils, .nils, .nils]]
theorem round50j (n gn cn m gm cm i q : Nat) (r g c u v w s1 s2 s3 : Nat → Nat) (k : Nat) (L : XK → List A → List (Option O) → Prop) :
    ((exec cfgDJ (fun _ => true) (fun _ => none) 0 1000 (loopOf Try.f27 2) (litSt Try.f27.ntmps 640 [2, 3, 8, 7, 41, 42, 37, 36, 6, 4, 5] [400, 272, 368, 528, 0, 16, 32] (I50j n gn cn m gm cm i q r g c u v w s1 s2 s3 k) (J50j n gn cn m gm cm i q r g c u v w s1 s2 s3 k))).rt [2, 3, 8, 7, 41, 42, 37, 36, 6, 4, 5] [400, 272, 368, 528, 0, 16, 32]).Ok L =
    bif decide (Int.ofNat k < Int.ofNat (n + m)) then
       bif bif decide (Int.ofNat i < Int.ofNat n) then decide (Int.ofNat k < Int.ofNat n) else false then
         bif decide (0 ≤ IntKind.i64.wrap (IntKind.i64.wrap (Int.ofNat i * Int.ofNat n) + Int.ofNat k)) && decide (IntKind.i64.wrap (IntKind.i64.wrap (Int.ofNat i * Int.ofNat n) + Int.ofNat k) < Int.ofNat cn) && true then
           bif decide (q + k + 1 ≤ 1073741824) then
             L (XK.normal) ([A.ptr 0 0, A.ptr 16 0, A.int .i64 (Int.ofNat i), A.int .i64 (Int.ofNat n), A.int .i64 (Int.ofNat (n + m)), A.int .i64 (IntKind.i64.wrap (Int.ofNat k + Int.ofNat 1)), A.int .i64 (Int.ofNat i), A.int .i64 (Int.ofNat (n + m)), A.ptr 400 0, A.ptr 32 0, A.bool false]) ([some (O.var [A.sl 272 (n + m), A.sl 368 (gn + gm), A.sl 528 (q + k + 1)]), some (O.row 0 1 (n + m) (Row.flts .f32 s1)), some (O.row 0 1 (gn + gm) (Row.flts .f32 s2)),   some     (O.row 24 1 (q + k + 1)       (Row.flts .f32 fun j =>         (match decide (j < q + k) with | true => jn q s3 (jv n m c w i) j | false => [c (IntKind.i64.wrap (IntKind.i64.wrap (Int.ofNat i * Int.ofNat n) + Int.ofNat k)).toNat].getD (j - (q + k)) 0))),   some (O.var [A.ro 1 n (Row.flts .f32 r), A.ro 1 gn (Row.flts .f32 g), A.ro 1 cn (Row.flts .f32 c)]), some (O.var [A.ro 1 m (Row.flts .f32 u), A.ro 1 gm (Row.flts .f32 v), A.ro 1 cm (Row.flts .f32 w)]), some (O.var [A.nils, A.nils, A.nils])])
           else
             False
         else
           False
       else
         bif bif decide (Int.ofNat i ≥ Int.ofNat n) then decide (Int.ofNat k ≥ Int.ofNat n) else false then
           bif decide (0 ≤ IntKind.i64.wrap (IntKind.i64.wrap (IntKind.i64.wrap (Int.ofNat i - Int.ofNat n) * Int.ofNat m) + IntKind.i64.wrap (Int.ofNat k - Int.ofNat n))) && decide (IntKind.i64.wrap (IntKind.i64.wrap (IntKind.i64.wrap (Int.ofNat i - Int.ofNat n) * Int.ofNat m) + IntKind.i64.wrap (Int.ofNat k - Int.ofNat n)) < Int.ofNat cm) && true then
             bif decide (q + k + 1 ≤ 1073741824) then
               L (XK.normal) ([A.ptr 0 0, A.ptr 16 0, A.int .i64 (Int.ofNat i), A.int .i64 (Int.ofNat n), A.int .i64 (Int.ofNat (n + m)), A.int .i64 (IntKind.i64.wrap (Int.ofNat k + Int.ofNat 1)), A.int .i64 (Int.ofNat i), A.int .i64 (Int.ofNat (n + m)), A.ptr 400 0, A.ptr 32 0, A.bool false]) ([some (O.var [A.sl 272 (n + m), A.sl 368 (gn + gm), A.sl 528 (q + k + 1)]), some (O.row 0 1 (n + m) (Row.flts .f32 s1)), some (O.row 0 1 (gn + gm) (Row.flts .f32 s2)),   some     (O.row 24 1 (q + k + 1)       (Row.flts .f32 fun j =>         (match decide (j < q + k) with | true => jn q s3 (jv n m c w i) j | false => [w (IntKind.i64.wrap (IntKind.i64.wrap (IntKind.i64.wrap (Int.ofNat i - Int.ofNat n) * Int.ofNat m) + IntKind.i64.wrap (Int.ofNat k - Int.ofNat n))).toNat].getD (j - (q + k)) 0))),   some (O.var [A.ro 1 n (Row.flts .f32 r), A.ro 1 gn (Row.flts .f32 g), A.ro 1 cn (Row.flts .f32 c)]), some (O.var [A.ro 1 m (Row.flts .f32 u), A.ro 1 gm (Row.flts .f32 v), A.ro 1 cm (Row.flts .f32 w)]), some (O.var [A.nils, A.nils, A.nils])])
             else
               False
           else
             False
         else
           bif decide (q + k + 1 ≤ 1073741824) then
             L (XK.normal) ([A.ptr 0 0, A.ptr 16 0, A.int .i64 (Int.ofNat i), A.int .i64 (Int.ofNat n), A.int .i64 (Int.ofNat (n + m)), A.int .i64 (IntKind.i64.wrap (Int.ofNat k + Int.ofNat 1)), A.int .i64 (Int.ofNat i), A.int .i64 (Int.ofNat (n + m)), A.ptr 400 0, A.ptr 32 0, A.bool false]) ([some (O.var [A.sl 272 (n + m), A.sl 368 (gn + gm), A.sl 528 (q + k + 1)]), some (O.row 0 1 (n + m) (Row.flts .f32 s1)), some (O.row 0 1 (gn + gm) (Row.flts .f32 s2)),   some     (O.row 24 1 (q + k + 1)       (Row.flts .f32 fun j =>         (match decide (j < q + k) with | true => jn q s3 (jv n m c w i) j | false => [can .f32 0].getD (j - (q + k)) 0))),   some (O.var [A.ro 1 n (Row.flts .f32 r), A.ro 1 gn (Row.flts .f32 g), A.ro 1 cn (Row.flts .f32 c)]), some (O.var [A.ro 1 m (Row.flts .f32 u), A.ro 1 gm (Row.flts .f32 v), A.ro 1 cm (Row.flts .f32 w)]), some (O.var [A.nils, A.nils, A.nils])])
           else
             False
     else
       L (XK.exit 2) ([A.ptr 0 0, A.ptr 16 0, A.int .i64 (Int.ofNat i), A.int .i64 (Int.ofNat n), A.int .i64 (Int.ofNat (n + m)), A.int .i64 (Int.ofNat k), A.int .i64 (Int.ofNat i), A.int .i64 (Int.ofNat (n + m)), A.ptr 400 0, A.ptr 32 0, A.bool false]) ([some (O.var [A.sl 272 (n + m), A.sl 368 (gn + gm), A.sl 528 (q + k)]), some (O.row 0 1 (n + m) (Row.flts .f32 s1)), some (O.row 0 1 (gn + gm) (Row.flts .f32 s2)), some (O.row 24 1 (q + k) (Row.flts .f32 fun p => jn q s3 (jv n m c w i) p)), some (O.var [A.ro 1 n (Row.flts .f32 r), A.ro 1 gn (Row.flts .f32 g), A.ro 1 cn (Row.flts .f32 c)]), some (O.var [A.ro 1 m (Row.flts .f32 u), A.ro 1 gm (Row.flts .f32 v), A.ro 1 cm (Row.flts .f32 w)]), some (O.var [A.nils, A.nils, A.nils])]) := by kernel_rfl
noncomputable def F50j : List A → List (Option O) → Option R3
  | [.ptr 0 0, .ptr 16 0, .int .i64 (.ofNat i), .int .i64 n1, .int .i64 m1, .int .i64 0, .int .i64 i2, .int .i64 m2, .ptr 400 0, .ptr 32 0, .bool false], [some (.var [.sl 272 a1, .sl 368 a2, .sl 528 q]), some (.row 0 1 a3 (.flts .f32 s1)), some (.row 0 1 a4 (.flts .f32 s2)), some (.row 24 1 q2 (.flts .f32 s3)), some (.var [.ro 1 n (.flts .f32 r), .ro 1 gn (.flts .f32 g), .ro 1 cn (.flts .f32 c)]), some (.var [.ro 1 m (.flts .f32 u), .ro 1 gm (.flts .f32 v), .ro 1 cm (.flts .f32 w)]), some (.var [.nils, .nils, .nils])] => some (.ite (decide (n1 = Int.ofNat n) && decide (m1 = Int.ofNat (n + m)) && decide (i2 = Int.ofNat i) && decide (m2 = Int.ofNat (n + m)) && Nat.beq a1 (n + m) && Nat.beq a2 (gn + gm) && Nat.beq a3 (n + m) && Nat.beq a4 (gn + gm) && Nat.beq q q2 && Nat.ble q 144 && Nat.ble n 6 && Nat.ble m 6 && Nat.beq cn (n * n) && Nat.beq cm (m * m) && Nat.blt i (n + m)) (.leaf .normal (I50j n gn cn m gm cm i q r g c u v w s1 s2 s3 ((n + m))) (J50j n gn cn m gm cm i q r g c u v w s1 s2 s3 ((n + m)))) .fail)
  | _, _ => none
theorem loop50j : CodeOK Try.prog (fun _ σ => sumAt Try.f27.ntmps 640 [2, 3, 8, 7, 41, 42, 37, 36, 6, 4, 5] [400, 272, 368, 528, 0, 16, 32] F50j σ) (.block 2 (.loop (loopOf Try.f27 2))) := by
  refine block_ok (own := fun _ => true) (lp := (fun _ => none)) (un := 0) (fuel := 1000) cfgDJ_ok (lp_none _) fun az os R hF hok => ?_
  unfold F50j at hF
  split at hF
  · rename_i i n1 m1 i2 m2 a1 a2 q a3 s1 a4 s2 q2 s3 n r gn g cn c m u gm v cm w
    injection hF with hF
    subst hF
    have hg := hok.guard
    have hg' := hg
    simp only [Bool.and_eq_true, Nat.ble_eq, Nat.beq_eq, decide_eq_true_eq] at hg'
    obtain ⟨⟨⟨⟨⟨⟨⟨⟨⟨⟨⟨⟨⟨⟨rfl, rfl⟩, rfl⟩, rfl⟩, rfl⟩, rfl⟩, rfl⟩, rfl⟩, rfl⟩, hq⟩, hn⟩, hm⟩, hcn⟩, hcm⟩, hi⟩ := hg'
    have hi := blt_lt' hi
    refine for_fact (ids := [400, 272, 368, 528, 0, 16, 32]) (fun _ => true) ((n + m)) (I50j n gn cn m gm cm i q r g c u v w s1 s2 s3) (J50j n gn cn m gm cm i q r g c u v w s1 s2 s3) _ (.ret) (I50j n gn cn m gm cm i q r g c u v w s1 s2 s3) (I50j n gn cn m gm cm i q r g c u v w s1 s2 s3) (I50j n gn cn m gm cm i q r g c u v w s1 s2 s3 ((n + m))) (J50j n gn cn m gm cm i q r g c u v w s1 s2 s3 ((n + m))) rfl (by unfold J50j; exact ⟨rfl, ⟨0, _, rfl, .inl rfl, fun _ _ => rfl⟩, ⟨0, _, rfl, .inl rfl, fun _ _ => rfl⟩, ⟨24, _, rfl, .inr rfl, fun p hp => flt_at (by unfold jn; rw [decide_eq_true (show p < q from hp)])⟩, rfl, rfl, rfl, trivial⟩) (fun _ => rfl) (fun _ => rfl) (fun _ => ALe.self _) (fun _ => rfl) (ALe.self _) (OSims.self _) rfl (fun h => by cases h) (fun k hk L h1 h2 h3 => ?_) fun L hL => ?_
    · rw [round50j]
      by_cases hkm : k < (n + m)
      · refine condT (lt_dec hkm) ?_
        rw [wrap_succ (by omega)]
        by_cases hin : i < n
        · by_cases hkn : k < n
          · have hv : c (Int.ofNat (i * n + k)).toNat = jv n m c w i k := by unfold jv; rw [decide_eq_true hin, decide_eq_true hkn]; rfl
            rw [wrap_ix hin hkn hn]
            refine condT (by rw [lt_dec hin, lt_dec hkn]; rfl) ?_
            refine condT (by rw [hcn, dec0, lt_dec (ix_lt hin hkn hn)]; rfl) ?_
            refine condT (decide_eq_true (by omega)) ?_
            exact h1 hkm rfl _ ⟨rfl, ⟨0, _, rfl, .inl rfl, fun _ _ => rfl⟩, ⟨0, _, rfl, .inl rfl, fun _ _ => rfl⟩, ⟨24, _, rfl, .inr rfl, fun p hp => flt_at (jn_app hv hp)⟩, rfl, rfl, rfl, trivial⟩
          · have hv : can .f32 0 = jv n m c w i k := by unfold jv; rw [decide_eq_true hin, decide_eq_false hkn, decide_eq_false (show ¬ n ≤ i by omega)]; rfl
            refine condE (by rw [lt_dec hin, ge_dec (by omega)]; rfl) ?_
            refine condE (by rw [decide_eq_false (p := Int.ofNat i ≥ Int.ofNat n) (by simp; omega)]; rfl) ?_
            refine condT (decide_eq_true (by omega)) ?_
            exact h1 hkm rfl _ ⟨rfl, ⟨0, _, rfl, .inl rfl, fun _ _ => rfl⟩, ⟨0, _, rfl, .inl rfl, fun _ _ => rfl⟩, ⟨24, _, rfl, .inr rfl, fun p hp => flt_at (jn_app hv hp)⟩, rfl, rfl, rfl, trivial⟩
        · refine condE (by rw [ge_dec (by omega)]; rfl) ?_
          by_cases hkn : k < n
          · have hv : can .f32 0 = jv n m c w i k := by unfold jv; rw [decide_eq_false hin, decide_eq_true (show n ≤ i by omega), decide_eq_false (show ¬ n ≤ k by omega)]; rfl
            refine condE (by rw [decide_eq_true (p := Int.ofNat i ≥ Int.ofNat n) (by simp; omega), decide_eq_false (p := Int.ofNat k ≥ Int.ofNat n) (by simp; omega)]; rfl) ?_
            refine condT (decide_eq_true (by omega)) ?_
            exact h1 hkm rfl _ ⟨rfl, ⟨0, _, rfl, .inl rfl, fun _ _ => rfl⟩, ⟨0, _, rfl, .inl rfl, fun _ _ => rfl⟩, ⟨24, _, rfl, .inr rfl, fun p hp => flt_at (jn_app hv hp)⟩, rfl, rfl, rfl, trivial⟩
          · have hv : w (Int.ofNat ((i - n) * m + (k - n))).toNat = jv n m c w i k := by unfold jv; rw [decide_eq_false hin, decide_eq_true (show n ≤ i by omega), decide_eq_true (show n ≤ k by omega)]; rfl
            have e1 : IntKind.i64.wrap (Int.ofNat i - Int.ofNat n) = Int.ofNat (i - n) := by
              rw [show Int.ofNat i - Int.ofNat n = Int.ofNat (i - n) by simp; omega]; exact wrap_nat (by omega)
            have e2 : IntKind.i64.wrap (Int.ofNat k - Int.ofNat n) = Int.ofNat (k - n) := by
              rw [show Int.ofNat k - Int.ofNat n = Int.ofNat (k - n) by simp; omega]; exact wrap_nat (by omega)
            have h2' : i - n < m := by omega
            have h3' : k - n < m := by omega
            rw [e1, e2, wrap_ix h2' h3' hm]
            refine condT (by rw [decide_eq_true (p := Int.ofNat i ≥ Int.ofNat n) (by simp; omega), decide_eq_true (p := Int.ofNat k ≥ Int.ofNat n) (by simp; omega)]; rfl) ?_
            refine condT (by rw [hcm, dec0, lt_dec (ix_lt h2' h3' hm)]; rfl) ?_
            refine condT (decide_eq_true (by omega)) ?_
            exact h1 hkm rfl _ ⟨rfl, ⟨0, _, rfl, .inl rfl, fun _ _ => rfl⟩, ⟨0, _, rfl, .inl rfl, fun _ _ => rfl⟩, ⟨24, _, rfl, .inr rfl, fun p hp => flt_at (jn_app hv hp)⟩, rfl, rfl, rfl, trivial⟩
      · refine condE (ge_dec (by omega)) ?_
        obtain rfl : k = (n + m) := by omega
        exact h3 rfl
    · exact ⟨fun _ => hL.1 hg, fun N _ h => by cases h⟩
  · cases hF
end Go.Fw.T1

/-
  Circuits joined: the program's loops.
-/
namespace Go.Fw.T1
open Go.Proofs
noncomputable def joinC (n m : Nat) (c w : Nat → Nat) (p : Nat) : Nat := jv n m c w (p / (n + m)) (p % (n + m))
theorem joinC_step {n m k p : Nat} {c w : Nat → Nat} (hp : p < k * (n + m) + (n + m)) : jn (k * (n + m)) (joinC n m c w) (jv n m c w k) p = joinC n m c w p := by
  unfold jn
  rcases Nat.lt_or_ge p (k * (n + m)) with h1 | h1
  · rw [decide_eq_true h1]
  · rw [decide_eq_false (by omega)]
    obtain ⟨s, rfl⟩ : ∃ s, p = k * (n + m) + s := ⟨p - k * (n + m), by omega⟩
    have hs : s < n + m := by omega
    show jv n m c w k (k * (n + m) + s - k * (n + m)) = _
    unfold joinC
    rw [ix_div hs, ix_mod hs, show k * (n + m) + s - k * (n + m) = s by omega]
theorem join_le {n m k : Nat} (hn : n ≤ 6) (hm : m ≤ 6) (hk : k ≤ n + m) : k * (n + m) ≤ 144 := Nat.le_trans (Nat.mul_le_mul (show k ≤ 12 by omega) (show n + m ≤ 12 by omega)) (by omega)
noncomputable def lpi50i : List (Nat × (St → T)) := [(2, sumAt Try.f27.ntmps 640 [2, 3, 8, 7, 41, 42, 37, 36, 6, 4, 5] [400, 272, 368, 528, 0, 16, 32] F50j)]
theorem lpi50i_ok : LpOK Try.prog (look lpi50i) (loopOf Try.f27 0) := lp_in (lp_loops (by kernel_rfl) (by kernel_rfl) fun p hp => by
  simp only [lpi50i, List.mem_cons, List.not_mem_nil, or_false] at hp
  rcases hp with rfl
  · exact loop50j) _
noncomputable def I50i (n gn cn m gm cm : Nat) (r g c u v w s1 s2 : Nat → Nat) (k : Nat) : List A := [.ptr 0 0, .ptr 16 0, .int .i64 (Int.ofNat n), .int .i64 (Int.ofNat (n + m)), .int .i64 (Int.ofNat k), .ptr 400 0, .ptr 32 0, .bool false]
noncomputable def J50i (n gn cn m gm cm : Nat) (r g c u v w s1 s2 : Nat → Nat) (k : Nat) : List O := [.var [.sl 272 (n + m), .sl 368 (gn + gm), .sl 528 (k * (n + m))], .row 0 1 (n + m) (.flts .f32 s1), .row 0 1 (gn + gm) (.flts .f32 s2), .row 24 1 (k * (n + m)) (.flts .f32 (joinC n m c w)), .var [.ro 1 n (.flts .f32 r), .ro 1 gn (.flts .f32 g), .ro 1 cn (.flts .f32 c)], .var [.ro 1 m (.flts .f32 u), .ro 1 gm (.flts .f32 v), .ro 1 cm (.flts .f32 w)], .var [.nils, .nils, .nils]]
theorem round50i (n gn cn m gm cm : Nat) (r g c u v w s1 s2 : Nat → Nat) (k : Nat) (L : XK → List A → List (Option O) → Prop) :
    ((exec cfgDJ (fun _ => true) (look lpi50i) 0 1000 (loopOf Try.f27 0) (litSt Try.f27.ntmps 544 [2, 3, 7, 36, 37, 6, 4, 5] [400, 272, 368, 528, 0, 16, 32] (I50i n gn cn m gm cm r g c u v w s1 s2 k) (J50i n gn cn m gm cm r g c u v w s1 s2 k))).rt [2, 3, 7, 36, 37, 6, 4, 5] [400, 272, 368, 528, 0, 16, 32]).Ok L =
    bif decide (Int.ofNat k < Int.ofNat (n + m)) then
      bif decide (Int.ofNat n = Int.ofNat n) && decide (Int.ofNat (n + m) = Int.ofNat (n + m)) && decide (Int.ofNat k = Int.ofNat k) && decide (Int.ofNat (n + m) = Int.ofNat (n + m)) && (n + m).beq (n + m) && (gn + gm).beq (gn + gm) && (n + m).beq (n + m) && (gn + gm).beq (gn + gm) && (k * (n + m)).beq (k * (n + m)) && (k * (n + m)).ble 144 && n.ble 6 && m.ble 6 && cn.beq (n * n) && cm.beq (m * m) && k.blt (n + m) then
        L (XK.normal) ([A.ptr 0 0, A.ptr 16 0, A.int .i64 (Int.ofNat n), A.int .i64 (Int.ofNat (n + m)), A.int .i64 (IntKind.i64.wrap (Int.ofNat k + Int.ofNat 1)), A.ptr 400 0, A.ptr 32 0, A.bool false]) ([some (O.var [A.sl 272 (n + m), A.sl 368 (gn + gm), A.sl 528 (k * (n + m) + (n + m))]), some (O.row 0 1 (n + m) (Row.flts .f32 s1)), some (O.row 0 1 (gn + gm) (Row.flts .f32 s2)), some (O.row 24 1 (k * (n + m) + (n + m)) (Row.flts .f32 fun p => jn (k * (n + m)) (joinC n m c w) (jv n m c w k) p)), some (O.var [A.ro 1 n (Row.flts .f32 r), A.ro 1 gn (Row.flts .f32 g), A.ro 1 cn (Row.flts .f32 c)]), some (O.var [A.ro 1 m (Row.flts .f32 u), A.ro 1 gm (Row.flts .f32 v), A.ro 1 cm (Row.flts .f32 w)]), some (O.var [A.nils, A.nils, A.nils])])
      else
        False
    else
      L (XK.exit 0) ([A.ptr 0 0, A.ptr 16 0, A.int .i64 (Int.ofNat n), A.int .i64 (Int.ofNat (n + m)), A.int .i64 (Int.ofNat k), A.ptr 400 0, A.ptr 32 0, A.bool false]) ([some (O.var [A.sl 272 (n + m), A.sl 368 (gn + gm), A.sl 528 (k * (n + m))]), some (O.row 0 1 (n + m) (Row.flts .f32 s1)), some (O.row 0 1 (gn + gm) (Row.flts .f32 s2)), some (O.row 24 1 (k * (n + m)) (Row.flts .f32 fun p => joinC n m c w p)), some (O.var [A.ro 1 n (Row.flts .f32 r), A.ro 1 gn (Row.flts .f32 g), A.ro 1 cn (Row.flts .f32 c)]), some (O.var [A.ro 1 m (Row.flts .f32 u), A.ro 1 gm (Row.flts .f32 v), A.ro 1 cm (Row.flts .f32 w)]), some (O.var [A.nils, A.nils, A.nils])]) := by kernel_rfl
noncomputable def F50i : List A → List (Option O) → Option R3
  | [.ptr 0 0, .ptr 16 0, .int .i64 n1, .int .i64 m1, .int .i64 0, .ptr 400 0, .ptr 32 0, .bool false], [some (.var [.sl 272 a1, .sl 368 a2, .sl 528 0]), some (.row 0 1 a3 (.flts .f32 s1)), some (.row 0 1 a4 (.flts .f32 s2)), some (.row 24 1 0 g3), some (.var [.ro 1 n (.flts .f32 r), .ro 1 gn (.flts .f32 g), .ro 1 cn (.flts .f32 c)]), some (.var [.ro 1 m (.flts .f32 u), .ro 1 gm (.flts .f32 v), .ro 1 cm (.flts .f32 w)]), some (.var [.nils, .nils, .nils])] => some (.ite (decide (n1 = Int.ofNat n) && decide (m1 = Int.ofNat (n + m)) && Nat.beq a1 (n + m) && Nat.beq a2 (gn + gm) && Nat.beq a3 (n + m) && Nat.beq a4 (gn + gm) && Nat.ble n 6 && Nat.ble m 6 && Nat.beq cn (n * n) && Nat.beq cm (m * m)) (.leaf .normal (I50i n gn cn m gm cm r g c u v w s1 s2 ((n + m))) (J50i n gn cn m gm cm r g c u v w s1 s2 ((n + m)))) .fail)
  | _, _ => none
theorem loop50i : CodeOK Try.prog (fun _ σ => sumAt Try.f27.ntmps 544 [2, 3, 7, 36, 37, 6, 4, 5] [400, 272, 368, 528, 0, 16, 32] F50i σ) (.block 0 (.loop (loopOf Try.f27 0))) := by
  refine block_ok (own := fun _ => true) (lp := (look lpi50i)) (un := 0) (fuel := 1000) cfgDJ_ok lpi50i_ok fun az os R hF hok => ?_
  unfold F50i at hF
  split at hF
  · rename_i n1 m1 a1 a2 a3 s1 a4 s2 g3 n r gn g cn c m u gm v cm w
    injection hF with hF
    subst hF
    have hg := hok.guard
    have hg' := hg
    simp only [Bool.and_eq_true, Nat.ble_eq, Nat.beq_eq, decide_eq_true_eq] at hg'
    obtain ⟨⟨⟨⟨⟨⟨⟨⟨⟨rfl, rfl⟩, rfl⟩, rfl⟩, rfl⟩, rfl⟩, hn⟩, hm⟩, hcn⟩, hcm⟩ := hg'
    refine for_fact (ids := [400, 272, 368, 528, 0, 16, 32]) (fun _ => true) ((n + m)) (I50i n gn cn m gm cm r g c u v w s1 s2) (J50i n gn cn m gm cm r g c u v w s1 s2) _ (.ret) (I50i n gn cn m gm cm r g c u v w s1 s2) (I50i n gn cn m gm cm r g c u v w s1 s2) (I50i n gn cn m gm cm r g c u v w s1 s2 ((n + m))) (J50i n gn cn m gm cm r g c u v w s1 s2 ((n + m))) rfl (by unfold J50i; exact ⟨by rw [Nat.zero_mul]; rfl, ⟨0, _, rfl, .inl rfl, fun _ _ => rfl⟩, ⟨0, _, rfl, .inl rfl, fun _ _ => rfl⟩, by rw [Nat.zero_mul]; exact ⟨24, _, rfl, .inr rfl, fun p hp => absurd hp (by omega)⟩, rfl, rfl, rfl, trivial⟩) (fun _ => rfl) (fun _ => rfl) (fun _ => ALe.self _) (fun _ => rfl) (ALe.self _) (OSims.self _) rfl (fun h => by cases h) (fun k hk L h1 h2 h3 => ?_) fun L hL => ?_
    · rw [round50i]
      by_cases hkm : k < (n + m)
      · refine condT (lt_dec hkm) ?_
        have hq := join_le hn hm (show k ≤ n + m by omega)
        rw [wrap_succ (by omega)]
        refine condT (by (repeat rw [decide_eq_true rfl]); rw [Nat.beq_refl, Nat.beq_refl, Nat.beq_refl, ble_of hq, ble_of hn, ble_of hm, hcn, hcm, Nat.beq_refl, Nat.beq_refl, blt_t hkm]; rfl) ?_
        exact h1 hkm rfl _ (by
          unfold J50i
          rw [Nat.succ_mul]
          exact ⟨rfl, ⟨0, _, rfl, .inl rfl, fun _ _ => rfl⟩, ⟨0, _, rfl, .inl rfl, fun _ _ => rfl⟩, ⟨24, _, rfl, .inr rfl, fun p hp => flt_at (joinC_step hp)⟩, rfl, rfl, rfl, trivial⟩)
      · refine condE (ge_dec (by omega)) ?_
        obtain rfl : k = (n + m) := by omega
        exact h3 rfl
    · exact ⟨fun _ => hL.1 hg, fun N _ h => by cases h⟩
  · cases hF
noncomputable def N50 : St → T := nilW 400 2 24 1 (sumAt Try.f27.ntmps 544 [2, 3, 7, 36, 37, 6, 4, 5] [400, 272, 368, 528, 0, 16, 32] F50i)
theorem loopN50 : CodeOK Try.prog (fun _ σ => N50 σ) (.block 0 (.loop (loopOf Try.f27 0))) := nilW_ok loop50i
end Go.Fw.T1

/-
  Circuits joined: the program.
-/
namespace Go.Fw.T1
open Go.Proofs
theorem joinC_at {n m i j : Nat} {c w : Nat → Nat} (hj : j < n + m) : joinC n m c w (i * (n + m) + j) = jv n m c w i j := by
  unfold joinC; rw [ix_div hj, ix_mod hj]
theorem jv_lo {n m i j : Nat} {c w : Nat → Nat} (hi : i < n) (hj : j < n) : jv n m c w i j = c (i * n + j) := by
  unfold jv; rw [decide_eq_true hi, decide_eq_true hj]; rfl
theorem jv_hi {n m i j : Nat} {c w : Nat → Nat} (hi : n ≤ i) (hj : n ≤ j) : jv n m c w i j = w ((i - n) * m + (j - n)) := by
  unfold jv; rw [decide_eq_false (show ¬ i < n by omega), decide_eq_true hi, decide_eq_true hj]; rfl
theorem jv_mix {n m i j : Nat} {c w : Nat → Nat} (h : (i < n ∧ n ≤ j) ∨ (n ≤ i ∧ j < n)) : jv n m c w i j = can .f32 0 := by
  unfold jv
  rcases h with ⟨h1, h2⟩ | ⟨h1, h2⟩
  · rw [decide_eq_true h1, decide_eq_false (show ¬ j < n by omega), decide_eq_false (show ¬ n ≤ i by omega)]; rfl
  · rw [decide_eq_false (show ¬ i < n by omega), decide_eq_true h1, decide_eq_false (show ¬ n ≤ j by omega)]; rfl
theorem jn_lo {n p : Nat} {r u : Nat → Nat} (h : p < n) : jn n r u p = r p := by unfold jn; rw [decide_eq_true h]
theorem jn_hi {n p : Nat} {r u : Nat → Nat} (h : n ≤ p) : jn n r u p = u (p - n) := by unfold jn; rw [decide_eq_false (by omega)]
theorem valid_join {n gn cn m gm cm : Nat} {r g c u v w : Nat → Nat} (ha : valid n gn cn r g c = true) (hb : valid m gm cm u v w = true) (h6 : n + m ≤ 6) : valid (n + m) (gn + gm) ((n + m) * (n + m)) (jn n r u) (jn gn g v) (joinC n m c w) = true := by
  obtain ⟨a1, a2, a3, a4⟩ := valid_sizes ha
  obtain ⟨b1, b2, b3, b4⟩ := valid_sizes hb
  unfold valid at ha hb ⊢
  simp only [Bool.and_eq_true, allUpTo_iff, Bool.not_eq_true'] at ha hb ⊢
  subst a3 b3
  refine ⟨decide_eq_true ⟨by omega, by omega, rfl, rfl⟩, fun i hi => ?_⟩
  by_cases hin : i < gn
  · have hu := ha.2 i hin
    refine ⟨?_, fun j hj => ?_⟩
    · have e : badrow (jn gn r u) (jn gn g v) (joinC gn gm c w) (gn + gm) i = badrow r g c gn i := by
        unfold badrow; rw [joinC_at hi, jv_lo hin hin, jn_lo hin, jn_lo hin]
      rw [e]; exact hu.1
    · by_cases hjn : j < gn
      · have e : badsym (joinC gn gm c w) (gn + gm) i j = badsym c gn i j := by
          unfold badsym; rw [joinC_at hj, joinC_at hi, jv_lo hin hjn, jv_lo hjn hin]
        rw [e]; exact hu.2 j hjn
      · unfold badsym
        rw [joinC_at hj, joinC_at hi, jv_mix (.inl ⟨hin, by omega⟩), jv_mix (.inr ⟨by omega, hin⟩)]
        decide +kernel
  · have hin' : i - gn < gm := by omega
    have hu := hb.2 (i - gn) hin'
    refine ⟨?_, fun j hj => ?_⟩
    · have e : badrow (jn gn r u) (jn gn g v) (joinC gn gm c w) (gn + gm) i = badrow u v w gm (i - gn) := by
        unfold badrow; rw [joinC_at hi, jv_hi (by omega) (by omega), jn_hi (by omega), jn_hi (by omega)]
      rw [e]; exact hu.1
    · by_cases hjn : j < gn
      · unfold badsym
        rw [joinC_at hj, joinC_at hi, jv_mix (.inr ⟨by omega, hjn⟩), jv_mix (.inl ⟨hjn, by omega⟩)]
        decide +kernel
      · have e : badsym (joinC gn gm c w) (gn + gm) i j = badsym w gm (i - gn) (j - gn) := by
          unfold badsym; rw [joinC_at hj, joinC_at hi, jv_hi (by omega) (by omega), jv_hi (by omega) (by omega)]
        rw [e]; exact hu.2 (j - gn) (by omega)
noncomputable def joinOk (n gn cn m gm cm : Nat) (r g c u v w : Nat → Nat) : Bool := bif bif valid n gn cn r g c then valid m gm cm u v w else false then decide (n + m ≤ 6) else false
theorem join_ok {n gn cn m gm cm : Nat} {r g c u v w : Nat → Nat} (h : joinOk n gn cn m gm cm r g c u v w = true) : valid n gn cn r g c = true ∧ valid m gm cm u v w = true ∧ n + m ≤ 6 := by
  unfold joinOk at h
  revert h
  cases valid n gn cn r g c <;> cases valid m gm cm u v w <;> simp
noncomputable def lp50T : List (Nat × (St → T)) := [(0, N50)]
theorem lp50T_ok : LpOK Try.prog (look lp50T) (bodyOf Try.f27) := lp_loops (by kernel_rfl) (by kernel_rfl) fun p hp => by
  simp only [lp50T, List.mem_cons, List.not_mem_nil, or_false] at hp
  rcases hp with rfl
  · exact loopN50
theorem auto50T (n gn cn m gm cm : Nat) (r g c u v w : Nat → Nat) : autoS cfgDJ (look lp50T) false Try.f27 [.agg [.ro 1 n (.flts .f32 r), .ro 1 gn (.flts .f32 g), .ro 1 cn (.flts .f32 c)], .agg [.ro 1 m (.flts .f32 u), .ro 1 gm (.flts .f32 v), .ro 1 cm (.flts .f32 w)]] =
    some ((!bif !valid n gn cn r g c then true else !valid m gm cm u v w) && (Nat.ble 1 gn && (gn + gm).ble 1000 && (Nat.ble 1 n && (n + m).ble 1000 && true) && (decide (Int.ofNat n = Int.ofNat n) && decide (Int.ofNat (n + m) = Int.ofNat (n + m)) && (n + m).beq (n + m) && (gn + gm).beq (gn + gm) && (n + m).beq (n + m) && (gn + gm).beq (gn + gm) && n.ble 6 && m.ble 6 && cn.beq (n * n) && cm.beq (m * m) && (!!valid (n + m) (gn + gm) ((n + m) * (n + m)) (jn n r u) (jn gn g v) (joinC n m c w) && true))), A.tup [A.agg [A.ro 1 (n + m) (Row.flts .f32 fun p => jn n r u p), A.ro 1 (gn + gm) (Row.flts .f32 fun p => jn gn g v p), A.ro 1 ((n + m) * (n + m)) (Row.flts .f32 fun p => joinC n m c w p)], A.bool true]) := by kernel_rfl
noncomputable def s50T : List A → Option (Bool × A)
  | [.agg [.ro 1 n (.flts .f32 r), .ro 1 gn (.flts .f32 g), .ro 1 cn (.flts .f32 c)], .agg [.ro 1 m (.flts .f32 u), .ro 1 gm (.flts .f32 v), .ro 1 cm (.flts .f32 w)]] => some (joinOk n gn cn m gm cm r g c u v w, .tup [.agg [.ro 1 (n + m) (.flts .f32 (jn n r u)), .ro 1 (gn + gm) (.flts .f32 (jn gn g v)), .ro 1 ((n + m) * (n + m)) (.flts .f32 (joinC n m c w))], .bool true])
  | _ => none
theorem s50T_at : EnvAt Try.prog 27 s50T := of_autoS cfgDJ_ok lp50T_ok Try.func27 (by kernel_rfl) (by kernel_rfl) fun ds cc rr h hc => by
  unfold s50T at h
  split at h
  · rename_i n r gn g cn c m u gm v cm w
    simp only [Option.some.injEq, Prod.mk.injEq] at h
    obtain ⟨rfl, rfl⟩ := h
    refine auto_fit (auto50T n gn cn m gm cm r g c u v w) ?_ ?_
    · rfl
    · obtain ⟨ha, hb, h6⟩ := join_ok hc
      obtain ⟨a1, a2, a3, a4⟩ := valid_sizes ha
      obtain ⟨b1, b2, b3, b4⟩ := valid_sizes hb
      rw [ha, hb, valid_join ha hb h6]
      repeat rw [decide_eq_true rfl]
      rw [ble_of (show 1 ≤ gn by omega), ble_of (show gn + gm ≤ 1000 by omega), ble_of (show 1 ≤ n by omega), ble_of (show n + m ≤ 1000 by omega), Nat.beq_refl, Nat.beq_refl, ble_of a2, ble_of b2, a4, b4, Nat.beq_refl, Nat.beq_refl]; rfl
  · cases h
end Go.Fw.T1

/-
  Circuits joined: the reference's tables.
-/
namespace Go.Fw.T1
open Go.Proofs
end Go.Fw.T1

/-
  Circuits joined: the reference's first loops.
-/
namespace Go.Fw.T1
open Go.Proofs
end Go.Fw.T1

/-
  Circuits joined: the reference's last loops.
-/
namespace Go.Fw.T1
open Go.Proofs
end Go.Fw.T1

/-
  Circuits joined: the reference.
-/
namespace Go.Fw.T1
open Go.Proofs
end Go.Fw.T1

/-
  Circuits joined: the law's tables.
-/
namespace Go.Fw.T1
open Go.Proofs
end Go.Fw.T1

/-
  Circuits joined: the law's walks.
-/
namespace Go.Fw.T1
open Go.Proofs
end Go.Fw.T1

/-
  Circuits joined: the law.
-/
namespace Go.Fw.T1
open Go.Proofs
end Go.Fw.T1

/-
  Complex numbers: products, quotients, sizes; slices of complex numbers copied; what the laws of circuits compare with.
-/
namespace Go.Fw.T1
open Go.Proofs
def wd (x : Nat) : Nat := fcvt .f32 .f64 x
def nr (x : Nat) : Nat := fcvt .f64 .f32 x
def nrOk (x : Nat) : Bool := fcvtOk .f64 .f32 x
def tmR64 (a b c d : Nat) : Nat := fop .sub .f64 (fop .mul .f64 a c) (fop .mul .f64 b d)
def tmI64 (a b c d : Nat) : Nat := fop .add .f64 (fop .mul .f64 a d) (fop .mul .f64 b c)
def tmR (a b c d : Nat) : Nat := nr (tmR64 (wd a) (wd b) (wd c) (wd d))
def tmI (a b c d : Nat) : Nat := nr (tmI64 (wd a) (wd b) (wd c) (wd d))
def tmOk (a b c d : Nat) : Bool := nrOk (tmR64 (wd a) (wd b) (wd c) (wd d)) && nrOk (tmI64 (wd a) (wd b) (wd c) (wd d))
def pw64 (c d : Nat) : Nat := fop .add .f64 (fop .mul .f64 (wd c) (wd c)) (fop .mul .f64 (wd d) (wd d))
def ovR64 (a b c d : Nat) : Nat := fop .quo .f64 (tmR64 (wd a) (wd b) (wd c) (fneg .f64 (wd d))) (pw64 c d)
def ovI64 (a b c d : Nat) : Nat := fop .quo .f64 (tmI64 (wd a) (wd b) (wd c) (fneg .f64 (wd d))) (pw64 c d)
def ovR (a b c d : Nat) : Nat := nr (ovR64 a b c d)
def ovI (a b c d : Nat) : Nat := nr (ovI64 a b c d)
def ovOk (a b c d : Nat) : Bool := nrOk (ovR64 a b c d) && nrOk (ovI64 a b c d)
def pw (c d : Nat) : Nat := nr (pw64 c d)
def pwOk (c d : Nat) : Bool := nrOk (pw64 c d)
def sz (c d : Nat) : Nat := nr (fsqrt (pw64 c d))
def szOk (c d : Nat) : Bool := nrOk (fsqrt (pw64 c d))
def gap (a b : Nat) : Nat := bif forder .f64 a b == some .lt then fop .sub .f64 b a else fop .sub .f64 a b
def off (a b c d : Nat) : Nat := fmax .f64 (gap (wd a) (wd c)) (gap (wd b) (wd d))
noncomputable def sClone : List A → Option (Bool × A)
  | [.ro 1 n (.cpxs .f32 x y)] => some (decide (0 < n) && decide (n ≤ 1073741824), .ro 1 n (.cpxs .f32 x y))
  | _ => none
theorem autoClone (n : Nat) (x y : Nat → Nat) : autoS cfg24 (fun _ => none) false Try.f64 [.ro 1 n (.cpxs .f32 x y)] =
    some (decide (0 < n) && (decide (0 + n ≤ 1073741824) && true), A.ro 1 (0 + n) (Row.cpxs .f32 x y)) := by kernel_rfl
theorem sClone_at : EnvAt Try.prog 64 sClone := of_autoS cfg24_ok (lp_none _) Try.func64 (by kernel_rfl) (by kernel_rfl) fun ds cc rr h hc => by
  unfold sClone at h
  split at h
  · rename_i n x y
    simp only [Option.some.injEq, Prod.mk.injEq] at h
    obtain ⟨rfl, rfl⟩ := h
    refine auto_fit (autoClone n x y) ?_ ?_
    · rw [Nat.zero_add]
    · simpa using hc
  · cases h
noncomputable def sPlus : List A → Option (Bool × A)
  | [.cpx .f32 a b, .cpx .f32 c d] => some (true, .cpx .f32 (fop .add .f32 a c) (fop .add .f32 b d))
  | _ => none
theorem sPlus_at : EnvAt Try.prog 39 sPlus := of_auto cfg24_ok (lp_none _) Try.func39 (by kernel_rfl) (by kernel_rfl) fun ds cc rr h hc => by
  unfold sPlus at h
  split at h
  · rename_i a b c d
    simp only [Option.some.injEq, Prod.mk.injEq] at h
    obtain ⟨rfl, rfl⟩ := h
    exact ⟨true, by kernel_rfl, rfl⟩
  · cases h
noncomputable def sMinus : List A → Option (Bool × A)
  | [.cpx .f32 a b, .cpx .f32 c d] => some (true, .cpx .f32 (fop .sub .f32 a c) (fop .sub .f32 b d))
  | _ => none
theorem sMinus_at : EnvAt Try.prog 65 sMinus := of_auto cfg24_ok (lp_none _) Try.func65 (by kernel_rfl) (by kernel_rfl) fun ds cc rr h hc => by
  unfold sMinus at h
  split at h
  · rename_i a b c d
    simp only [Option.some.injEq, Prod.mk.injEq] at h
    obtain ⟨rfl, rfl⟩ := h
    exact ⟨true, by kernel_rfl, rfl⟩
  · cases h
noncomputable def sGap : List A → Option (Bool × A)
  | [.flt .f64 a, .flt .f64 b] => some (true, .flt .f64 (gap a b))
  | _ => none
theorem autoGap (a b : Nat) : autoLp cfg24 (fun _ => none) Try.f11 [.flt .f64 a, .flt .f64 b] =
    some (bif forder .f64 a b == some Ordering.lt then true else true, A.flt .f64 (bif forder .f64 a b == some Ordering.lt then fop .sub .f64 b a else fop .sub .f64 a b)) := by kernel_rfl
theorem sGap_at : EnvAt Try.prog 11 sGap := of_auto cfg24_ok (lp_none _) Try.func11 (by kernel_rfl) (by kernel_rfl) fun ds cc rr h hc => by
  unfold sGap at h
  split at h
  · rename_i a b
    simp only [Option.some.injEq, Prod.mk.injEq] at h
    obtain ⟨rfl, rfl⟩ := h
    refine auto_fit (autoGap a b) rfl ?_
    cases forder .f64 a b == some Ordering.lt <;> rfl
  · cases h
noncomputable def envA1 : List (Nat × (List A → Option (Bool × A))) := (58, auto cfg24 Try.f58) :: (64, sClone) :: (48, auto cfg24 Try.f48) :: (39, sPlus) :: (65, sMinus) :: (61, auto cfg24 Try.f61) :: (11, sGap) :: (5, auto cfg24 Try.f5) :: (31, sAbove) :: (26, s21) :: env24
theorem envA1_ok : EnvOK Try.prog (look envA1) := env_cons (auto_at cfg24_ok Try.func58 (by kernel_rfl) (by kernel_rfl)) (env_cons sClone_at (env_cons (auto_at cfg24_ok Try.func48 (by kernel_rfl) (by kernel_rfl)) (env_cons sPlus_at (env_cons sMinus_at (env_cons (auto_at cfg24_ok Try.func61 (by kernel_rfl) (by kernel_rfl)) (env_cons sGap_at (env_cons (auto_at cfg24_ok Try.func5 (by kernel_rfl) (by kernel_rfl)) (env_cons s66_at (env_cons s21_at env24_ok)))))))))
noncomputable def cfgA1 : Cfg := mkCfg tab [] xts (look envA1)
theorem cfgA1_ok : CfgOK Try.prog cfgA1 := cfg_ok tab_eq (no_fts _) xts_ok envA1_ok mixed
noncomputable def sTm : List A → Option (Bool × A)
  | [.cpx .f32 a b, .cpx .f32 c d] => some (tmOk a b c d, .cpx .f32 (tmR a b c d) (tmI a b c d))
  | _ => none
noncomputable def sP64 : List A → Option (Bool × A)
  | [.cpx .f32 c d] => some (true, .flt .f64 (pw64 c d))
  | _ => none
theorem autoTm (a b c d : Nat) : autoLp cfgA1 (fun _ => none) Try.f49 [.cpx .f32 a b, .cpx .f32 c d] = some (nrOk (tmR64 (wd a) (wd b) (wd c) (wd d)) && (nrOk (tmI64 (wd a) (wd b) (wd c) (wd d)) && true), .cpx .f32 (tmR a b c d) (tmI a b c d)) := by kernel_rfl
theorem sTm_at : EnvAt Try.prog 49 sTm := of_auto cfgA1_ok (lp_none _) Try.func49 (by kernel_rfl) (by kernel_rfl) fun ds cc rr h hc => by
  unfold sTm at h
  split at h
  · rename_i a b c d
    simp only [Option.some.injEq, Prod.mk.injEq] at h
    obtain ⟨rfl, rfl⟩ := h
    refine auto_fit (autoTm a b c d) rfl ?_
    unfold tmOk at hc
    rw [Bool.and_true]; exact hc
  · cases h
theorem sP64_at : EnvAt Try.prog 59 sP64 := of_auto cfgA1_ok (lp_none _) Try.func59 (by kernel_rfl) (by kernel_rfl) fun ds cc rr h hc => by
  unfold sP64 at h
  split at h
  · rename_i c d
    simp only [Option.some.injEq, Prod.mk.injEq] at h
    obtain ⟨rfl, rfl⟩ := h
    exact ⟨true, by kernel_rfl, rfl⟩
  · cases h
theorem sP64b_at : EnvAt Try.prog 62 sP64 := of_auto cfgA1_ok (lp_none _) Try.func62 (by kernel_rfl) (by kernel_rfl) fun ds cc rr h hc => by
  unfold sP64 at h
  split at h
  · rename_i c d
    simp only [Option.some.injEq, Prod.mk.injEq] at h
    obtain ⟨rfl, rfl⟩ := h
    exact ⟨true, by kernel_rfl, rfl⟩
  · cases h
noncomputable def envA2 : List (Nat × (List A → Option (Bool × A))) := (49, sTm) :: (59, sP64) :: (62, sP64) :: envA1
theorem envA2_ok : EnvOK Try.prog (look envA2) := env_cons sTm_at (env_cons sP64_at (env_cons sP64b_at envA1_ok))
noncomputable def cfgA2 : Cfg := mkCfg tab [] xts (look envA2)
theorem cfgA2_ok : CfgOK Try.prog cfgA2 := cfg_ok tab_eq (no_fts _) xts_ok envA2_ok mixed
noncomputable def sOv : List A → Option (Bool × A)
  | [.cpx .f32 a b, .cpx .f32 c d] => some (ovOk a b c d, .cpx .f32 (ovR a b c d) (ovI a b c d))
  | _ => none
theorem autoOv (a b c d : Nat) : autoLp cfgA2 (fun _ => none) Try.f37 [.cpx .f32 a b, .cpx .f32 c d] = some (nrOk (ovR64 a b c d) && (nrOk (ovI64 a b c d) && true), .cpx .f32 (ovR a b c d) (ovI a b c d)) := by kernel_rfl
theorem sOv_at : EnvAt Try.prog 37 sOv := of_auto cfgA2_ok (lp_none _) Try.func37 (by kernel_rfl) (by kernel_rfl) fun ds cc rr h hc => by
  unfold sOv at h
  split at h
  · rename_i a b c d
    simp only [Option.some.injEq, Prod.mk.injEq] at h
    obtain ⟨rfl, rfl⟩ := h
    refine auto_fit (autoOv a b c d) rfl ?_
    unfold ovOk at hc
    rw [Bool.and_true]; exact hc
  · cases h
noncomputable def sPw : List A → Option (Bool × A)
  | [.cpx .f32 c d] => some (pwOk c d, .flt .f32 (pw c d))
  | _ => none
theorem autoPw (c d : Nat) : autoLp cfgA2 (fun _ => none) Try.f50 [.cpx .f32 c d] = some (pwOk c d && true, .flt .f32 (pw c d)) := by kernel_rfl
theorem sPw_at : EnvAt Try.prog 50 sPw := of_auto cfgA2_ok (lp_none _) Try.func50 (by kernel_rfl) (by kernel_rfl) fun ds cc rr h hc => by
  unfold sPw at h
  split at h
  · rename_i c d
    simp only [Option.some.injEq, Prod.mk.injEq] at h
    obtain ⟨rfl, rfl⟩ := h
    refine auto_fit (autoPw c d) rfl ?_
    rw [Bool.and_true]; exact hc
  · cases h
noncomputable def sSz : List A → Option (Bool × A)
  | [.cpx .f32 c d] => some (szOk c d, .flt .f32 (sz c d))
  | _ => none
theorem autoSz (c d : Nat) : autoLp cfgA2 (fun _ => none) Try.f41 [.cpx .f32 c d] = some (szOk c d && true, .flt .f32 (sz c d)) := by kernel_rfl
theorem sSz_at : EnvAt Try.prog 41 sSz := of_auto cfgA2_ok (lp_none _) Try.func41 (by kernel_rfl) (by kernel_rfl) fun ds cc rr h hc => by
  unfold sSz at h
  split at h
  · rename_i c d
    simp only [Option.some.injEq, Prod.mk.injEq] at h
    obtain ⟨rfl, rfl⟩ := h
    refine auto_fit (autoSz c d) rfl ?_
    rw [Bool.and_true]; exact hc
  · cases h
theorem autoSzb (c d : Nat) : autoLp cfgA2 (fun _ => none) Try.f42 [.cpx .f32 c d] = some (szOk c d && true && true, .flt .f32 (sz c d)) := by kernel_rfl
theorem sSzb_at : EnvAt Try.prog 42 sSz := of_auto cfgA2_ok (lp_none _) Try.func42 (by kernel_rfl) (by kernel_rfl) fun ds cc rr h hc => by
  unfold sSz at h
  split at h
  · rename_i c d
    simp only [Option.some.injEq, Prod.mk.injEq] at h
    obtain ⟨rfl, rfl⟩ := h
    refine auto_fit (autoSzb c d) rfl ?_
    rw [Bool.and_true, Bool.and_true]; exact hc
  · cases h
noncomputable def sOff : List A → Option (Bool × A)
  | [.cpx .f32 a b, .cpx .f32 c d] => some (true, .flt .f64 (off a b c d))
  | _ => none
theorem sOff_at : EnvAt Try.prog 12 sOff := of_auto cfgA2_ok (lp_none _) Try.func12 (by kernel_rfl) (by kernel_rfl) fun ds cc rr h hc => by
  unfold sOff at h
  split at h
  · rename_i a b c d
    simp only [Option.some.injEq, Prod.mk.injEq] at h
    obtain ⟨rfl, rfl⟩ := h
    exact ⟨true, by kernel_rfl, rfl⟩
  · cases h
noncomputable def envA3 : List (Nat × (List A → Option (Bool × A))) := (37, sOv) :: (50, sPw) :: (41, sSz) :: (42, sSz) :: (12, sOff) :: envA2
theorem envA3_ok : EnvOK Try.prog (look envA3) := env_cons sOv_at (env_cons sPw_at (env_cons sSz_at (env_cons sSzb_at (env_cons sOff_at envA2_ok))))
noncomputable def cfgA3 : Cfg := mkCfg tab [] xts (look envA3)
theorem cfgA3_ok : CfgOK Try.prog cfgA3 := cfg_ok tab_eq (no_fts _) xts_ok envA3_ok mixed
theorem autoSzc (c d : Nat) : autoLp cfgA3 (fun _ => none) Try.f17 [.cpx .f32 c d] = some (szOk c d && true, .flt .f32 (sz c d)) := by kernel_rfl
theorem sSzc_at : EnvAt Try.prog 17 sSz := of_auto cfgA3_ok (lp_none _) Try.func17 (by kernel_rfl) (by kernel_rfl) fun ds cc rr h hc => by
  unfold sSz at h
  split at h
  · rename_i c d
    simp only [Option.some.injEq, Prod.mk.injEq] at h
    obtain ⟨rfl, rfl⟩ := h
    refine auto_fit (autoSzc c d) rfl ?_
    rw [Bool.and_true]; exact hc
  · cases h
noncomputable def envA4 : List (Nat × (List A → Option (Bool × A))) := (17, sSz) :: envA3
theorem envA4_ok : EnvOK Try.prog (look envA4) := env_cons sSzc_at envA3_ok
noncomputable def cfgA4 : Cfg := mkCfg tab [] xts (look envA4)
theorem cfgA4_ok : CfgOK Try.prog cfgA4 := cfg_ok tab_eq (no_fts _) xts_ok envA4_ok mixed
end Go.Fw.T1

/-
  Equations of complex numbers, solved as the program does it: the same steps over rows told by functions.
-/
namespace Go.Fw.T1
open Go.Proofs
abbrev Rw := (Nat → Nat) × (Nat → Nat)
def setF (X : Nat → Nat) (i v : Nat) : Nat → Nat := fun j => match decide (j = i) with | true => v | false => X j
def rset (R : Rw) (i a b : Nat) : Rw := (setF R.1 i a, setF R.2 i b)
def rat (R : Rw) (j : Nat) : Nat × Nat := (R.1 j, R.2 j)
def rowN (rows : List Rw) (r : Nat) : Rw := rows.getD r (fun _ => 0, fun _ => 0)
def mAnd (c : Bool) (p : Bool × Rw) : Bool × Rw := (c && p.1, p.2)
def cpw (p : Nat × Nat) : Nat := pw p.1 p.2
def cpwOk (p : Nat × Nat) : Bool := pwOk p.1 p.2
def ctmOk (p q : Nat × Nat) : Bool := tmOk p.1 p.2 q.1 q.2
def covOk (p q : Nat × Nat) : Bool := ovOk p.1 p.2 q.1 q.2
def ctm (p q : Nat × Nat) : Nat × Nat := (tmR p.1 p.2 q.1 q.2, tmI p.1 p.2 q.1 q.2)
def cov (p q : Nat × Nat) : Nat × Nat := (ovR p.1 p.2 q.1 q.2, ovI p.1 p.2 q.1 q.2)
def cmi (p q : Nat × Nat) : Nat × Nat := (fop .sub .f32 p.1 q.1, fop .sub .f32 p.2 q.2)
def cset (R : Rw) (i : Nat) (p : Nat × Nat) : Rw := rset R i p.1 p.2
def isNum (p : Nat) : Bool := forder .f32 p p == some .eq
def gtW (p q : Nat) : Bool := forder .f32 p q == some .gt
def mSearch (rows : List Rw) (k : Nat) : List Nat → Option Nat → List Bool → (Nat → List Bool → Bool × Rw) → Bool × Rw
  | [], best, ws, cont => mAnd (cpwOk (rat (rowN rows (best.getD 0)) k) || false) (mAnd (!!gtW (cpw (rat (rowN rows (best.getD 0)) k)) (can .f32 0)) (cont (best.getD 0) ws))
  | r :: rs, none, ws, cont =>
    mAnd (cpwOk (rat (rowN rows r) k)) (mAnd (false || !((isNum (cpw (rat (rowN rows r) k)) == true) && false)) (mAnd (cpwOk (rat (rowN rows 0) k) || !((isNum (cpw (rat (rowN rows r) k)) == true) && false))
      (mAnd (bif isNum (cpw (rat (rowN rows r) k)) then true else false) (mSearch rows k rs (some r) ws cont))))
  | r :: rs, some b, ws, cont =>
    mAnd (cpwOk (rat (rowN rows r) k)) (mAnd (cpwOk (rat (rowN rows b) k) || !((isNum (cpw (rat (rowN rows r) k)) == true) && true))
      (match ws with
       | true :: ws => mAnd (bif isNum (cpw (rat (rowN rows r) k)) then gtW (cpw (rat (rowN rows r) k)) (cpw (rat (rowN rows b) k)) else false) (mSearch rows k rs (some r) ws cont)
       | ws => mAnd (!bif isNum (cpw (rat (rowN rows r) k)) then gtW (cpw (rat (rowN rows r) k)) (cpw (rat (rowN rows b) k)) else false) (mSearch rows k rs (some b) (ws.drop 1) cont)))
def mCols (r k : Nat) (f : Nat × Nat) : List Nat → List Rw → (List Rw → Bool × Rw) → Bool × Rw
  | [], rows, cont => cont rows
  | c :: cs, rows, cont => mAnd (ctmOk f (rat (rowN rows k) c) && true) (mCols r k f cs (rows.set r (cset (rowN rows r) c (cmi (rat (rowN rows r) c) (ctm f (rat (rowN rows k) c))))) cont)
def mElim (n k : Nat) : List Nat → List Rw → Rw → (List Rw → Rw → Bool × Rw) → Bool × Rw
  | [], rows, x, cont => cont rows x
  | r :: rs, rows, x, cont => mAnd (covOk (rat (rowN rows r) k) (rat (rowN rows k) k))
    (mCols r k (cov (rat (rowN rows r) k) (rat (rowN rows k) k)) ((List.range n).drop (k + 1)) rows fun rows' =>
      mAnd (ctmOk (cov (rat (rowN rows r) k) (rat (rowN rows k) k)) (rat x k) && true) (mElim n k rs rows' (cset x r (cmi (rat x r) (ctm (cov (rat (rowN rows r) k) (rat (rowN rows k) k)) (rat x k)))) cont))
def mDown (n : Nat) : List Nat → List Rw → Rw → List Bool → (List Rw → Rw → Bool × Rw) → Bool × Rw
  | [], rows, x, _, cont => cont rows x
  | k :: ks, rows, x, ws, cont => mSearch rows k ((List.range n).drop k) none ws fun b ws' =>
    mElim n k ((List.range n).drop (k + 1)) ((rows.set k (rowN rows b)).set b (rowN rows k)) (cset (cset x k (rat x b)) b (rat x k)) fun rows' x' => mDown n ks rows' x' ws' cont
def mBackC (rows : List Rw) (k : Nat) : List Nat → Rw → (Rw → Bool × Rw) → Bool × Rw
  | [], x, cont => cont x
  | c :: cs, x, cont => mAnd (ctmOk (rat (rowN rows k) c) (rat x c) && true) (mBackC rows k cs (cset x k (cmi (rat x k) (ctm (rat (rowN rows k) c) (rat x c)))) cont)
def mBack (n : Nat) (rows : List Rw) : List Nat → Rw → Bool × Rw
  | [], x => (true, x)
  | k :: ks, x => mBackC rows k ((List.range n).drop (k + 1)) x fun x' => mAnd (covOk (rat x' k) (rat (rowN rows k) k) && true) (mBack n rows ks (cset x' k (cov (rat x' k) (rat (rowN rows k) k))))
def mSolve (n : Nat) (x y u v : Nat → Nat) (ws : List Bool) : Bool × Rw :=
  mDown n (List.range n) ((List.range n).map fun r => (fun i => x (r * n + i), fun i => y (r * n + i))) (u, v) ws fun rows x => mBack n rows (List.range n).reverse x
noncomputable def own47 (d : Nat) : Bool := !(Nat.beq d 25)
def mRes (n : Nat) (p : Bool × Rw) : Option (Bool × A) := some (p.1, .tup [.ro 1 n (.cpxs .f32 p.2.1 p.2.2), .bool true])
theorem walkS1 (x y u v : Nat → Nat) : autoW cfgA4 own47 6 (fun _ => none) [false, true, false, true, true, true, false, false, false, true, false, false] Try.f47 [.ro 1 1 (.cpxs .f32 x y), .ro 1 1 (.cpxs .f32 u v)] =
    mRes 1 (mSolve 1 x y u v []) := by kernel_rfl
theorem walkS2a (x y u v : Nat → Nat) : autoW cfgA4 own47 6 (fun _ => none) [false, true, true, false, true, true, true, true, false, false, false, true, true, false, true, true, true, false, false, false, true, false, true, true, false, false] Try.f47 [.ro 1 4 (.cpxs .f32 x y), .ro 1 2 (.cpxs .f32 u v)] =
    mRes 2 (mSolve 2 x y u v [false]) := by kernel_rfl
theorem walkS2b (x y u v : Nat → Nat) : autoW cfgA4 own47 6 (fun _ => none) [false, true, true, false, true, true, true, true, true, false, false, true, true, false, true, true, true, false, false, false, true, false, true, true, false, false] Try.f47 [.ro 1 4 (.cpxs .f32 x y), .ro 1 2 (.cpxs .f32 u v)] =
    mRes 2 (mSolve 2 x y u v [true]) := by kernel_rfl
end Go.Fw.T1

/-
  Complex fractions, and what the program's operations make of them.
-/
namespace Go.Fw.T1
open Go.Proofs
def ab (q : Rat) : Rat := if 0 ≤ q then q else -q
theorem ab_nonneg (q : Rat) : 0 ≤ ab q := by unfold ab; split <;> grind
theorem ab_near (q : Rat) : Near q (ab q) := by unfold Near ab; split <;> constructor <;> grind
theorem ab_le {q B : Rat} (h : Near q B) : ab q ≤ B := by unfold Near at h; unfold ab; split <;> grind
theorem near_ab {q B : Rat} (h : ab q ≤ B) : Near q B := (ab_near q).mono h
theorem ab_add (a b : Rat) : ab (a + b) ≤ ab a + ab b := ab_le ((ab_near a).add (ab_near b))
theorem ab_sub (a b : Rat) : ab (a - b) ≤ ab a + ab b := ab_le ((ab_near a).sub (ab_near b))
theorem ab_neg (a : Rat) : ab (-a) = ab a := by unfold ab; split <;> split <;> grind
theorem ab_mul (a b : Rat) : ab (a * b) = ab a * ab b := by
  unfold ab
  by_cases ha : 0 ≤ a
  · by_cases hb : 0 ≤ b
    · rw [if_pos ha, if_pos hb, if_pos (Rat.mul_nonneg ha hb)]
    · rw [if_pos ha, if_neg hb]
      have := Rat.mul_nonneg ha (show 0 ≤ -b by grind)
      split <;> grind
  · by_cases hb : 0 ≤ b
    · rw [if_neg ha, if_pos hb]
      have := Rat.mul_nonneg (show 0 ≤ -a by grind) hb
      split <;> grind
    · rw [if_neg ha, if_neg hb]
      have := Rat.mul_nonneg (show 0 ≤ -a by grind) (show 0 ≤ -b by grind)
      split <;> grind
theorem ab_zero : ab 0 = 0 := by unfold ab; grind
theorem ab_sq (a : Rat) : ab a * ab a = a * a := by unfold ab; split <;> grind
theorem le_ab (a : Rat) : a ≤ ab a := by unfold ab; split <;> grind
abbrev CQ := Rat × Rat
def cadd (a b : CQ) : CQ := (a.1 + b.1, a.2 + b.2)
def csub (a b : CQ) : CQ := (a.1 - b.1, a.2 - b.2)
def cmul (a b : CQ) : CQ := (a.1 * b.1 - a.2 * b.2, a.1 * b.2 + a.2 * b.1)
def N (a : CQ) : Rat := ab a.1 + ab a.2
def sq (a : CQ) : Rat := a.1 * a.1 + a.2 * a.2
theorem N_nonneg (a : CQ) : 0 ≤ N a := by unfold N; have := ab_nonneg a.1; have := ab_nonneg a.2; grind
theorem N_add (a b : CQ) : N (cadd a b) ≤ N a + N b := by unfold N cadd; have := ab_add a.1 b.1; have := ab_add a.2 b.2; grind
theorem N_sub (a b : CQ) : N (csub a b) ≤ N a + N b := by unfold N csub; have := ab_sub a.1 b.1; have := ab_sub a.2 b.2; grind
theorem N_mul (a b : CQ) : N (cmul a b) ≤ N a * N b := by
  unfold N cmul
  have h1 := ab_sub (a.1 * b.1) (a.2 * b.2)
  have h2 := ab_add (a.1 * b.2) (a.2 * b.1)
  rw [ab_mul, ab_mul] at h1 h2
  grind
theorem N_sq (a : CQ) : sq a ≤ N a * N a := by
  unfold N sq
  rw [← ab_sq a.1, ← ab_sq a.2]
  have := Rat.mul_nonneg (ab_nonneg a.1) (ab_nonneg a.2)
  grind
theorem sq_N (a : CQ) : N a * N a ≤ 2 * sq a := by
  unfold N sq
  rw [← ab_sq a.1, ← ab_sq a.2]
  have := sqn (ab a.1 - ab a.2)
  grind
theorem sq_nonneg (a : CQ) : 0 ≤ sq a := by unfold sq; have := sqn a.1; have := sqn a.2; grind
def uE : Rat := 1 / 16000000
def tE : Rat := 1 / 2 ^ 140
def eE : Rat := ur .f64
def sE : Rat := tiny .f64
theorem uE_pos : 0 < uE := by decide +kernel
theorem tE_pos : 0 < tE := by decide +kernel
theorem eE_pos : 0 < eE := ur_pos _
theorem sE_pos : 0 < sE := tiny_pos _
def r32 (q : Rat) : Rat := rnd .f32 q
def r64 (q : Rat) : Rat := rnd .f64 q
theorem r32_err (q : Rat) : ab (r32 q - q) ≤ ab q * ur .f32 + tiny .f32 := ab_le (rnd_near (ab_near q))
theorem r64_err (q : Rat) : ab (r64 q - q) ≤ ab q * eE + sE := ab_le (rnd_near (ab_near q))
theorem ab_tri {a b c : Rat} (h : ab (a - b) ≤ c) : ab a ≤ ab b + c := by
  have := ab_add (a - b) b
  rw [show a - b + b = a by grind] at this
  grind
theorem ab_via {a b c x y : Rat} (h : ab (a - b) ≤ x) (h' : ab (b - c) ≤ y) : ab (a - c) ≤ x + y := by
  have := ab_add (a - b) (b - c)
  rw [show a - b + (b - c) = a - c by grind] at this
  grind
def two64 (s : Bool) (x y : Rat) : Rat := r64 (bif s then r64 x - r64 y else r64 x + r64 y)
theorem two64_err (s : Bool) (x y : Rat) : ab (two64 s x y - (bif s then x - y else x + y)) ≤ (ab x + ab y) * (3 * eE) + 6 * sE := by
  have hx := r64_err x
  have hy := r64_err y
  have he := eE_pos
  have hs := sE_pos
  have hx0 := ab_nonneg x
  have hy0 := ab_nonneg y
  have he1 : eE * 4 ≤ 1 := by decide +kernel
  have step : ∀ v w : Rat, ab (v - w) ≤ (ab x + ab y) * eE + 2 * sE → ab w ≤ ab x + ab y → ab (r64 v - w) ≤ (ab x + ab y) * (3 * eE) + 6 * sE := fun v w h1 h2 => by
    have h3 := r64_err v
    have h4 := ab_tri h1
    have h5 := ab_via h3 h1
    have h6 : ab v * eE ≤ ((ab x + ab y) + ((ab x + ab y) * eE + 2 * sE)) * eE := Rat.mul_le_mul_of_nonneg_right (by grind) (Rat.le_of_lt he)
    have h7 : ((ab x + ab y) * eE + 2 * sE) * eE ≤ ((ab x + ab y) * eE + 2 * sE) * (1 / 4) := Rat.mul_le_mul_of_nonneg_left (by grind) (by
      have := Rat.mul_nonneg (show 0 ≤ ab x + ab y by grind) (Rat.le_of_lt he); grind)
    have h8 := Rat.mul_nonneg (show 0 ≤ ab x + ab y by grind) (Rat.le_of_lt he)
    grind
  unfold two64
  cases s
  · refine step _ _ ?_ (ab_add x y)
    have := ab_add (r64 x - x) (r64 y - y)
    rw [show r64 x - x + (r64 y - y) = (r64 x + r64 y) - (x + y) by grind] at this
    show ab (r64 x + r64 y - (x + y)) ≤ _
    grind
  · refine step _ _ ?_ (ab_sub x y)
    have := ab_sub (r64 x - x) (r64 y - y)
    rw [show r64 x - x - (r64 y - y) = (r64 x - r64 y) - (x - y) by grind] at this
    show ab (r64 x - r64 y - (x - y)) ≤ _
    grind
end Go.Fw.T1

/-
  Products, differences, sizes of complex numbers: what they are, nearly.
-/
namespace Go.Fw.T1
open Go.Proofs
def tmQ (a b : CQ) : CQ := (r32 (two64 true (a.1 * b.1) (a.2 * b.2)), r32 (two64 false (a.1 * b.2) (a.2 * b.1)))
def miQ (a b : CQ) : CQ := (r32 (a.1 - b.1), r32 (a.2 - b.2))
def p64Q (b : CQ) : Rat := two64 false (b.1 * b.1) (b.2 * b.2)
def pwQ (b : CQ) : Rat := r32 (p64Q b)
def ovQ (a b : CQ) : CQ := (r32 (r64 (two64 true (a.1 * b.1) (a.2 * -b.2) / p64Q b)), r32 (r64 (two64 false (a.1 * -b.2) (a.2 * b.1) / p64Q b)))
def CV (p : Nat × Nat) (a : CQ) : Prop := Val .f32 p.1 a.1 ∧ Val .f32 p.2 a.2
theorem bifs (s : Bool) (x y : Rat) : ab (bif s then x - y else x + y) ≤ ab x + ab y := by cases s <;> first | exact ab_add x y | exact ab_sub x y
theorem two32_err (s : Bool) (x y : Rat) : ab (r32 (two64 s x y) - (bif s then x - y else x + y)) ≤ (ab x + ab y) * uE + tE * (1 / 2) := by
  have h1 := two64_err s x y
  have h2 := r32_err (two64 s x y)
  have h3 := ab_via h2 h1
  have h4 := ab_tri h1
  have h5 := bifs s x y
  have hu := ur_pos .f32
  have hM : 0 ≤ ab x + ab y := by have := ab_nonneg x; have := ab_nonneg y; grind
  have h6 : ab (two64 s x y) * ur .f32 ≤ ((ab x + ab y) + ((ab x + ab y) * (3 * eE) + 6 * sE)) * ur .f32 := Rat.mul_le_mul_of_nonneg_right (by grind) (Rat.le_of_lt hu)
  have k1 : ur .f32 + 3 * eE * ur .f32 + 3 * eE ≤ uE := by decide +kernel
  have k2 : 6 * sE * ur .f32 + tiny .f32 + 6 * sE ≤ tE * (1 / 2) := by decide +kernel
  have k3 := Rat.mul_le_mul_of_nonneg_left k1 hM
  grind
theorem N_two {x1 y1 x2 y2 : Rat} (a b : CQ) (h1 : x1 = a.1 * b.1) (h2 : y1 = a.2 * b.2) (h3 : x2 = a.1 * b.2) (h4 : y2 = a.2 * b.1) : (ab x1 + ab y1) + (ab x2 + ab y2) = N a * N b := by
  subst h1 h2 h3 h4
  rw [ab_mul, ab_mul, ab_mul, ab_mul]
  unfold N
  grind
theorem tm_err (a b : CQ) : N (csub (tmQ a b) (cmul a b)) ≤ N a * N b * uE + tE := by
  have h1 := two32_err true (a.1 * b.1) (a.2 * b.2)
  have h2 := two32_err false (a.1 * b.2) (a.2 * b.1)
  have h3 := N_two a b rfl rfl rfl rfl
  have e : N (csub (tmQ a b) (cmul a b)) = ab (r32 (two64 true (a.1 * b.1) (a.2 * b.2)) - (a.1 * b.1 - a.2 * b.2)) + ab (r32 (two64 false (a.1 * b.2) (a.2 * b.1)) - (a.1 * b.2 + a.2 * b.1)) := rfl
  rw [e, ← h3]
  simp only [cond_true, cond_false] at h1 h2
  grind
theorem mi_err (a b : CQ) : N (csub (miQ a b) (csub a b)) ≤ N (csub a b) * uE + tE := by
  have h1 := r32_err (a.1 - b.1)
  have h2 := r32_err (a.2 - b.2)
  have e : N (csub (miQ a b) (csub a b)) = ab (r32 (a.1 - b.1) - (a.1 - b.1)) + ab (r32 (a.2 - b.2) - (a.2 - b.2)) := rfl
  have e' : N (csub a b) = ab (a.1 - b.1) + ab (a.2 - b.2) := rfl
  have k1 : ur .f32 ≤ uE := by decide +kernel
  have k2 : 2 * tiny .f32 ≤ tE := by decide +kernel
  have k3 := Rat.mul_le_mul_of_nonneg_left k1 (ab_nonneg (a.1 - b.1))
  have k4 := Rat.mul_le_mul_of_nonneg_left k1 (ab_nonneg (a.2 - b.2))
  rw [e, e']
  grind
theorem ab_pos_eq {q : Rat} (h : 0 ≤ q) : ab q = q := by unfold ab; rw [if_pos h]
theorem pw_err (b : CQ) : ab (pwQ b - sq b) ≤ sq b * uE + tE * (1 / 2) := by
  have h := two32_err false (b.1 * b.1) (b.2 * b.2)
  rw [ab_pos_eq (sqn b.1), ab_pos_eq (sqn b.2)] at h
  exact h
def big : Rat := 2 ^ 30
theorem r64_big {x X : Rat} (h : ab x ≤ X) : ab (r64 x) ≤ 2 * X + 1 := by
  have h1 := ab_tri (r64_err x)
  have he : eE ≤ 1 := by decide +kernel
  have hs : sE ≤ 1 := by decide +kernel
  have := Rat.mul_le_mul_of_nonneg_left he (ab_nonneg x)
  grind
theorem mul_val {p q : Nat} {x y X : Rat} (hp : Val .f64 p x) (hq : Val .f64 q y) (h : ab (x * y) ≤ X) (hX : X ≤ most) : Val .f64 (fop .mul .f64 p q) (r64 (x * y)) := hp.mulR hq (near_ab h) hX
theorem two_sub {p q : Nat} {x y X : Rat} (hp : Val .f64 p (r64 x)) (hq : Val .f64 q (r64 y)) (hx : ab x ≤ X) (hy : ab y ≤ X) (hX : 4 * X + 2 ≤ most) : Val .f64 (fop .sub .f64 p q) (two64 true x y) := by
  have h1 := r64_big hx
  have h2 := r64_big hy
  have h3 := ab_sub (r64 x) (r64 y)
  exact hp.subR hq (X := 4 * X + 2) (near_ab (by grind)) hX
theorem two_add {p q : Nat} {x y X : Rat} (hp : Val .f64 p (r64 x)) (hq : Val .f64 q (r64 y)) (hx : ab x ≤ X) (hy : ab y ≤ X) (hX : 4 * X + 2 ≤ most) : Val .f64 (fop .add .f64 p q) (two64 false x y) := by
  have h1 := r64_big hx
  have h2 := r64_big hy
  have h3 := ab_add (r64 x) (r64 y)
  exact hp.addR hq (X := 4 * X + 2) (near_ab (by grind)) hX
theorem two_big (s : Bool) {x y X : Rat} (hx : ab x ≤ X) (hy : ab y ≤ X) : ab (two64 s x y) ≤ 8 * X + 5 := by
  have h1 := r64_big hx
  have h2 := r64_big hy
  unfold two64
  cases s
  · have := r64_big (X := 4 * X + 2) (x := r64 x + r64 y) (by have := ab_add (r64 x) (r64 y); grind)
    show ab (r64 (r64 x + r64 y)) ≤ _
    grind
  · have := r64_big (X := 4 * X + 2) (x := r64 x - r64 y) (by have := ab_sub (r64 x) (r64 y); grind)
    show ab (r64 (r64 x - r64 y)) ≤ _
    grind
theorem part_le {a : CQ} {B : Rat} (h : N a ≤ B) : ab a.1 ≤ B ∧ ab a.2 ≤ B := by unfold N at h; have := ab_nonneg a.1; have := ab_nonneg a.2; constructor <;> grind
theorem prod_big {x y : Rat} (hx : ab x ≤ big) (hy : ab y ≤ big) : ab (x * y) ≤ big * big := by
  rw [ab_mul]
  exact Rat.le_trans (Rat.mul_le_mul_of_nonneg_right hx (ab_nonneg y)) (Rat.mul_le_mul_of_nonneg_left hy (by decide +kernel))
theorem big_most : 4 * (big * big) + 2 ≤ most := by decide +kernel
theorem big_most' : 8 * (big * big) + 5 ≤ most := by decide +kernel
theorem bb_most : big * big ≤ most := by decide +kernel
theorem tm_val {p q : Nat × Nat} {a b : CQ} (hp : CV p a) (hq : CV q b) (ha : N a ≤ big) (hb : N b ≤ big) : CV (ctm p q) (tmQ a b) ∧ ctmOk p q = true := by
  obtain ⟨a1, a2⟩ := part_le ha
  obtain ⟨b1, b2⟩ := part_le hb
  have w1 := hp.1.widen
  have w2 := hp.2.widen
  have v1 := hq.1.widen
  have v2 := hq.2.widen
  have c1 := prod_big a1 b1
  have c2 := prod_big a2 b2
  have c3 := prod_big a1 b2
  have c4 := prod_big a2 b1
  have re := two_sub (mul_val w1 v1 c1 bb_most) (mul_val w2 v2 c2 bb_most) c1 c2 big_most
  have im := two_add (mul_val w1 v2 c3 bb_most) (mul_val w2 v1 c4 bb_most) c3 c4 big_most
  obtain ⟨r1, r2⟩ := re.narrowR (near_ab (two_big true c1 c2)) big_most'
  obtain ⟨i1, i2⟩ := im.narrowR (near_ab (two_big false c3 c4)) big_most'
  refine ⟨⟨r1, i1⟩, ?_⟩
  have h : (nrOk (tmR64 (wd p.1) (wd p.2) (wd q.1) (wd q.2)) && nrOk (tmI64 (wd p.1) (wd p.2) (wd q.1) (wd q.2))) = true := by
    rw [Bool.and_eq_true]; exact ⟨r2, i2⟩
  exact h
theorem mi_val {p q : Nat × Nat} {a b : CQ} (hp : CV p a) (hq : CV q b) (ha : N a ≤ big) (hb : N b ≤ big) : CV (cmi p q) (miQ a b) := by
  obtain ⟨a1, a2⟩ := part_le ha
  obtain ⟨b1, b2⟩ := part_le hb
  have hm : big + big ≤ most := by decide +kernel
  have h1 := ab_sub a.1 b.1
  have h2 := ab_sub a.2 b.2
  exact ⟨hp.1.subR hq.1 (X := big + big) (near_ab (by grind)) hm, hp.2.subR hq.2 (X := big + big) (near_ab (by grind)) hm⟩
theorem p64_val {q : Nat × Nat} {b : CQ} (hq : CV q b) (hb : N b ≤ big) : Val .f64 (pw64 q.1 q.2) (p64Q b) := by
  obtain ⟨b1, b2⟩ := part_le hb
  have c1 := prod_big b1 b1
  have c2 := prod_big b2 b2
  exact two_add (mul_val hq.1.widen hq.1.widen c1 bb_most) (mul_val hq.2.widen hq.2.widen c2 bb_most) c1 c2 big_most
theorem pw_val {q : Nat × Nat} {b : CQ} (hq : CV q b) (hb : N b ≤ big) : Val .f32 (cpw q) (pwQ b) ∧ cpwOk q = true := by
  obtain ⟨b1, b2⟩ := part_le hb
  have c1 := prod_big b1 b1
  have c2 := prod_big b2 b2
  exact (p64_val hq hb).narrowR (near_ab (two_big false c1 c2)) big_most'
end Go.Fw.T1

/-
  Quotients of complex numbers: what they are, nearly.
-/
namespace Go.Fw.T1
open Go.Proofs
def dE : Rat := 1 / 2 ^ 28
theorem dE_pos : 0 < dE := by decide +kernel
theorem p64_err (b : CQ) : ab (p64Q b - sq b) ≤ sq b * (3 * eE) + 6 * sE := by
  have h := two64_err false (b.1 * b.1) (b.2 * b.2)
  rw [ab_pos_eq (sqn b.1), ab_pos_eq (sqn b.2)] at h
  exact h
theorem p64_near {b : CQ} (hd : dE ≤ sq b) : ab (p64Q b - sq b) ≤ sq b * (4 * eE) ∧ sq b * (1 / 2) ≤ p64Q b := by
  have h := p64_err b
  have k : 6 * sE ≤ dE * eE := by decide +kernel
  have he := eE_pos
  have h1 := Rat.mul_le_mul_of_nonneg_right hd (Rat.le_of_lt he)
  have h2 : ab (p64Q b - sq b) ≤ sq b * (4 * eE) := by grind
  refine ⟨h2, ?_⟩
  have h3 := ab_near (p64Q b - sq b)
  have k2 : 4 * eE ≤ 1 / 2 := by decide +kernel
  have h4 := Rat.mul_le_mul_of_nonneg_left k2 (sq_nonneg b)
  unfold Near at h3
  grind
theorem ab_div {v p : Rat} (hp : 0 < p) : ab (v / p) * p = ab v := by
  have h : ab (v / p) * ab p = ab (v / p * p) := (ab_mul _ _).symm
  rw [ab_pos_eq (Rat.le_of_lt hp), Rat.div_mul_cancel (by grind)] at h
  exact h
theorem quo_part {v n P D M : Rat} (hD : dE ≤ D) (hP : ab (P - D) ≤ D * (4 * eE)) (hP2 : D * (1 / 2) ≤ P) (hv : ab (v - n) ≤ M * (3 * eE) + 6 * sE) (hM : ab n ≤ M) :
    ab (r32 (r64 (v / P)) * D - n) ≤ ab n * ur .f32 + M * (200 * eE) + D * (tE * (1 / 4)) := by
  have he := eE_pos
  have hs := sE_pos
  have hd0 := dE_pos
  have hD0 : 0 < D := by grind
  have hP0 : 0 < P := by grind
  have hM0 : 0 ≤ M := Rat.le_trans (ab_nonneg n) hM
  have hu := ur_pos .f32
  generalize hq : v / P = q
  have hqP : q * P = v := by rw [← hq]; exact Rat.div_mul_cancel (by grind)
  have hQ : 0 ≤ ab q := ab_nonneg q
  have q1 : ab q * P = ab v := by rw [← hq]; exact ab_div hP0
  have v1 := ab_tri hv
  have e1 : 4 * eE ≤ 1 / 1000 := by decide +kernel
  have m1 := Rat.mul_nonneg hM0 (Rat.le_of_lt he)
  have q2 : ab q * (D * (1 / 2)) ≤ ab q * P := Rat.mul_le_mul_of_nonneg_left hP2 hQ
  have m2 : M * (3 * eE) ≤ M * (1 / 1000) := Rat.mul_le_mul_of_nonneg_left (by grind) hM0
  have q3 : ab q * D ≤ 3 * M + 12 * sE := by grind
  have d1 : ab (q * D - v) ≤ ab q * (D * (4 * eE)) := by
    have : q * D - v = q * (D - P) := by rw [← hqP]; grind
    rw [this, ab_mul]
    have : ab (D - P) = ab (P - D) := by rw [← ab_neg]; congr 1; grind
    rw [this]
    exact Rat.mul_le_mul_of_nonneg_left hP hQ
  have d2 : ab q * (D * (4 * eE)) ≤ (3 * M + 12 * sE) * (4 * eE) := by
    have := Rat.mul_le_mul_of_nonneg_right q3 (show 0 ≤ 4 * eE by grind)
    grind
  have d3 := ab_via d1 hv
  have se : sE * eE ≤ sE * (1 / 4000) := Rat.mul_le_mul_of_nonneg_left (by grind) (Rat.le_of_lt hs)
  have d4 : ab (q * D - n) ≤ M * (16 * eE) + 7 * sE := by grind
  have r1 := r64_err q
  have r2 := r32_err (r64 q)
  have r3 := ab_tri r1
  have r4 := ab_via r2 r1
  have r5 : ab (r64 q) * ur .f32 ≤ (ab q + (ab q * eE + sE)) * ur .f32 := Rat.mul_le_mul_of_nonneg_right r3 (Rat.le_of_lt hu)
  have r6 : ab (r32 (r64 q) - q) ≤ ab q * ur .f32 + ab q * (2 * eE) + (2 * sE + tiny .f32) := by
    have k1 : eE * ur .f32 ≤ eE := by decide +kernel
    have k2 : sE * ur .f32 ≤ sE := by decide +kernel
    have := Rat.mul_le_mul_of_nonneg_left k1 hQ
    grind
  have r7 : ab ((r32 (r64 q) - q) * D) ≤ (ab q * ur .f32 + ab q * (2 * eE) + (2 * sE + tiny .f32)) * D := by
    rw [ab_mul, ab_pos_eq (Rat.le_of_lt hD0)]
    exact Rat.mul_le_mul_of_nonneg_right r6 (Rat.le_of_lt hD0)
  have qd : ab q * D = ab (q * D) := by rw [ab_mul, ab_pos_eq (Rat.le_of_lt hD0)]
  have qn := ab_tri d4
  have r8 : ab q * D * ur .f32 ≤ (ab n + (M * (16 * eE) + 7 * sE)) * ur .f32 := Rat.mul_le_mul_of_nonneg_right (by rw [qd]; exact qn) (Rat.le_of_lt hu)
  have r9 : ab q * D * (2 * eE) ≤ (3 * M + 12 * sE) * (2 * eE) := Rat.mul_le_mul_of_nonneg_right q3 (by grind)
  have u1 : ur .f32 ≤ 1 / 1000 := by decide +kernel
  have u2 := Rat.mul_le_mul_of_nonneg_left u1 (show 0 ≤ M * (16 * eE) + 7 * sE by grind)
  have fin := ab_add ((r32 (r64 q) - q) * D) (q * D - n)
  rw [show (r32 (r64 q) - q) * D + (q * D - n) = r32 (r64 q) * D - n by grind] at fin
  have k3 : 40 * sE ≤ dE * (tE * (1 / 16)) := by decide +kernel
  have k4 : 2 * sE + tiny .f32 ≤ tE * (1 / 8) := by decide +kernel
  have k5 := Rat.mul_le_mul_of_nonneg_right hD (show 0 ≤ tE * (1 / 16) by decide +kernel)
  have k6 := Rat.mul_le_mul_of_nonneg_left k4 (Rat.le_of_lt hD0)
  grind
def cnj (a b : CQ) : CQ := (a.1 * b.1 - a.2 * -b.2, a.1 * -b.2 + a.2 * b.1)
theorem cnj_sq (a b : CQ) : sq (cnj a b) = sq a * sq b := by unfold sq cnj; dsimp only; grind
theorem N_scale (a : CQ) {t : Rat} (ht : 0 ≤ t) : N (a.1 * t, a.2 * t) = N a * t := by unfold N; dsimp only; rw [ab_mul, ab_mul, ab_pos_eq ht]; grind
theorem ov_part (a b : CQ) (hd : dE ≤ sq b) : N (csub ((ovQ a b).1 * sq b, (ovQ a b).2 * sq b) (cnj a b)) ≤ N (cnj a b) * ur .f32 + N a * N b * (200 * eE) + sq b * (tE * (1 / 2)) := by
  obtain ⟨h1, h2⟩ := p64_near hd
  have t1 := two64_err true (a.1 * b.1) (a.2 * -b.2)
  have t2 := two64_err false (a.1 * -b.2) (a.2 * b.1)
  have m := N_two (x1 := a.1 * b.1) (y1 := a.2 * -b.2) (x2 := a.1 * -b.2) (y2 := a.2 * b.1) a (b.1, -b.2) rfl rfl rfl rfl
  have eN : N (b.1, -b.2) = N b := by unfold N; dsimp only; rw [ab_neg]
  rw [eN] at m
  have p1 := quo_part hd h1 h2 t1 (ab_sub (a.1 * b.1) (a.2 * -b.2))
  have p2 := quo_part hd h1 h2 t2 (ab_add (a.1 * -b.2) (a.2 * b.1))
  have e : N (csub ((ovQ a b).1 * sq b, (ovQ a b).2 * sq b) (cnj a b)) = ab (r32 (r64 (two64 true (a.1 * b.1) (a.2 * -b.2) / p64Q b)) * sq b - (a.1 * b.1 - a.2 * -b.2)) + ab (r32 (r64 (two64 false (a.1 * -b.2) (a.2 * b.1) / p64Q b)) * sq b - (a.1 * -b.2 + a.2 * b.1)) := rfl
  have e2 : N (cnj a b) = ab (a.1 * b.1 - a.2 * -b.2) + ab (a.1 * -b.2 + a.2 * b.1) := rfl
  rw [e, e2, ← m]
  clear t1 t2 h1 h2 e e2 m eN
  generalize r32 (r64 (two64 true (a.1 * b.1) (a.2 * -b.2) / p64Q b)) * sq b = A at *
  generalize r32 (r64 (two64 false (a.1 * -b.2) (a.2 * b.1) / p64Q b)) * sq b = B at *
  generalize ab (a.1 * b.1) + ab (a.2 * -b.2) = M1 at *
  generalize ab (a.1 * -b.2) + ab (a.2 * b.1) = M2 at *
  generalize sq b = D at *
  grind
theorem le_of_sq_le {x y : Rat} (hy : 0 ≤ y) (h : x * x ≤ y * y) : x ≤ y := le_of_sq hy h
theorem cnj_N (a b : CQ) : N (cnj a b) * N b ≤ 2 * sq b * N a := by
  refine le_of_sq_le (Rat.mul_nonneg (Rat.mul_nonneg (by decide) (sq_nonneg b)) (N_nonneg a)) ?_
  have h1 := sq_N (cnj a b)
  rw [cnj_sq] at h1
  have h2 := sq_N b
  have h3 := N_sq a
  have h4 := Rat.mul_le_mul_of_nonneg_right h1 (Rat.mul_nonneg (N_nonneg b) (N_nonneg b))
  have h5 := Rat.mul_le_mul_of_nonneg_left h2 (Rat.mul_nonneg (show (0 : Rat) ≤ 2 by decide) (Rat.mul_nonneg (sq_nonneg a) (sq_nonneg b)))
  have h6 := Rat.mul_le_mul_of_nonneg_left h3 (Rat.mul_nonneg (show (0 : Rat) ≤ 4 by decide) (Rat.mul_nonneg (sq_nonneg b) (sq_nonneg b)))
  grind
theorem ov_err (a b : CQ) (hd : dE ≤ sq b) : N (csub (cmul (ovQ a b) b) a) ≤ N a * (2 * uE) + N b * tE := by
  have hD : 0 < sq b := by have := dE_pos; grind
  have hp := ov_part a b hd
  have e : cmul (csub ((ovQ a b).1 * sq b, (ovQ a b).2 * sq b) (cnj a b)) b = ((csub (cmul (ovQ a b) b) a).1 * sq b, (csub (cmul (ovQ a b) b) a).2 * sq b) := by
    unfold cmul csub cnj sq; dsimp only; congr 1 <;> grind
  have h1 := N_mul (csub ((ovQ a b).1 * sq b, (ovQ a b).2 * sq b) (cnj a b)) b
  rw [e, N_scale _ (Rat.le_of_lt hD)] at h1
  have h2 := Rat.mul_le_mul_of_nonneg_right hp (N_nonneg b)
  have h3 := cnj_N a b
  have hu := ur_pos .f32
  have h4 := Rat.mul_le_mul_of_nonneg_right h3 (Rat.le_of_lt hu)
  have h5 := sq_N b
  have he := eE_pos
  have h6 := Rat.mul_le_mul_of_nonneg_left h5 (Rat.mul_nonneg (N_nonneg a) (show 0 ≤ 200 * eE by grind))
  have k : 2 * ur .f32 + 400 * eE ≤ 2 * uE := by decide +kernel
  have h7 := Rat.mul_le_mul_of_nonneg_left k (Rat.mul_nonneg (sq_nonneg b) (N_nonneg a))
  have ht := tE_pos
  have h8 : 0 ≤ sq b * N b * tE := Rat.mul_nonneg (Rat.mul_nonneg (sq_nonneg b) (N_nonneg b)) (Rat.le_of_lt ht)
  refine Rat.le_of_mul_le_mul_right (c := sq b) ?_ hD
  grind
theorem ov_N (a b : CQ) (hd : dE ≤ sq b) : N (ovQ a b) * sq b ≤ N (cnj a b) * (1 + ur .f32) + N a * N b * (200 * eE) + sq b * (tE * (1 / 2)) := by
  have hp := ov_part a b hd
  have hD : 0 ≤ sq b := sq_nonneg b
  have h1 := N_add (csub ((ovQ a b).1 * sq b, (ovQ a b).2 * sq b) (cnj a b)) (cnj a b)
  have e : cadd (csub ((ovQ a b).1 * sq b, (ovQ a b).2 * sq b) (cnj a b)) (cnj a b) = ((ovQ a b).1 * sq b, (ovQ a b).2 * sq b) := by
    unfold cadd csub; dsimp only; congr 1 <;> grind
  rw [e, N_scale _ hD] at h1
  grind
theorem ov_piv {a b : CQ} (hd : dE ≤ sq b) (h : sq a ≤ sq b * (1 + 1 / 1000000)) : N (ovQ a b) ≤ 71 / 50 := by
  have hD : 0 < sq b := by have := dE_pos; grind
  have h0 := ov_N a b hd
  have n1 : N (cnj a b) ≤ sq b * (1415 / 1000) := by
    refine le_of_sq_le (Rat.mul_nonneg (sq_nonneg b) (by decide +kernel)) ?_
    have h1 := sq_N (cnj a b)
    rw [cnj_sq] at h1
    have h2 := Rat.mul_le_mul_of_nonneg_right h (sq_nonneg b)
    have := sqn (sq b)
    grind
  have n2 : N a * N b ≤ sq b * 3 := by
    refine le_of_sq_le (Rat.mul_nonneg (sq_nonneg b) (by decide +kernel)) ?_
    have h1 := sq_N a
    have h2 := sq_N b
    have h3 := Rat.mul_le_mul_of_nonneg_right h1 (Rat.mul_nonneg (N_nonneg b) (N_nonneg b))
    have h4 := Rat.mul_le_mul_of_nonneg_left h2 (Rat.mul_nonneg (show (0 : Rat) ≤ 2 by decide) (sq_nonneg a))
    have h5 := Rat.mul_le_mul_of_nonneg_right h (sq_nonneg b)
    have := sqn (sq b)
    grind
  have u1 : ur .f32 ≤ 1 / 1000000 := by decide +kernel
  have e1 : 200 * eE ≤ 1 / 1000000 := by decide +kernel
  have t1 : tE ≤ 1 / 1000000 := by decide +kernel
  have k1 := Rat.mul_le_mul_of_nonneg_left u1 (N_nonneg (cnj a b))
  have k2 := Rat.mul_le_mul_of_nonneg_left e1 (Rat.mul_nonneg (N_nonneg a) (N_nonneg b))
  have k3 := Rat.mul_le_mul_of_nonneg_left t1 (sq_nonneg b)
  refine Rat.le_of_mul_le_mul_right (c := sq b) ?_ hD
  grind
theorem ov_rough {a b : CQ} {δ : Rat} (hd : dE ≤ sq b) (hδ : 0 < δ) (hb : δ ≤ N b) : N (ovQ a b) * δ ≤ 3 * N a + δ := by
  have hD : 0 < sq b := by have := dE_pos; grind
  have h0 := ov_N a b hd
  have h1 := cnj_N a b
  have hb0 := N_nonneg b
  have u1 : ur .f32 ≤ 1 / 1000000 := by decide +kernel
  have e1 : 200 * eE ≤ 1 / 1000000 := by decide +kernel
  have t1 : tE ≤ 1 / 1000000 := by decide +kernel
  have k1 := Rat.mul_le_mul_of_nonneg_left u1 (N_nonneg (cnj a b))
  have k2 := Rat.mul_le_mul_of_nonneg_left e1 (Rat.mul_nonneg (N_nonneg a) (N_nonneg b))
  have k3 := Rat.mul_le_mul_of_nonneg_left t1 (sq_nonneg b)
  have h2 : N (ovQ a b) * sq b ≤ N (cnj a b) * (1000001 / 1000000) + N a * N b * (1 / 1000000) + sq b * (1 / 2000000) := by grind
  have h3 := Rat.mul_le_mul_of_nonneg_right h2 hb0
  have h4 := sq_N b
  have h5 := Rat.mul_le_mul_of_nonneg_left h4 (N_nonneg a)
  have h6 : N (ovQ a b) * N b ≤ 3 * N a + N b * (1 / 2000000) := by
    refine Rat.le_of_mul_le_mul_right (c := sq b) ?_ hD
    have := Rat.mul_nonneg (sq_nonneg b) (N_nonneg a)
    grind
  have hN : 0 < N b := by grind
  refine Rat.le_of_mul_le_mul_right (c := N b) ?_ hN
  have h7 := Rat.mul_le_mul_of_nonneg_right h6 (Rat.le_of_lt hδ)
  have h8 := Rat.mul_le_mul_of_nonneg_left hb (Rat.mul_nonneg (show (0 : Rat) ≤ 3 by decide) (N_nonneg a))
  have h9 := Rat.mul_nonneg hb0 (Rat.le_of_lt hδ)
  grind
theorem ov_val {p q : Nat × Nat} {a b : CQ} (hp : CV p a) (hq : CV q b) (ha : N a ≤ big) (hb : N b ≤ big) (hd : dE ≤ sq b) : CV (cov p q) (ovQ a b) ∧ covOk p q = true := by
  obtain ⟨a1, a2⟩ := part_le ha
  obtain ⟨b1, b2⟩ := part_le hb
  have b2' : ab (-b.2) ≤ big := by rw [ab_neg]; exact b2
  have w1 := hp.1.widen
  have w2 := hp.2.widen
  have v1 := hq.1.widen
  have v2 := hq.2.widen.neg
  have c1 := prod_big a1 b1
  have c2 := prod_big a2 b2'
  have c3 := prod_big a1 b2'
  have c4 := prod_big a2 b1
  have re := two_sub (mul_val w1 v1 c1 bb_most) (mul_val w2 v2 c2 bb_most) c1 c2 big_most
  have im := two_add (mul_val w1 v2 c3 bb_most) (mul_val w2 v1 c4 bb_most) c3 c4 big_most
  have hP := p64_val hq hb
  obtain ⟨_, hP2⟩ := p64_near hd
  have hP0 : dE * (1 / 2) ≤ p64Q b := by grind
  have hd0 := dE_pos
  have hPne : p64Q b ≠ 0 := by grind
  have hPpos : 0 < p64Q b := by grind
  have key : ∀ {v : Rat}, ab v ≤ 8 * (big * big) + 5 → ab (v / p64Q b) ≤ 2 ^ 98 := fun {v} hv => by
    have h1 := ab_div (v := v) hPpos
    have h2 := Rat.mul_le_mul_of_nonneg_left hP0 (ab_nonneg (v / p64Q b))
    have k : 8 * (big * big) + 5 ≤ 2 ^ 98 * (dE * (1 / 2)) := by decide +kernel
    refine Rat.le_of_mul_le_mul_right (c := dE * (1 / 2)) ?_ (by decide +kernel)
    grind
  have k1 := key (two_big true c1 c2)
  have k2 := key (two_big false c3 c4)
  have hm : (2 : Rat) ^ 98 ≤ most := by decide +kernel
  have hm2 : 2 * (2 : Rat) ^ 98 + 1 ≤ most := by decide +kernel
  have q1 := re.quoR hP hPne (near_ab k1) hm
  have q2 := im.quoR hP hPne (near_ab k2) hm
  obtain ⟨r1, r2⟩ := q1.narrowR (near_ab (r64_big k1)) hm2
  obtain ⟨i1, i2⟩ := q2.narrowR (near_ab (r64_big k2)) hm2
  refine ⟨⟨r1, i1⟩, ?_⟩
  have h : (nrOk (ovR64 p.1 p.2 q.1 q.2) && nrOk (ovI64 p.1 p.2 q.1 q.2)) = true := by
    rw [Bool.and_eq_true]; exact ⟨r2, i2⟩
  exact h
end Go.Fw.T1

/-
  Equations of complex numbers, solved as the program does it: the same steps over lists.
-/
namespace Go.Fw.T1
open Go.Proofs
abbrev C := Nat × Nat
def cz : C := (0, 0)
def hd (l : List C) : C := match l with | [] => cz | a :: _ => a
def tl {α : Type} (l : List α) : List α := match l with | [] => [] | _ :: r => r
def nd (c r : Bool) : Bool := match c with | true => r | false => false
def lAnd (c : Bool) (p : Bool × List C) : Bool × List C := (nd c p.1, p.2)
def lSearch : List (List C) → Nat → List C → Nat → List Bool → (List C → Nat → List Bool → Bool × List C) → Bool × List C
  | [], _, b, j, ws, cont => lAnd (cpwOk (hd b) || false) (lAnd (!!gtW (cpw (hd b)) (can .f32 0)) (cont b j ws))
  | r :: rs, i, b, j, ws, cont => lAnd (cpwOk (hd r)) (lAnd (cpwOk (hd b) || !((isNum (cpw (hd r)) == true) && true))
      (match ws with
       | true :: ws => lAnd (bif isNum (cpw (hd r)) then gtW (cpw (hd r)) (cpw (hd b)) else false) (lSearch rs (i + 1) r i ws cont)
       | ws => lAnd (!bif isNum (cpw (hd r)) then gtW (cpw (hd r)) (cpw (hd b)) else false) (lSearch rs (i + 1) b j (tl ws) cont)))
def lCols (f : C) : List C → List C → List C → (List C → Bool × List C) → Bool × List C
  | r :: rs, p :: ps, acc, cont => lAnd (ctmOk f p && true) (lCols f rs ps (cmi r (ctm f p) :: acc) cont)
  | _, _, acc, cont => cont acc.reverse
def lElim (p : List C) : List (List C) → List (List C) → (List (List C) → Bool × List C) → Bool × List C
  | [], acc, cont => cont acc.reverse
  | r :: rs, acc, cont => lAnd (covOk (hd r) (hd p)) (lCols (cov (hd r) (hd p)) (tl r) (tl p) [] fun r' => lElim p rs (r' :: acc) cont)
def lBackC : List C → List C → C → (C → Bool × List C) → Bool × List C
  | c :: cs, x :: xs, b, cont => lAnd (ctmOk c x && true) (lBackC cs xs (cmi b (ctm c x)) cont)
  | _, _, b, cont => cont b
def lBack : List (List C) → List C → Bool × List C
  | [], xs => (true, xs)
  | p :: ps, xs => lBackC (tl p) xs ((tl p).getLastD cz) fun b => lAnd (covOk b (hd p) && true) (lBack ps (cov b (hd p) :: xs))
def lDown : Nat → List C → List (List C) → List Bool → List (List C) → Bool × List C
  | 0, _, _, _, acc => lBack acc []
  | n + 1, r0, rows, ws, acc => match rows with
    | [] => (false, [])
    | r :: rs => lAnd (cpwOk (hd r)) (lAnd (false || !((isNum (cpw (hd r)) == true) && false)) (lAnd ((cpwOk (hd r0) || !((isNum (cpw (hd r)) == true) && false))) (lAnd (bif isNum (cpw (hd r)) then true else false)
      (lSearch rs 1 r 0 ws fun b j ws' => lElim b (match j with | 0 => rs | j + 1 => rs.set j r) [] fun rows' => lDown n (match acc with | [] => tl b | _ => tl r0) rows' ws' (b :: acc)))))
def lRow (n : Nat) (x y : Nat → Nat) (u v : Nat → Nat) (r : Nat) : List C := (List.range n).map (fun i => (x (r * n + i), y (r * n + i))) ++ [(u r, v r)]
def lSolve (n : Nat) (x y u v : Nat → Nat) (ws : List Bool) : Bool × List C := lDown n (lRow n x y u v 0) ((List.range n).map (lRow n x y u v)) ws []
def lc (l : List C) (j : Nat) : C := l.getD j cz
def pX : Option (Bool × A) → Nat → Nat
  | some (_, .tup [.ro _ _ (.cpxs _ X _), _]) => X
  | _ => fun _ => 0
def pY : Option (Bool × A) → Nat → Nat
  | some (_, .tup [.ro _ _ (.cpxs _ _ Y), _]) => Y
  | _ => fun _ => 0
end Go.Fw.T1

/-
  Words and their numbers: the program's operations on complex numbers as operations on fractions.
-/
namespace Go.Fw.T1
open Go.Proofs
noncomputable def wv (w : Nat) : Rat := @dite Rat (∃ q, Val .f32 w q) (Classical.propDecidable _) (fun h => Classical.choose h) fun _ => 0
theorem wv_eq {w : Nat} {q : Rat} (h : Val .f32 w q) : wv w = q := by
  have h' : ∃ q, Val .f32 w q := ⟨q, h⟩
  unfold wv
  rw [dif_pos h']
  exact (Classical.choose_spec h').unique h
noncomputable def vq (p : C) : CQ := (wv p.1, wv p.2)
def Fq (p : C) : Prop := CV p (vq p)
theorem cv_eq {p : C} {a : CQ} (h : CV p a) : vq p = a := by
  obtain ⟨h1, h2⟩ := h
  unfold vq
  rw [wv_eq h1, wv_eq h2]
theorem cv_fq {p : C} {a : CQ} (h : CV p a) : Fq p := by unfold Fq; rw [cv_eq h]; exact h
theorem fq_tm {p q : C} (hp : Fq p) (hq : Fq q) (ha : N (vq p) ≤ big) (hb : N (vq q) ≤ big) : Fq (ctm p q) ∧ vq (ctm p q) = tmQ (vq p) (vq q) ∧ ctmOk p q = true := by
  obtain ⟨h1, h2⟩ := tm_val hp hq ha hb
  exact ⟨cv_fq h1, cv_eq h1, h2⟩
theorem fq_mi {p q : C} (hp : Fq p) (hq : Fq q) (ha : N (vq p) ≤ big) (hb : N (vq q) ≤ big) : Fq (cmi p q) ∧ vq (cmi p q) = miQ (vq p) (vq q) := by
  have h1 := mi_val hp hq ha hb
  exact ⟨cv_fq h1, cv_eq h1⟩
theorem fq_ov {p q : C} (hp : Fq p) (hq : Fq q) (ha : N (vq p) ≤ big) (hb : N (vq q) ≤ big) (hd : dE ≤ sq (vq q)) : Fq (cov p q) ∧ vq (cov p q) = ovQ (vq p) (vq q) ∧ covOk p q = true := by
  obtain ⟨h1, h2⟩ := ov_val hp hq ha hb hd
  exact ⟨cv_fq h1, cv_eq h1, h2⟩
theorem fq_pw {p : C} (hp : Fq p) (ha : N (vq p) ≤ big) : Val .f32 (cpw p) (pwQ (vq p)) ∧ cpwOk p = true ∧ isNum (cpw p) = true := by
  obtain ⟨h1, h2⟩ := pw_val hp ha
  refine ⟨h1, h2, ?_⟩
  unfold isNum
  rw [h1.orderR h1, if_neg (by grind), if_neg (by grind)]
  rfl
theorem gt_iff {x y : Nat} {a b : Rat} (hx : Val .f32 x a) (hy : Val .f32 y b) : gtW x y = decide (b < a) := by
  unfold gtW
  rw [hx.orderR hy]
  by_cases h1 : a < b
  · rw [if_pos h1, decide_eq_false (by grind)]; rfl
  · rw [if_neg h1]
    by_cases h2 : b < a
    · rw [if_pos h2, decide_eq_true h2]; rfl
    · rw [if_neg h2, decide_eq_false h2]; rfl
theorem can0v : Val .f32 (can .f32 0) 0 := by
  have h0 : Fin .f32 (can .f32 0) 0 := by
    rw [show can .f32 0 = 0 by decide +kernel]
    have := rep_of .f32 0
    exact this
  exact ⟨0, h0, by rw [Rat.zero_mul]; rfl⟩
end Go.Fw.T1

/-
  The solver over lists of words is a solver over lists of fractions, where all numbers stay in bounds.
-/
namespace Go.Fw.T1
open Go.Proofs
def hdq (l : List CQ) : CQ := match l with | [] => (0, 0) | a :: _ => a
def pickQ : List (List CQ) → Nat → List CQ → Nat → List CQ × Nat
  | [], _, b, j => (b, j)
  | r :: rs, i, b, j => if pwQ (hdq b) < pwQ (hdq r) then pickQ rs (i + 1) r i else pickQ rs (i + 1) b j
def oth {α : Type} (r : α) (rs : List α) : Nat → List α
  | 0 => rs
  | j + 1 => rs.set j r
def redQ (b r : List CQ) : List CQ := List.zipWith (fun a p => miQ a (tmQ (ovQ (hdq r) (hdq b)) p)) (tl r) (tl b)
def backQ : List CQ → List CQ → CQ → CQ
  | c :: cs, x :: xs, b => backQ cs xs (miQ b (tmQ c x))
  | [], _, b => b
  | _ :: _, [], b => b
def lastQ (l : List CQ) : CQ := l.getLastD (0, 0)
def solQ : Nat → List (List CQ) → List CQ
  | 0, _ => []
  | _ + 1, [] => []
  | n + 1, r :: rs => ovQ (backQ (tl (pickQ rs 1 r 0).1) (solQ n ((oth r rs (pickQ rs 1 r 0).2).map (redQ (pickQ rs 1 r 0).1))) (lastQ (tl (pickQ rs 1 r 0).1))) (hdq (pickQ rs 1 r 0).1) :: solQ n ((oth r rs (pickQ rs 1 r 0).2).map (redQ (pickQ rs 1 r 0).1))
def pickW : List (List C) → Nat → List C → Nat → List C × Nat
  | [], _, b, j => (b, j)
  | r :: rs, i, b, j => bif gtW (cpw (hd r)) (cpw (hd b)) then pickW rs (i + 1) r i else pickW rs (i + 1) b j
def bitsW : List (List C) → List C → List Bool
  | [], _ => []
  | r :: rs, b => bif gtW (cpw (hd r)) (cpw (hd b)) then true :: bitsW rs r else false :: bitsW rs b
def redW (b r : List C) : List C := List.zipWith (fun a p => cmi a (ctm (cov (hd r) (hd b)) p)) (tl r) (tl b)
def backW : List C → List C → C → C
  | c :: cs, x :: xs, b => backW cs xs (cmi b (ctm c x))
  | [], _, b => b
  | _ :: _, [], b => b
def solL : Nat → List (List C) → List C
  | 0, _ => []
  | _ + 1, [] => []
  | n + 1, r :: rs => cov (backW (tl (pickW rs 1 r 0).1) (solL n ((oth r rs (pickW rs 1 r 0).2).map (redW (pickW rs 1 r 0).1))) ((tl (pickW rs 1 r 0).1).getLastD cz)) (hd (pickW rs 1 r 0).1) :: solL n ((oth r rs (pickW rs 1 r 0).2).map (redW (pickW rs 1 r 0).1))
def waysW : Nat → List (List C) → List Bool
  | 0, _ => []
  | _ + 1, [] => []
  | n + 1, r :: rs => bitsW rs r ++ waysW n ((oth r rs (pickW rs 1 r 0).2).map (redW (pickW rs 1 r 0).1))
def BackSafe : List CQ → List CQ → CQ → Prop
  | c :: cs, x :: xs, b => N c ≤ big ∧ N x ≤ big ∧ N (tmQ c x) ≤ big ∧ N b ≤ big ∧ BackSafe cs xs (miQ b (tmQ c x))
  | [], _, b => N b ≤ big
  | _ :: _, [], b => N b ≤ big
def SafeQ : Nat → List (List CQ) → Prop
  | 0, _ => True
  | _ + 1, [] => False
  | n + 1, r :: rs => (∀ q, q ∈ r :: rs → ∀ a, a ∈ q → N a ≤ big) ∧ dE ≤ sq (hdq (pickQ rs 1 r 0).1) ∧ 0 < pwQ (hdq (pickQ rs 1 r 0).1) ∧
    (∀ q, q ∈ oth r rs (pickQ rs 1 r 0).2 → N (ovQ (hdq q) (hdq (pickQ rs 1 r 0).1)) ≤ big ∧ ∀ c, c ∈ tl (pickQ rs 1 r 0).1 → N (tmQ (ovQ (hdq q) (hdq (pickQ rs 1 r 0).1)) c) ≤ big) ∧
    SafeQ n ((oth r rs (pickQ rs 1 r 0).2).map (redQ (pickQ rs 1 r 0).1)) ∧ BackSafe (tl (pickQ rs 1 r 0).1) (solQ n ((oth r rs (pickQ rs 1 r 0).2).map (redQ (pickQ rs 1 r 0).1))) (lastQ (tl (pickQ rs 1 r 0).1))
noncomputable def vrow (r : List C) : List CQ := r.map vq
def RowF (r : List C) : Prop := ∀ a, a ∈ r → Fq a
theorem zero_val : Val .f32 0 0 := ⟨0, rep_of .f32 0, by rw [Rat.zero_mul]; rfl⟩
theorem cv_cz : CV cz (0, 0) := ⟨zero_val, zero_val⟩
theorem vq_cz : vq cz = (0, 0) := cv_eq cv_cz
theorem vq_hd (r : List C) : vq (hd r) = hdq (vrow r) := by cases r <;> first | exact vq_cz | rfl
theorem fq_hd {r : List C} (h : RowF r) : Fq (hd r) := by
  cases r with
  | nil => exact cv_fq cv_cz
  | cons a l => exact h a List.mem_cons_self
theorem rowF_tl {r : List C} (h : RowF r) : RowF (tl r) := fun a ha => by
  cases r with
  | nil => cases ha
  | cons b l => exact h a (List.mem_cons_of_mem _ ha)
theorem vrow_tl (r : List C) : vrow (tl r) = tl (vrow r) := by cases r <;> rfl
theorem big_zero : N ((0, 0) : CQ) ≤ big := by unfold N; dsimp only; rw [ab_zero]; decide +kernel
theorem hd_big {r : List CQ} (h : ∀ a, a ∈ r → N a ≤ big) : N (hdq r) ≤ big := by
  cases r with
  | nil => exact big_zero
  | cons a l => exact h a List.mem_cons_self
theorem tl_mem {α : Type} {l : List α} {a : α} (h : a ∈ tl l) : a ∈ l := by
  cases l with
  | nil => cases h
  | cons b l => exact List.mem_cons_of_mem _ h
def Rok (r : List C) : Prop := RowF r ∧ ∀ a, a ∈ vrow r → N a ≤ big
theorem Rok.hd {r : List C} (h : Rok r) : Fq (hd r) ∧ N (vq (hd r)) ≤ big := ⟨fq_hd h.1, by rw [vq_hd]; exact hd_big h.2⟩
theorem Rok.tl {r : List C} (h : Rok r) : Rok (tl r) := ⟨rowF_tl h.1, fun a ha => h.2 a (tl_mem (by rw [← vrow_tl]; exact ha))⟩
theorem gt_rows {r b : List C} (hr : Rok r) (hb : Rok b) : gtW (cpw (hd r)) (cpw (hd b)) = decide (pwQ (hdq (vrow b)) < pwQ (hdq (vrow r))) := by
  have h1 := (fq_pw hr.hd.1 hr.hd.2).1
  have h2 := (fq_pw hb.hd.1 hb.hd.2).1
  rw [gt_iff h1 h2, vq_hd, vq_hd]
theorem pick_v : ∀ (rs : List (List C)) (i : Nat) (b : List C) (j : Nat), (∀ r, r ∈ rs → Rok r) → Rok b →
    vrow (pickW rs i b j).1 = (pickQ (rs.map vrow) i (vrow b) j).1 ∧ (pickW rs i b j).2 = (pickQ (rs.map vrow) i (vrow b) j).2 ∧ Rok (pickW rs i b j).1
  | [], _, _, _, _, hb => ⟨rfl, rfl, hb⟩
  | r :: rs, i, b, j, hr, hb => by
    have h1 := hr r List.mem_cons_self
    have h2 : ∀ r, r ∈ rs → Rok r := fun q hq => hr q (List.mem_cons_of_mem _ hq)
    simp only [pickW, pickQ, List.map_cons]
    rw [gt_rows h1 hb]
    by_cases hc : pwQ (hdq (vrow b)) < pwQ (hdq (vrow r))
    · rw [decide_eq_true hc, if_pos hc]
      exact pick_v rs (i + 1) r i h2 h1
    · rw [decide_eq_false hc, if_neg hc]
      exact pick_v rs (i + 1) b j h2 hb
theorem lAnd_t {c : Bool} (h : c = true) (p : Bool × List C) : lAnd c p = p := by rw [h]; rfl
theorem se0 (i : Nat) (b : List C) (j : Nat) (ws : List Bool) (cont : List C → Nat → List Bool → Bool × List C) : lSearch [] i b j ws cont = lAnd (cpwOk (hd b) || false) (lAnd (!!gtW (cpw (hd b)) (can .f32 0)) (cont b j ws)) := rfl
theorem seT (r : List C) (rs : List (List C)) (i : Nat) (b : List C) (j : Nat) (ws : List Bool) (cont : List C → Nat → List Bool → Bool × List C) : lSearch (r :: rs) i b j (true :: ws) cont = lAnd (cpwOk (hd r)) (lAnd (cpwOk (hd b) || !((isNum (cpw (hd r)) == true) && true))
      (lAnd (bif isNum (cpw (hd r)) then gtW (cpw (hd r)) (cpw (hd b)) else false) (lSearch rs (i + 1) r i ws cont))) := rfl
theorem seF (r : List C) (rs : List (List C)) (i : Nat) (b : List C) (j : Nat) (ws : List Bool) (cont : List C → Nat → List Bool → Bool × List C) : lSearch (r :: rs) i b j (false :: ws) cont = lAnd (cpwOk (hd r)) (lAnd (cpwOk (hd b) || !((isNum (cpw (hd r)) == true) && true))
      (lAnd (!bif isNum (cpw (hd r)) then gtW (cpw (hd r)) (cpw (hd b)) else false) (lSearch rs (i + 1) b j ws cont))) := rfl
theorem se1 {b : List C} (hb : Rok b) (hp : 0 < pwQ (hdq (vrow b))) : gtW (cpw (hd b)) (can .f32 0) = true := by
  have h1 := (fq_pw hb.hd.1 hb.hd.2).1
  have := gt_iff h1 can0v
  rw [vq_hd] at this
  rw [this]
  exact decide_eq_true hp
theorem se2 {a : Bool} (h : a = true) : (a || false) = true := by rw [h]; rfl
theorem se3 {a : Bool} (h : a = true) : (!!a) = true := by rw [h]; rfl
theorem se4 {a c : Bool} (h : a = true) : (a || c) = true := by rw [h]; rfl
theorem se5 {a c : Bool} (h : c = false) : (!bif a then c else false) = true := by rw [h]; cases a <;> rfl
theorem se6 {a c : Bool} (h : a = true) (h' : c = true) : (bif a then c else false) = true := by rw [h, h']; rfl
theorem search_v (rs : List (List C)) : ∀ (i : Nat) (b : List C) (j : Nat) (ws : List Bool) (cont : List C → Nat → List Bool → Bool × List C), (∀ r, r ∈ rs → Rok r) → Rok b → 0 < pwQ (hdq (vrow (pickW rs i b j).1)) →
    lSearch rs i b j (bitsW rs b ++ ws) cont = cont (pickW rs i b j).1 (pickW rs i b j).2 ws := by
  induction rs with
  | nil =>
    intro i b j ws cont _ hb hp
    have h2 := (fq_pw hb.hd.1 hb.hd.2).2.1
    have e0 : pickW [] i b j = (b, j) := rfl
    rw [e0] at hp ⊢
    dsimp only at hp ⊢
    have e2 := se1 hb hp
    have e3 : bitsW [] b = [] := rfl
    rw [e3, List.nil_append, se0, lAnd_t (se2 h2), lAnd_t (se3 e2)]
  | cons r rs ih =>
    intro i b j ws cont hr hb hp
    have h1 := hr r List.mem_cons_self
    have h2 : ∀ r, r ∈ rs → Rok r := fun q hq => hr q (List.mem_cons_of_mem _ hq)
    obtain ⟨_, a2, a3⟩ := fq_pw h1.hd.1 h1.hd.2
    have b2 := (fq_pw hb.hd.1 hb.hd.2).2.1
    cases hg : gtW (cpw (hd r)) (cpw (hd b))
    · have e1 : bitsW (r :: rs) b = false :: bitsW rs b := by rw [bitsW, hg]; rfl
      have e2 : pickW (r :: rs) i b j = pickW rs (i + 1) b j := by rw [pickW, hg]; rfl
      rw [e2] at hp
      rw [e1, e2, List.cons_append, seF, lAnd_t a2, lAnd_t (se4 b2), lAnd_t (se5 hg)]
      exact ih (i + 1) b j ws cont h2 hb hp
    · have e1 : bitsW (r :: rs) b = true :: bitsW rs r := by rw [bitsW, hg]; rfl
      have e2 : pickW (r :: rs) i b j = pickW rs (i + 1) r i := by rw [pickW, hg]; rfl
      rw [e2] at hp
      rw [e1, e2, List.cons_append, seT, lAnd_t a2, lAnd_t (se4 b2), lAnd_t (se6 a3 hg)]
      exact ih (i + 1) r i ws cont h2 h1 hp
theorem cols_v (f : C) (hf : Fq f) (hfb : N (vq f) ≤ big) : ∀ (rs ps acc : List C) (cont : List C → Bool × List C), Rok rs → Rok ps → (∀ c, c ∈ vrow ps → N (tmQ (vq f) c) ≤ big) →
    lCols f rs ps acc cont = cont (acc.reverse ++ List.zipWith (fun a p => cmi a (ctm f p)) rs ps) ∧
      (List.zipWith (fun a p => cmi a (ctm f p)) rs ps).map vq = List.zipWith (fun a p => miQ a (tmQ (vq f) p)) (vrow rs) (vrow ps) ∧ RowF (List.zipWith (fun a p => cmi a (ctm f p)) rs ps)
  | [], ps, acc, cont, _, _, _ => by simp [lCols, vrow, RowF]
  | r :: rs, [], acc, cont, _, _, _ => by simp [lCols, vrow, RowF]
  | r :: rs, p :: ps, acc, cont, hr, hp, ht => by
    have r1 : Fq r ∧ N (vq r) ≤ big := hr.hd
    have p1 : Fq p ∧ N (vq p) ≤ big := hp.hd
    obtain ⟨t1, t2, t3⟩ := fq_tm hf p1.1 hfb p1.2
    have t4 : N (vq (ctm f p)) ≤ big := by rw [t2]; exact ht _ List.mem_cons_self
    obtain ⟨m1, m2⟩ := fq_mi r1.1 t1 r1.2 t4
    obtain ⟨i1, i2, i3⟩ := cols_v f hf hfb rs ps (cmi r (ctm f p) :: acc) cont hr.tl hp.tl (fun c hc => ht c (List.mem_cons_of_mem _ hc))
    refine ⟨?_, ?_, ?_⟩
    · simp only [lCols]
      rw [lAnd_t (by rw [t3]; rfl), i1]
      simp
    · simp only [List.zipWith_cons_cons, List.map_cons, vrow]
      rw [m2, t2]
      congr 1
    · intro a ha
      simp only [List.zipWith_cons_cons, List.mem_cons] at ha
      rcases ha with rfl | ha
      · exact m1
      · exact i3 a ha
theorem elim_v (b : List C) (hb : Rok b) (hd' : dE ≤ sq (hdq (vrow b))) : ∀ (rs acc : List (List C)) (cont : List (List C) → Bool × List C), (∀ r, r ∈ rs → Rok r) →
    (∀ q, q ∈ rs.map vrow → N (ovQ (hdq q) (hdq (vrow b))) ≤ big ∧ ∀ c, c ∈ tl (vrow b) → N (tmQ (ovQ (hdq q) (hdq (vrow b))) c) ≤ big) →
    lElim b rs acc cont = cont (acc.reverse ++ rs.map (redW b)) ∧ (rs.map (redW b)).map vrow = (rs.map vrow).map (redQ (vrow b)) ∧ ∀ r, r ∈ rs.map (redW b) → RowF r
  | [], acc, cont, _, _ => by simp [lElim]
  | r :: rs, acc, cont, hr, hq => by
    have h1 := hr r List.mem_cons_self
    have h2 : ∀ r, r ∈ rs → Rok r := fun q hq => hr q (List.mem_cons_of_mem _ hq)
    obtain ⟨o1, o2, o3⟩ := fq_ov h1.hd.1 hb.hd.1 h1.hd.2 hb.hd.2 (by rw [vq_hd]; exact hd')
    have q1 := hq (vrow r) (by simp)
    have e : vq (cov (hd r) (hd b)) = ovQ (hdq (vrow r)) (hdq (vrow b)) := by rw [o2, vq_hd, vq_hd]
    obtain ⟨c1, c2, c3⟩ := cols_v (cov (hd r) (hd b)) o1 (by rw [e]; exact q1.1) (tl r) (tl b) [] (fun r' => lElim b rs (r' :: acc) cont) h1.tl hb.tl (by rw [e, vrow_tl]; exact q1.2)
    obtain ⟨i1, i2, i3⟩ := elim_v b hb hd' rs (redW b r :: acc) cont h2 (fun q hq' => hq q (by simp only [List.map_cons, List.mem_cons]; exact .inr hq'))
    refine ⟨?_, ?_, ?_⟩
    · simp only [lElim]
      rw [lAnd_t o3, c1]
      show lElim b rs (redW b r :: acc) cont = _
      rw [i1]
      simp
    · simp only [List.map_cons]
      rw [i2]
      congr 1
      show (redW b r).map vq = redQ (vrow b) (vrow r)
      unfold redW redQ
      rw [c2, e, vrow_tl, vrow_tl]
    · intro q hq'
      simp only [List.map_cons, List.mem_cons] at hq'
      rcases hq' with rfl | hq'
      · exact c3
      · exact i3 q hq'
theorem backC_v : ∀ (cs xs : List C) (b : C) (cont : C → Bool × List C), RowF cs → RowF xs → Fq b → BackSafe (vrow cs) (vrow xs) (vq b) →
    lBackC cs xs b cont = cont (backW cs xs b) ∧ vq (backW cs xs b) = backQ (vrow cs) (vrow xs) (vq b) ∧ Fq (backW cs xs b) ∧ N (vq (backW cs xs b)) ≤ big
  | [], xs, b, cont, _, _, hb, hs => ⟨rfl, rfl, hb, hs⟩
  | c :: cs, [], b, cont, _, _, hb, hs => ⟨rfl, rfl, hb, hs⟩
  | c :: cs, x :: xs, b, cont, hc, hx, hb, hs => by
    obtain ⟨s1, s2, s3, s4, s5⟩ := hs
    obtain ⟨t1, t2, t3⟩ := fq_tm (hc c List.mem_cons_self) (hx x List.mem_cons_self) s1 s2
    obtain ⟨m1, m2⟩ := fq_mi hb t1 s4 (by rw [t2]; exact s3)
    have hs' : BackSafe (vrow cs) (vrow xs) (vq (cmi b (ctm c x))) := by rw [m2, t2]; exact s5
    obtain ⟨i1, i2, i3, i4⟩ := backC_v cs xs (cmi b (ctm c x)) cont (fun a ha => hc a (List.mem_cons_of_mem _ ha)) (fun a ha => hx a (List.mem_cons_of_mem _ ha)) m1 hs'
    refine ⟨?_, ?_, i3, i4⟩
    · simp only [lBackC]
      rw [lAnd_t (by rw [t3]; rfl), i1]; rfl
    · show vq (backW cs xs (cmi b (ctm c x))) = backQ (vrow cs) (vrow xs) (miQ (vq b) (tmQ (vq c) (vq x)))
      rw [i2, m2, t2]
theorem vq_last : ∀ (l : List C), vq (l.getLastD cz) = lastQ (vrow l)
  | [] => vq_cz
  | [a] => rfl
  | a :: b :: l => by
    have := vq_last (b :: l)
    simpa [lastQ, vrow] using this
theorem fq_last {l : List C} (h : RowF l) : Fq (l.getLastD cz) := by
  cases hl : l with
  | nil => exact cv_fq cv_cz
  | cons a l' =>
    rw [← hl]
    have : l.getLastD cz ∈ l := by
      rw [List.getLastD_eq_getLast?, List.getLast?_eq_some_getLast (by rw [hl]; simp)]
      exact List.getLast_mem _
    exact h _ this
theorem oth_mem {α : Type} {r : α} {rs : List α} {j : Nat} {q : α} (h : q ∈ oth r rs j) : q ∈ r :: rs := by
  cases j with
  | zero => exact List.mem_cons_of_mem _ h
  | succ j =>
    rcases List.mem_or_eq_of_mem_set h with h | h
    · exact List.mem_cons_of_mem _ h
    · rw [h]; exact List.mem_cons_self
theorem oth_map {α β : Type} (f : α → β) (r : α) (rs : List α) (j : Nat) : (oth r rs j).map f = oth (f r) (rs.map f) j := by
  cases j with
  | zero => rfl
  | succ j => simp [oth, List.map_set]
theorem down_v : ∀ (n : Nat) (W : List (List C)) (r0 : List C) (acc : List (List C)) (ws : List Bool), (∀ r, r ∈ W → RowF r) → SafeQ n (W.map vrow) →
    lDown n r0 W (waysW n W ++ ws) acc = lBack acc (solL n W) ∧ (solL n W).map vq = solQ n (W.map vrow) ∧ RowF (solL n W)
  | 0, W, r0, acc, ws, _, _ => ⟨rfl, rfl, fun a ha => by cases ha⟩
  | n + 1, [], r0, acc, ws, _, hs => hs.elim
  | n + 1, r :: rs, r0, acc, ws, hF, hs => by
    obtain ⟨s1, s2, s3, s4, s5, s6⟩ := hs
    have hok : ∀ q, q ∈ r :: rs → Rok q := fun q hq => ⟨hF q hq, s1 (vrow q) (List.mem_map.2 ⟨q, hq, rfl⟩)⟩
    have hr := hok r List.mem_cons_self
    have hrs : ∀ q, q ∈ rs → Rok q := fun q hq => hok q (List.mem_cons_of_mem _ hq)
    obtain ⟨p1, p2, p3⟩ := pick_v rs 1 r 0 hrs hr
    obtain ⟨_, a2, a3⟩ := fq_pw hr.hd.1 hr.hd.2
    rw [← p1] at s2 s3 s4 s5 s6
    rw [← p2] at s4 s5 s6
    generalize hB : (pickW rs 1 r 0).1 = b at *
    generalize hJ : (pickW rs 1 r 0).2 = j at *
    have hoth : ∀ q, q ∈ oth r rs j → Rok q := fun q hq => hok q (oth_mem hq)
    rw [← oth_map vrow] at s4 s5 s6
    have s4' := s4
    obtain ⟨_, e2, e3⟩ := elim_v b p3 s2 (oth r rs j) [] (fun _ => (true, [])) hoth s4
    rw [← e2] at s5 s6
    obtain ⟨_, d2, d3⟩ := down_v n ((oth r rs j).map (redW b)) [] (b :: acc) ws e3 s5
    rw [← d2, ← vrow_tl, ← vq_last] at s6
    have hlast := fq_last p3.tl.1
    obtain ⟨b1, b2, b3, b4⟩ := backC_v (tl b) (solL n ((oth r rs j).map (redW b))) ((tl b).getLastD cz) (fun c => lAnd (covOk c (hd b) && true) (lBack acc (cov c (hd b) :: solL n ((oth r rs j).map (redW b))))) p3.tl.1 d3 hlast s6
    obtain ⟨o1, o2, o3⟩ := fq_ov b3 p3.hd.1 b4 p3.hd.2 (by rw [vq_hd]; exact s2)
    have hsol : solL (n + 1) (r :: rs) = cov (backW (tl b) (solL n ((oth r rs j).map (redW b))) ((tl b).getLastD cz)) (hd b) :: solL n ((oth r rs j).map (redW b)) := by
      simp only [solL, hB, hJ]
    refine ⟨?_, ?_, ?_⟩
    · have hw : waysW (n + 1) (r :: rs) = bitsW rs r ++ waysW n ((oth r rs j).map (redW b)) := by simp only [waysW, hB, hJ]
      rw [hw, hsol, List.append_assoc]
      simp only [lDown]
      rw [lAnd_t a2, lAnd_t (or_nf' _ _), lAnd_t (or_nf' _ _), lAnd_t (by rw [a3]; rfl)]
      rw [search_v rs 1 r 0 _ _ hrs hr (by rw [hB]; exact s3), hB, hJ]
      have key : ∀ z, lElim b (oth r rs j) [] (fun rows' => lDown n z rows' (waysW n ((oth r rs j).map (redW b)) ++ ws) (b :: acc)) = lBack acc (cov (backW (tl b) (solL n ((oth r rs j).map (redW b))) ((tl b).getLastD cz)) (hd b) :: solL n ((oth r rs j).map (redW b))) := fun z => by
        rw [(elim_v b p3 s2 (oth r rs j) [] _ hoth s4').1]
        show lDown n z ((oth r rs j).map (redW b)) _ _ = _
        rw [(down_v n ((oth r rs j).map (redW b)) z (b :: acc) ws e3 s5).1]
        simp only [lBack]
        rw [b1, lAnd_t (by rw [o3]; rfl)]
      clear hsol hw b1 b2 b3 b4 o1 o2 o3 hlast s6 d2 d3 s5 e2 e3 hoth s4 s4' p2
      cases j with
      | zero => exact key _
      | succ j => exact key _
    · rw [hsol]
      simp only [List.map_cons, solQ]
      rw [← p1, ← p2, ← oth_map vrow, ← e2, ← d2, o2, b2, vq_last, vq_hd, vrow_tl]
      rfl
    · rw [hsol]
      intro a ha
      rcases List.mem_cons.1 ha with rfl | ha
      · exact o1
      · exact d3 a ha
where or_nf' (a b : Bool) : (a || !((b == true) && false)) = true := by cases a <;> cases b <;> rfl
end Go.Fw.T1

/-
  Rows of complex fractions against a vector: what one step of the elimination makes of it.
-/
namespace Go.Fw.T1
open Go.Proofs
def dot : List CQ → List CQ → CQ
  | a :: us, y :: ys => cadd (cmul a y) (dot us ys)
  | [], _ => (0, 0)
  | _ :: _, [] => (0, 0)
def sumN : List CQ → Rat
  | [] => 0
  | a :: l => N a + sumN l
theorem sumN_nonneg : ∀ l, 0 ≤ sumN l
  | [] => Rat.le_refl
  | a :: l => by have := N_nonneg a; have := sumN_nonneg l; unfold sumN; grind
theorem sumN_app (l m : List CQ) : sumN (l ++ m) = sumN l + sumN m := by
  induction l with
  | nil => simp only [List.nil_append, sumN]; grind
  | cons a l ih => simp only [List.cons_append, sumN]; rw [ih]; grind
theorem sumN_le {V : Rat} : ∀ (l : List CQ), (∀ a, a ∈ l → N a ≤ V) → sumN l ≤ (l.length : Rat) * V
  | [], _ => by show (0 : Rat) ≤ ((0 : Nat) : Rat) * V; rw [show ((0 : Nat) : Rat) = 0 from rfl]; grind
  | a :: l, h => by
    have h1 := h a List.mem_cons_self
    have h2 := sumN_le l fun b hb => h b (List.mem_cons_of_mem _ hb)
    simp only [sumN, List.length_cons, Rat.natCast_add]
    rw [show ((1 : Nat) : Rat) = 1 from rfl]
    grind
def czq : CQ := (0, 0)
def m1 : CQ := (-1, 0)
theorem N_zero : N ((0, 0) : CQ) = 0 := by unfold N; dsimp only; rw [ab_zero]; grind
theorem N_m1 : N m1 = 1 := by decide +kernel
theorem N_tri {a b : CQ} {c : Rat} (h : N (csub a b) ≤ c) : N a ≤ N b + c := by
  have := N_add (csub a b) b
  rw [show cadd (csub a b) b = a by unfold cadd csub; dsimp only; congr 1 <;> grind] at this
  grind
theorem N_swap (a b : CQ) : N (csub a b) = N (csub b a) := by
  unfold N csub
  dsimp only
  rw [← ab_neg (a.1 - b.1), ← ab_neg (a.2 - b.2)]
  congr 2 <;> grind
theorem N_via {a b c : CQ} {x y : Rat} (h : N (csub a b) ≤ x) (h' : N (csub b c) ≤ y) : N (csub a c) ≤ x + y := by
  have := N_add (csub a b) (csub b c)
  rw [show cadd (csub a b) (csub b c) = csub a c by unfold cadd csub; dsimp only; congr 1 <;> grind] at this
  grind
theorem step_err (a f p : CQ) {G : Rat} (h1 : 1 ≤ G) (h : N a + N f * N p ≤ G) : N (csub (miQ a (tmQ f p)) (csub a (cmul f p))) ≤ 3 * (uE * G) := by
  have t := tm_err f p
  have m := mi_err a (tmQ f p)
  have hu := uE_pos
  have ht := tE_pos
  have ha := N_nonneg a
  have hp := Rat.mul_nonneg (N_nonneg f) (N_nonneg p)
  have hc := N_mul f p
  have t1 := N_tri t
  have s := N_sub a (tmQ f p)
  have k1 : uE ≤ 1 / 1000 := by decide +kernel
  have k2 : 5 * tE ≤ uE * (1 / 2) := by decide +kernel
  have e1 : N f * N p * uE ≤ G * uE := Rat.mul_le_mul_of_nonneg_right (by grind) (Rat.le_of_lt hu)
  have e2 : N (csub a (tmQ f p)) ≤ G + (G * uE + tE) := by grind
  have e3 : N (csub a (tmQ f p)) * uE ≤ (G + (G * uE + tE)) * uE := Rat.mul_le_mul_of_nonneg_right e2 (Rat.le_of_lt hu)
  have e4 : (G * uE + tE) * uE ≤ (G * uE + tE) * (1 / 1000) := Rat.mul_le_mul_of_nonneg_left k1 (by have := Rat.mul_nonneg (show 0 ≤ G by grind) (Rat.le_of_lt hu); grind)
  have e5 : N (csub (csub a (tmQ f p)) (csub a (cmul f p))) ≤ N f * N p * uE + tE := by
    rw [show csub (csub a (tmQ f p)) (csub a (cmul f p)) = csub (cmul f p) (tmQ f p) by unfold csub; dsimp only; congr 1 <;> grind, N_swap]
    exact t
  have e6 := N_via m e5
  have e7 : uE ≤ uE * G := by have := Rat.mul_le_mul_of_nonneg_left h1 (Rat.le_of_lt hu); grind
  grind
def fM : Rat := 71 / 50
theorem elem_err {a f p : CQ} {B : Rat} (hB : 1 ≤ B) (ha : N a ≤ B) (hf : N f ≤ fM) (hp : N p ≤ B) : N (csub (miQ a (tmQ f p)) (csub a (cmul f p))) ≤ 8 * (uE * B) ∧ N (miQ a (tmQ f p)) ≤ B * (243 / 100) := by
  have h1 := Rat.mul_le_mul_of_nonneg_right hf (N_nonneg p)
  have h2 := Rat.mul_le_mul_of_nonneg_left hp (show 0 ≤ fM by decide +kernel)
  have hG : N a + N f * N p ≤ B * (121 / 50) := by unfold fM at *; grind
  have h3 := step_err a f p (G := B * (121 / 50)) (by grind) hG
  have hu := uE_pos
  have k1 : uE ≤ 1 / 100000 := by decide +kernel
  have k2 := Rat.mul_le_mul_of_nonneg_right k1 (show 0 ≤ B by grind)
  have k3 := Rat.mul_nonneg (Rat.le_of_lt hu) (show 0 ≤ B by grind)
  refine ⟨by grind, ?_⟩
  have h4 := N_tri h3
  have h5 := N_sub a (cmul f p)
  have h6 := N_mul f p
  grind
theorem row_err {f : CQ} {B : Rat} (hB : 1 ≤ B) (hf : N f ≤ fM) : ∀ (us ps Y : List CQ), us.length = ps.length → (∀ a, a ∈ us → N a ≤ B) → (∀ a, a ∈ ps → N a ≤ B) →
    N (csub (dot (List.zipWith (fun a p => miQ a (tmQ f p)) us ps) Y) (csub (dot us Y) (cmul f (dot ps Y)))) ≤ 8 * (uE * B) * sumN Y
  | [], [], Y, _, _, _ => by
    have e : N (csub (dot (List.zipWith (fun a p => miQ a (tmQ f p)) [] []) Y) (csub (dot [] Y) (cmul f (dot [] Y)))) = 0 := by
      simp only [List.zipWith_nil_left, dot]
      have : csub (0, 0) (csub (0, 0) (cmul f (0, 0))) = (0, 0) := by unfold csub cmul; dsimp only; congr 1 <;> grind
      rw [this, N_zero]
    rw [e]
    have := uE_pos
    exact Rat.mul_nonneg (Rat.mul_nonneg (by decide) (Rat.mul_nonneg (by grind) (by grind))) (sumN_nonneg Y)
  | a :: us, p :: ps, [], _, _, _ => by
    have e : N (csub (dot (List.zipWith (fun a p => miQ a (tmQ f p)) (a :: us) (p :: ps)) []) (csub (dot (a :: us) []) (cmul f (dot (p :: ps) [])))) = 0 := by
      simp only [List.zipWith_cons_cons, dot]
      have : csub (0, 0) (csub (0, 0) (cmul f (0, 0))) = (0, 0) := by unfold csub cmul; dsimp only; congr 1 <;> grind
      rw [this, N_zero]
    rw [e]
    simp only [sumN]
    grind
  | a :: us, p :: ps, y :: Y, hl, ha, hp => by
    have ih := row_err hB hf us ps Y (by simpa using hl) (fun b hb => ha b (List.mem_cons_of_mem _ hb)) (fun b hb => hp b (List.mem_cons_of_mem _ hb))
    have h1 := (elem_err hB (ha a List.mem_cons_self) hf (hp p List.mem_cons_self)).1
    simp only [List.zipWith_cons_cons, dot, sumN]
    generalize miQ a (tmQ f p) = e at *
    generalize dot (List.zipWith (fun a p => miQ a (tmQ f p)) us ps) Y = D at *
    generalize dot us Y = Da at *
    generalize dot ps Y = Dp at *
    have h2 := N_mul (csub e (csub a (cmul f p))) y
    have h3 := Rat.mul_le_mul_of_nonneg_right h1 (N_nonneg y)
    have h4 := N_add (cmul (csub e (csub a (cmul f p))) y) (csub D (csub Da (cmul f Dp)))
    rw [show cadd (cmul (csub e (csub a (cmul f p))) y) (csub D (csub Da (cmul f Dp))) = csub (cadd (cmul e y) D) (csub (cadd (cmul a y) Da) (cmul f (cadd (cmul p y) Dp))) by unfold cadd csub cmul; dsimp only; congr 1 <;> grind] at h4
    grind
theorem res_step {a0 p0 x0 : CQ} {us ps Y : List CQ} {B : Rat} (hB : 1 ≤ B) (hl : us.length = ps.length) (ha0 : N a0 ≤ B) (hp0 : N p0 ≤ B) (ha : ∀ a, a ∈ us → N a ≤ B) (hp : ∀ a, a ∈ ps → N a ≤ B) (hd : dE ≤ sq p0) (hf : N (ovQ a0 p0) ≤ fM) :
    N (dot (a0 :: us) (x0 :: Y)) ≤ fM * N (dot (p0 :: ps) (x0 :: Y)) + N (dot (List.zipWith (fun a p => miQ a (tmQ (ovQ a0 p0) p)) us ps) Y) + 8 * (uE * B) * (N x0 + sumN Y) := by
  have h1 := row_err hB hf us ps Y hl ha hp
  have h2 := ov_err a0 p0 hd
  have hu := uE_pos
  have ht := tE_pos
  have k1 : tE ≤ uE := by decide +kernel
  have e1 : N a0 * (2 * uE) ≤ B * (2 * uE) := Rat.mul_le_mul_of_nonneg_right ha0 (by grind)
  have e2 : N p0 * tE ≤ B * uE := Rat.le_trans (Rat.mul_le_mul_of_nonneg_right hp0 (Rat.le_of_lt ht)) (Rat.mul_le_mul_of_nonneg_left k1 (by grind))
  have hBu := Rat.mul_nonneg (Rat.le_of_lt hu) (show 0 ≤ B by grind)
  have h3 : N (csub a0 (cmul (ovQ a0 p0) p0)) ≤ 8 * (uE * B) := by rw [N_swap]; grind
  simp only [dot]
  generalize ovQ a0 p0 = f at *
  generalize dot (List.zipWith (fun a p => miQ a (tmQ f p)) us ps) Y = D at *
  generalize dot us Y = Da at *
  generalize dot ps Y = Dp at *
  have g1 := N_mul (csub a0 (cmul f p0)) x0
  have g2 := Rat.mul_le_mul_of_nonneg_right h3 (N_nonneg x0)
  have g3 := N_mul f (cadd (cmul p0 x0) Dp)
  have g4 := Rat.mul_le_mul_of_nonneg_right hf (N_nonneg (cadd (cmul p0 x0) Dp))
  rw [N_swap] at h1
  have g5 := N_add (cmul (csub a0 (cmul f p0)) x0) (csub (csub Da (cmul f Dp)) D)
  have g6 := N_add (cmul f (cadd (cmul p0 x0) Dp)) D
  have g7 := N_add (cadd (cmul f (cadd (cmul p0 x0) Dp)) D) (cadd (cmul (csub a0 (cmul f p0)) x0) (csub (csub Da (cmul f Dp)) D))
  rw [show cadd (cadd (cmul f (cadd (cmul p0 x0) Dp)) D) (cadd (cmul (csub a0 (cmul f p0)) x0) (csub (csub Da (cmul f Dp)) D)) = cadd (cmul a0 x0) Da by unfold cadd csub cmul; dsimp only; congr 1 <;> grind] at g7
  grind
end Go.Fw.T1
