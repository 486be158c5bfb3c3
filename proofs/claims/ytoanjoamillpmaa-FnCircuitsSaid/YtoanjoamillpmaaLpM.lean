/-
  Equations of up to five complex numbers: the contract.
-/
import Derived.Test.YtoanjoamillpmaaLpB
import Derived.Test.YtoanjoamillpmaaLpC
import Derived.Test.YtoanjoamillpmaaLpD
import Derived.Test.YtoanjoamillpmaaLpE
import Derived.Test.YtoanjoamillpmaaLpF
import Derived.Test.YtoanjoamillpmaaLpG
import Derived.Test.YtoanjoamillpmaaLpH
import Derived.Test.YtoanjoamillpmaaLpI
import Derived.Test.YtoanjoamillpmaaLpJ
import Derived.Test.YtoanjoamillpmaaLpK
import Derived.Test.YtoanjoamillpmaaLpL
import Derived.Test.YtoanjoamillpmaaLpA
import Derived.Test.YtoanjoamillpmaaFwC

namespace Go.Fw.T1
open Go.Proofs
def rowsW (n : Nat) (x y u v : Nat → Nat) : List (List C) := (List.range n).map (lRow n x y u v)
def lwS (n : Nat) (x y u v : Nat → Nat) : List Bool := waysW n (rowsW n x y u v)
def lOk (n : Nat) (x y u v : Nat → Nat) : Bool := (lSolve n x y u v (lwS n x y u v)).1
def sX (n : Nat) (x y u v : Nat → Nat) (j : Nat) : Nat := (lc (lSolve n x y u v (lwS n x y u v)).2 j).1
def sY (n : Nat) (x y u v : Nat → Nat) (j : Nat) : Nat := (lc (lSolve n x y u v (lwS n x y u v)).2 j).2
def wayOk (n : Nat) (ws : List Bool) : Bool := match n, ws with
  | 1, [] => true
  | 2, [_] => true
  | 3, [_, _, _] => true
  | 4, [_, false, false, false, false, false] => true
  | 5, [_, _, false, false, _, false, false, false, false, false] => true
  | _, _ => false
noncomputable def wSel4 (ws : List Bool) (x y u v : Nat → Nat) : Option (Bool × A) := match ws with
  | [false, false, false, false, false, false] => wS4ffffff x y u v
  | [true, false, false, false, false, false] => wS4tfffff x y u v
  | _ => none
noncomputable def qX4 (x y u v : Nat → Nat) (j : Nat) : Nat := match j with | 0 => sX 4 x y u v 0 | j + 1 => pX (wSel4 (lwS 4 x y u v) x y u v) (j + 1)
noncomputable def qY4 (x y u v : Nat → Nat) (j : Nat) : Nat := match j with | 0 => sY 4 x y u v 0 | j + 1 => pY (wSel4 (lwS 4 x y u v) x y u v) (j + 1)
noncomputable def wSel5 (ws : List Bool) (x y u v : Nat → Nat) : Option (Bool × A) := match ws with
  | [false, false, false, false, false, false, false, false, false, false] => wS5ffffffffff x y u v
  | [false, false, false, false, true, false, false, false, false, false] => wS5fffftfffff x y u v
  | [false, true, false, false, false, false, false, false, false, false] => wS5ftffffffff x y u v
  | [false, true, false, false, true, false, false, false, false, false] => wS5ftfftfffff x y u v
  | [true, false, false, false, false, false, false, false, false, false] => wS5tfffffffff x y u v
  | [true, false, false, false, true, false, false, false, false, false] => wS5tffftfffff x y u v
  | [true, true, false, false, false, false, false, false, false, false] => wS5ttffffffff x y u v
  | [true, true, false, false, true, false, false, false, false, false] => wS5ttfftfffff x y u v
  | _ => none
noncomputable def qX5 (x y u v : Nat → Nat) (j : Nat) : Nat := match j with | 0 => sX 5 x y u v 0 | j + 1 => pX (wSel5 (lwS 5 x y u v) x y u v) (j + 1)
noncomputable def qY5 (x y u v : Nat → Nat) (j : Nat) : Nat := match j with | 0 => sY 5 x y u v 0 | j + 1 => pY (wSel5 (lwS 5 x y u v) x y u v) (j + 1)
noncomputable def sSolve5 : List A → Option (Bool × A)
  | [.ro 1 m (.cpxs .f32 x y), .ro 1 n (.cpxs .f32 u v)] => match m, n with
    | 1, 1 => some (wayOk 1 (lwS 1 x y u v) && lOk 1 x y u v, .tup [.ro 1 1 (.cpxs .f32 (sX 1 x y u v) (sY 1 x y u v)), .bool true])
    | 4, 2 => some (wayOk 2 (lwS 2 x y u v) && lOk 2 x y u v, .tup [.ro 1 2 (.cpxs .f32 (sX 2 x y u v) (sY 2 x y u v)), .bool true])
    | 9, 3 => some (wayOk 3 (lwS 3 x y u v) && lOk 3 x y u v, .tup [.ro 1 3 (.cpxs .f32 (sX 3 x y u v) (sY 3 x y u v)), .bool true])
    | 16, 4 => some (wayOk 4 (lwS 4 x y u v) && lOk 4 x y u v, .tup [.ro 1 4 (.cpxs .f32 (qX4 x y u v) (qY4 x y u v)), .bool true])
    | 25, 5 => some (wayOk 5 (lwS 5 x y u v) && lOk 5 x y u v, .tup [.ro 1 5 (.cpxs .f32 (qX5 x y u v) (qY5 x y u v)), .bool true])
    | _, _ => none
  | _ => none
theorem sX_of {n : Nat} {x y u v : Nat → Nat} {ws : List Bool} (hw : lwS n x y u v = ws) (j : Nat) : sX n x y u v j = (lc (lSolve n x y u v ws).2 j).1 := by unfold sX; rw [hw]
theorem sY_of {n : Nat} {x y u v : Nat → Nat} {ws : List Bool} (hw : lwS n x y u v = ws) (j : Nat) : sY n x y u v j = (lc (lSolve n x y u v ws).2 j).2 := by unfold sY; rw [hw]
theorem walk_pure {W : Option (Bool × A)} {c : Bool} {un : Nat} {way : List Bool} {ds : List A} {r : A} (hA : W = autoW cfgA4 own47 un (fun _ => none) way Try.f47 ds) (hW : W = some (c, r)) (hc : c = true) : PureCall Try.prog 47 ds r :=
  autoW_ok cfgA4_ok Try.func47 (by kernel_rfl) (lp_none _) (hA.symm.trans hW) hc
theorem fit_pure {n : Nat} {W : Option (Bool × A)} {X Y : Nat → Nat} {ds : List A} (h : PureCall Try.prog 47 ds (.tup [.ro 1 n (.cpxs .f32 (pX W) (pY W)), .bool true])) (he : ∀ i, i < n → pX W i = X i ∧ pY W i = Y i) : PureCall Try.prog 47 ds (.tup [.ro 1 n (.cpxs .f32 X Y), .bool true]) :=
  h.roT_congr fun i hi => by
    have := he i hi
    show A.cpx .f32 (pX W i) (pY W i) = A.cpx .f32 (X i) (Y i)
    rw [this.1, this.2]
theorem lt_1 {P : Nat → Prop} (h0 : P 0) : ∀ i, i < 1 → P i
  | 0, _ => h0
theorem lt_2 {P : Nat → Prop} (h0 : P 0) (h1 : P 1) : ∀ i, i < 2 → P i
  | 0, _ => h0
  | 1, _ => h1
theorem lt_3 {P : Nat → Prop} (h0 : P 0) (h1 : P 1) (h2 : P 2) : ∀ i, i < 3 → P i
  | 0, _ => h0
  | 1, _ => h1
  | 2, _ => h2
theorem lt_s {P : Nat → Prop} {n : Nat} (h0 : P 0) (h1 : ∀ j, P (j + 1)) : ∀ i, i < n → P i
  | 0, _ => h0
  | j + 1, _ => h1 j
theorem eqS1 (x y u v : Nat → Nat) : wS1 x y u v = autoW cfgA4 own47 2 (fun _ => none) [false, true, false, true, true, true, false, false, false, true, false, false] Try.f47 [.ro 1 1 (.cpxs .f32 x y), .ro 1 1 (.cpxs .f32 u v)] := rfl
theorem puS1 (x y u v : Nat → Nat) (hw : lwS 1 x y u v = []) (hk : (lSolve 1 x y u v []).1 = true) : PureCall Try.prog 47 [.ro 1 1 (.cpxs .f32 x y), .ro 1 1 (.cpxs .f32 u v)] (.tup [.ro 1 1 (.cpxs .f32 (sX 1 x y u v) (sY 1 x y u v)), .bool true]) := by
  have hp := walk_pure (eqS1 x y u v) (walkT1 x y u v) hk
  have hv := valT1 x y u v
  have q0 := Prod.mk.inj hv
  exact fit_pure hp (lt_1 ⟨q0.1.trans (sX_of hw 0).symm, q0.2.trans (sY_of hw 0).symm⟩)
theorem pure47_1 (x y u v : Nat → Nat) (h : (wayOk 1 (lwS 1 x y u v) && lOk 1 x y u v) = true) : PureCall Try.prog 47 [.ro 1 1 (.cpxs .f32 x y), .ro 1 1 (.cpxs .f32 u v)] (.tup [.ro 1 1 (.cpxs .f32 (sX 1 x y u v) (sY 1 x y u v)), .bool true]) := by
  rw [Bool.and_eq_true] at h
  obtain ⟨h1, h2⟩ := h
  unfold lOk at h2
  generalize hw : lwS 1 x y u v = ws at h1 h2
  unfold wayOk at h1
  split at h1
  · exact puS1 x y u v hw h2
  · exact absurd (by assumption : (1 : Nat) = 2) (by decide)
  · exact absurd (by assumption : (1 : Nat) = 3) (by decide)
  · exact absurd (by assumption : (1 : Nat) = 4) (by decide)
  · exact absurd (by assumption : (1 : Nat) = 5) (by decide)
  · cases h1
theorem eqS2f (x y u v : Nat → Nat) : wS2f x y u v = autoW cfgA4 own47 3 (fun _ => none) [false, true, true, false, true, true, true, true, false, false, false, true, true, false, true, true, true, false, false, false, true, false, true, true, false, false] Try.f47 [.ro 1 4 (.cpxs .f32 x y), .ro 1 2 (.cpxs .f32 u v)] := rfl
theorem puS2f (x y u v : Nat → Nat) (hw : lwS 2 x y u v = [false]) (hk : (lSolve 2 x y u v [false]).1 = true) : PureCall Try.prog 47 [.ro 1 4 (.cpxs .f32 x y), .ro 1 2 (.cpxs .f32 u v)] (.tup [.ro 1 2 (.cpxs .f32 (sX 2 x y u v) (sY 2 x y u v)), .bool true]) := by
  have hp := walk_pure (eqS2f x y u v) (walkT2f x y u v) hk
  have hv := valT2f x y u v
  have q0 := Prod.mk.inj hv
  have q1 := Prod.mk.inj q0.2
  have q2 := Prod.mk.inj q1.2
  exact fit_pure hp (lt_2 ⟨q0.1.trans (sX_of hw 0).symm, q1.1.trans (sY_of hw 0).symm⟩ ⟨q2.1.trans (sX_of hw 1).symm, q2.2.trans (sY_of hw 1).symm⟩)
theorem eqS2t (x y u v : Nat → Nat) : wS2t x y u v = autoW cfgA4 own47 3 (fun _ => none) [false, true, true, false, true, true, true, true, true, false, false, true, true, false, true, true, true, false, false, false, true, false, true, true, false, false] Try.f47 [.ro 1 4 (.cpxs .f32 x y), .ro 1 2 (.cpxs .f32 u v)] := rfl
theorem puS2t (x y u v : Nat → Nat) (hw : lwS 2 x y u v = [true]) (hk : (lSolve 2 x y u v [true]).1 = true) : PureCall Try.prog 47 [.ro 1 4 (.cpxs .f32 x y), .ro 1 2 (.cpxs .f32 u v)] (.tup [.ro 1 2 (.cpxs .f32 (sX 2 x y u v) (sY 2 x y u v)), .bool true]) := by
  have hp := walk_pure (eqS2t x y u v) (walkT2t x y u v) hk
  have hv := valT2t x y u v
  have q0 := Prod.mk.inj hv
  have q1 := Prod.mk.inj q0.2
  have q2 := Prod.mk.inj q1.2
  exact fit_pure hp (lt_2 ⟨q0.1.trans (sX_of hw 0).symm, q1.1.trans (sY_of hw 0).symm⟩ ⟨q2.1.trans (sX_of hw 1).symm, q2.2.trans (sY_of hw 1).symm⟩)
theorem pure47_2 (x y u v : Nat → Nat) (h : (wayOk 2 (lwS 2 x y u v) && lOk 2 x y u v) = true) : PureCall Try.prog 47 [.ro 1 4 (.cpxs .f32 x y), .ro 1 2 (.cpxs .f32 u v)] (.tup [.ro 1 2 (.cpxs .f32 (sX 2 x y u v) (sY 2 x y u v)), .bool true]) := by
  rw [Bool.and_eq_true] at h
  obtain ⟨h1, h2⟩ := h
  unfold lOk at h2
  generalize hw : lwS 2 x y u v = ws at h1 h2
  unfold wayOk at h1
  split at h1
  · exact absurd (by assumption : (2 : Nat) = 1) (by decide)
  · rename_i a0 _
    cases a0
    · exact puS2f x y u v hw h2
    · exact puS2t x y u v hw h2
  · exact absurd (by assumption : (2 : Nat) = 3) (by decide)
  · exact absurd (by assumption : (2 : Nat) = 4) (by decide)
  · exact absurd (by assumption : (2 : Nat) = 5) (by decide)
  · cases h1
theorem eqS3fff (x y u v : Nat → Nat) : wS3fff x y u v = autoW cfgA4 own47 4 (fun _ => none) [false, true, true, true, false, true, true, true, true, false, true, false, false, false, true, true, true, false, true, true, true, false, true, true, true, true, false, false, false, true, true, false, true, true, true, false, false, false, true, false, true, true, false, true, true, true, false, false] Try.f47 [.ro 1 9 (.cpxs .f32 x y), .ro 1 3 (.cpxs .f32 u v)] := rfl
theorem puS3fff (x y u v : Nat → Nat) (hw : lwS 3 x y u v = [false, false, false]) (hk : (lSolve 3 x y u v [false, false, false]).1 = true) : PureCall Try.prog 47 [.ro 1 9 (.cpxs .f32 x y), .ro 1 3 (.cpxs .f32 u v)] (.tup [.ro 1 3 (.cpxs .f32 (sX 3 x y u v) (sY 3 x y u v)), .bool true]) := by
  have hp := walk_pure (eqS3fff x y u v) (walkT3fff x y u v) hk
  have hv := valT3fff x y u v
  have q0 := Prod.mk.inj hv
  have q1 := Prod.mk.inj q0.2
  have q2 := Prod.mk.inj q1.2
  have q3 := Prod.mk.inj q2.2
  have q4 := Prod.mk.inj q3.2
  exact fit_pure hp (lt_3 ⟨q0.1.trans (sX_of hw 0).symm, q1.1.trans (sY_of hw 0).symm⟩ ⟨q2.1.trans (sX_of hw 1).symm, q3.1.trans (sY_of hw 1).symm⟩ ⟨q4.1.trans (sX_of hw 2).symm, q4.2.trans (sY_of hw 2).symm⟩)
theorem eqS3fft (x y u v : Nat → Nat) : wS3fft x y u v = autoW cfgA4 own47 4 (fun _ => none) [false, true, true, true, false, true, true, true, true, false, true, false, false, false, true, true, true, false, true, true, true, false, true, true, true, true, true, false, false, true, true, false, true, true, true, false, false, false, true, false, true, true, false, true, true, true, false, false] Try.f47 [.ro 1 9 (.cpxs .f32 x y), .ro 1 3 (.cpxs .f32 u v)] := rfl
theorem puS3fft (x y u v : Nat → Nat) (hw : lwS 3 x y u v = [false, false, true]) (hk : (lSolve 3 x y u v [false, false, true]).1 = true) : PureCall Try.prog 47 [.ro 1 9 (.cpxs .f32 x y), .ro 1 3 (.cpxs .f32 u v)] (.tup [.ro 1 3 (.cpxs .f32 (sX 3 x y u v) (sY 3 x y u v)), .bool true]) := by
  have hp := walk_pure (eqS3fft x y u v) (walkT3fft x y u v) hk
  have hv := valT3fft x y u v
  have q0 := Prod.mk.inj hv
  have q1 := Prod.mk.inj q0.2
  have q2 := Prod.mk.inj q1.2
  have q3 := Prod.mk.inj q2.2
  have q4 := Prod.mk.inj q3.2
  exact fit_pure hp (lt_3 ⟨q0.1.trans (sX_of hw 0).symm, q1.1.trans (sY_of hw 0).symm⟩ ⟨q2.1.trans (sX_of hw 1).symm, q3.1.trans (sY_of hw 1).symm⟩ ⟨q4.1.trans (sX_of hw 2).symm, q4.2.trans (sY_of hw 2).symm⟩)
theorem eqS3ftf (x y u v : Nat → Nat) : wS3ftf x y u v = autoW cfgA4 own47 4 (fun _ => none) [false, true, true, true, false, true, true, true, true, false, true, true, false, false, true, true, true, false, true, true, true, false, true, true, true, true, false, false, false, true, true, false, true, true, true, false, false, false, true, false, true, true, false, true, true, true, false, false] Try.f47 [.ro 1 9 (.cpxs .f32 x y), .ro 1 3 (.cpxs .f32 u v)] := rfl
theorem puS3ftf (x y u v : Nat → Nat) (hw : lwS 3 x y u v = [false, true, false]) (hk : (lSolve 3 x y u v [false, true, false]).1 = true) : PureCall Try.prog 47 [.ro 1 9 (.cpxs .f32 x y), .ro 1 3 (.cpxs .f32 u v)] (.tup [.ro 1 3 (.cpxs .f32 (sX 3 x y u v) (sY 3 x y u v)), .bool true]) := by
  have hp := walk_pure (eqS3ftf x y u v) (walkT3ftf x y u v) hk
  have hv := valT3ftf x y u v
  have q0 := Prod.mk.inj hv
  have q1 := Prod.mk.inj q0.2
  have q2 := Prod.mk.inj q1.2
  have q3 := Prod.mk.inj q2.2
  have q4 := Prod.mk.inj q3.2
  exact fit_pure hp (lt_3 ⟨q0.1.trans (sX_of hw 0).symm, q1.1.trans (sY_of hw 0).symm⟩ ⟨q2.1.trans (sX_of hw 1).symm, q3.1.trans (sY_of hw 1).symm⟩ ⟨q4.1.trans (sX_of hw 2).symm, q4.2.trans (sY_of hw 2).symm⟩)
theorem eqS3ftt (x y u v : Nat → Nat) : wS3ftt x y u v = autoW cfgA4 own47 4 (fun _ => none) [false, true, true, true, false, true, true, true, true, false, true, true, false, false, true, true, true, false, true, true, true, false, true, true, true, true, true, false, false, true, true, false, true, true, true, false, false, false, true, false, true, true, false, true, true, true, false, false] Try.f47 [.ro 1 9 (.cpxs .f32 x y), .ro 1 3 (.cpxs .f32 u v)] := rfl
theorem puS3ftt (x y u v : Nat → Nat) (hw : lwS 3 x y u v = [false, true, true]) (hk : (lSolve 3 x y u v [false, true, true]).1 = true) : PureCall Try.prog 47 [.ro 1 9 (.cpxs .f32 x y), .ro 1 3 (.cpxs .f32 u v)] (.tup [.ro 1 3 (.cpxs .f32 (sX 3 x y u v) (sY 3 x y u v)), .bool true]) := by
  have hp := walk_pure (eqS3ftt x y u v) (walkT3ftt x y u v) hk
  have hv := valT3ftt x y u v
  have q0 := Prod.mk.inj hv
  have q1 := Prod.mk.inj q0.2
  have q2 := Prod.mk.inj q1.2
  have q3 := Prod.mk.inj q2.2
  have q4 := Prod.mk.inj q3.2
  exact fit_pure hp (lt_3 ⟨q0.1.trans (sX_of hw 0).symm, q1.1.trans (sY_of hw 0).symm⟩ ⟨q2.1.trans (sX_of hw 1).symm, q3.1.trans (sY_of hw 1).symm⟩ ⟨q4.1.trans (sX_of hw 2).symm, q4.2.trans (sY_of hw 2).symm⟩)
theorem eqS3tff (x y u v : Nat → Nat) : wS3tff x y u v = autoW cfgA4 own47 4 (fun _ => none) [false, true, true, true, false, true, true, true, true, true, true, false, false, false, true, true, true, false, true, true, true, false, true, true, true, true, false, false, false, true, true, false, true, true, true, false, false, false, true, false, true, true, false, true, true, true, false, false] Try.f47 [.ro 1 9 (.cpxs .f32 x y), .ro 1 3 (.cpxs .f32 u v)] := rfl
theorem puS3tff (x y u v : Nat → Nat) (hw : lwS 3 x y u v = [true, false, false]) (hk : (lSolve 3 x y u v [true, false, false]).1 = true) : PureCall Try.prog 47 [.ro 1 9 (.cpxs .f32 x y), .ro 1 3 (.cpxs .f32 u v)] (.tup [.ro 1 3 (.cpxs .f32 (sX 3 x y u v) (sY 3 x y u v)), .bool true]) := by
  have hp := walk_pure (eqS3tff x y u v) (walkT3tff x y u v) hk
  have hv := valT3tff x y u v
  have q0 := Prod.mk.inj hv
  have q1 := Prod.mk.inj q0.2
  have q2 := Prod.mk.inj q1.2
  have q3 := Prod.mk.inj q2.2
  have q4 := Prod.mk.inj q3.2
  exact fit_pure hp (lt_3 ⟨q0.1.trans (sX_of hw 0).symm, q1.1.trans (sY_of hw 0).symm⟩ ⟨q2.1.trans (sX_of hw 1).symm, q3.1.trans (sY_of hw 1).symm⟩ ⟨q4.1.trans (sX_of hw 2).symm, q4.2.trans (sY_of hw 2).symm⟩)
theorem eqS3tft (x y u v : Nat → Nat) : wS3tft x y u v = autoW cfgA4 own47 4 (fun _ => none) [false, true, true, true, false, true, true, true, true, true, true, false, false, false, true, true, true, false, true, true, true, false, true, true, true, true, true, false, false, true, true, false, true, true, true, false, false, false, true, false, true, true, false, true, true, true, false, false] Try.f47 [.ro 1 9 (.cpxs .f32 x y), .ro 1 3 (.cpxs .f32 u v)] := rfl
theorem puS3tft (x y u v : Nat → Nat) (hw : lwS 3 x y u v = [true, false, true]) (hk : (lSolve 3 x y u v [true, false, true]).1 = true) : PureCall Try.prog 47 [.ro 1 9 (.cpxs .f32 x y), .ro 1 3 (.cpxs .f32 u v)] (.tup [.ro 1 3 (.cpxs .f32 (sX 3 x y u v) (sY 3 x y u v)), .bool true]) := by
  have hp := walk_pure (eqS3tft x y u v) (walkT3tft x y u v) hk
  have hv := valT3tft x y u v
  have q0 := Prod.mk.inj hv
  have q1 := Prod.mk.inj q0.2
  have q2 := Prod.mk.inj q1.2
  have q3 := Prod.mk.inj q2.2
  have q4 := Prod.mk.inj q3.2
  exact fit_pure hp (lt_3 ⟨q0.1.trans (sX_of hw 0).symm, q1.1.trans (sY_of hw 0).symm⟩ ⟨q2.1.trans (sX_of hw 1).symm, q3.1.trans (sY_of hw 1).symm⟩ ⟨q4.1.trans (sX_of hw 2).symm, q4.2.trans (sY_of hw 2).symm⟩)
theorem eqS3ttf (x y u v : Nat → Nat) : wS3ttf x y u v = autoW cfgA4 own47 4 (fun _ => none) [false, true, true, true, false, true, true, true, true, true, true, true, false, false, true, true, true, false, true, true, true, false, true, true, true, true, false, false, false, true, true, false, true, true, true, false, false, false, true, false, true, true, false, true, true, true, false, false] Try.f47 [.ro 1 9 (.cpxs .f32 x y), .ro 1 3 (.cpxs .f32 u v)] := rfl
theorem puS3ttf (x y u v : Nat → Nat) (hw : lwS 3 x y u v = [true, true, false]) (hk : (lSolve 3 x y u v [true, true, false]).1 = true) : PureCall Try.prog 47 [.ro 1 9 (.cpxs .f32 x y), .ro 1 3 (.cpxs .f32 u v)] (.tup [.ro 1 3 (.cpxs .f32 (sX 3 x y u v) (sY 3 x y u v)), .bool true]) := by
  have hp := walk_pure (eqS3ttf x y u v) (walkT3ttf x y u v) hk
  have hv := valT3ttf x y u v
  have q0 := Prod.mk.inj hv
  have q1 := Prod.mk.inj q0.2
  have q2 := Prod.mk.inj q1.2
  have q3 := Prod.mk.inj q2.2
  have q4 := Prod.mk.inj q3.2
  exact fit_pure hp (lt_3 ⟨q0.1.trans (sX_of hw 0).symm, q1.1.trans (sY_of hw 0).symm⟩ ⟨q2.1.trans (sX_of hw 1).symm, q3.1.trans (sY_of hw 1).symm⟩ ⟨q4.1.trans (sX_of hw 2).symm, q4.2.trans (sY_of hw 2).symm⟩)
theorem eqS3ttt (x y u v : Nat → Nat) : wS3ttt x y u v = autoW cfgA4 own47 4 (fun _ => none) [false, true, true, true, false, true, true, true, true, true, true, true, false, false, true, true, true, false, true, true, true, false, true, true, true, true, true, false, false, true, true, false, true, true, true, false, false, false, true, false, true, true, false, true, true, true, false, false] Try.f47 [.ro 1 9 (.cpxs .f32 x y), .ro 1 3 (.cpxs .f32 u v)] := rfl
theorem puS3ttt (x y u v : Nat → Nat) (hw : lwS 3 x y u v = [true, true, true]) (hk : (lSolve 3 x y u v [true, true, true]).1 = true) : PureCall Try.prog 47 [.ro 1 9 (.cpxs .f32 x y), .ro 1 3 (.cpxs .f32 u v)] (.tup [.ro 1 3 (.cpxs .f32 (sX 3 x y u v) (sY 3 x y u v)), .bool true]) := by
  have hp := walk_pure (eqS3ttt x y u v) (walkT3ttt x y u v) hk
  have hv := valT3ttt x y u v
  have q0 := Prod.mk.inj hv
  have q1 := Prod.mk.inj q0.2
  have q2 := Prod.mk.inj q1.2
  have q3 := Prod.mk.inj q2.2
  have q4 := Prod.mk.inj q3.2
  exact fit_pure hp (lt_3 ⟨q0.1.trans (sX_of hw 0).symm, q1.1.trans (sY_of hw 0).symm⟩ ⟨q2.1.trans (sX_of hw 1).symm, q3.1.trans (sY_of hw 1).symm⟩ ⟨q4.1.trans (sX_of hw 2).symm, q4.2.trans (sY_of hw 2).symm⟩)
theorem pure47_3 (x y u v : Nat → Nat) (h : (wayOk 3 (lwS 3 x y u v) && lOk 3 x y u v) = true) : PureCall Try.prog 47 [.ro 1 9 (.cpxs .f32 x y), .ro 1 3 (.cpxs .f32 u v)] (.tup [.ro 1 3 (.cpxs .f32 (sX 3 x y u v) (sY 3 x y u v)), .bool true]) := by
  rw [Bool.and_eq_true] at h
  obtain ⟨h1, h2⟩ := h
  unfold lOk at h2
  generalize hw : lwS 3 x y u v = ws at h1 h2
  unfold wayOk at h1
  split at h1
  · exact absurd (by assumption : (3 : Nat) = 1) (by decide)
  · exact absurd (by assumption : (3 : Nat) = 2) (by decide)
  · rename_i a0 a1 a2 _
    cases a0
    · cases a1
      · cases a2
        · exact puS3fff x y u v hw h2
        · exact puS3fft x y u v hw h2
      · cases a2
        · exact puS3ftf x y u v hw h2
        · exact puS3ftt x y u v hw h2
    · cases a1
      · cases a2
        · exact puS3tff x y u v hw h2
        · exact puS3tft x y u v hw h2
      · cases a2
        · exact puS3ttf x y u v hw h2
        · exact puS3ttt x y u v hw h2
  · exact absurd (by assumption : (3 : Nat) = 4) (by decide)
  · exact absurd (by assumption : (3 : Nat) = 5) (by decide)
  · cases h1
theorem eqS4ffffff (x y u v : Nat → Nat) : wS4ffffff x y u v = autoW cfgA4 own47 5 (fun _ => none) [false, true, true, true, true, false, true, true, true, true, false, true, false, true, false, false, false, true, true, true, true, false, true, true, true, true, false, true, true, true, true, false, true, true, true, true, false, true, false, false, false, true, true, true, false, true, true, true, false, true, true, true, true, false, false, false, true, true, false, true, true, true, false, false, false, true, false, true, true, false, true, true, true, false, true, true, true, true, false, false] Try.f47 [.ro 1 16 (.cpxs .f32 x y), .ro 1 4 (.cpxs .f32 u v)] := rfl
theorem puS4ffffff (x y u v : Nat → Nat) (hw : lwS 4 x y u v = [false, false, false, false, false, false]) (hk : (lSolve 4 x y u v [false, false, false, false, false, false]).1 = true) : PureCall Try.prog 47 [.ro 1 16 (.cpxs .f32 x y), .ro 1 4 (.cpxs .f32 u v)] (.tup [.ro 1 4 (.cpxs .f32 (qX4 x y u v) (qY4 x y u v)), .bool true]) := by
  have hp := walk_pure (eqS4ffffff x y u v) (walkT4ffffff x y u v) hk
  have hv := valT4ffffff x y u v
  have q0 := Prod.mk.inj hv
  have e : wSel4 (lwS 4 x y u v) x y u v = wS4ffffff x y u v := by rw [hw]; rfl
  refine fit_pure hp (lt_s ⟨q0.1.trans (sX_of hw 0).symm, q0.2.trans (sY_of hw 0).symm⟩ fun j => ?_)
  constructor
  · show pX (wS4ffffff x y u v) (j + 1) = pX (wSel4 (lwS 4 x y u v) x y u v) (j + 1)
    rw [e]
  · show pY (wS4ffffff x y u v) (j + 1) = pY (wSel4 (lwS 4 x y u v) x y u v) (j + 1)
    rw [e]
theorem eqS4tfffff (x y u v : Nat → Nat) : wS4tfffff x y u v = autoW cfgA4 own47 5 (fun _ => none) [false, true, true, true, true, false, true, true, true, true, true, true, false, true, false, false, false, true, true, true, true, false, true, true, true, true, false, true, true, true, true, false, true, true, true, true, false, true, false, false, false, true, true, true, false, true, true, true, false, true, true, true, true, false, false, false, true, true, false, true, true, true, false, false, false, true, false, true, true, false, true, true, true, false, true, true, true, true, false, false] Try.f47 [.ro 1 16 (.cpxs .f32 x y), .ro 1 4 (.cpxs .f32 u v)] := rfl
theorem puS4tfffff (x y u v : Nat → Nat) (hw : lwS 4 x y u v = [true, false, false, false, false, false]) (hk : (lSolve 4 x y u v [true, false, false, false, false, false]).1 = true) : PureCall Try.prog 47 [.ro 1 16 (.cpxs .f32 x y), .ro 1 4 (.cpxs .f32 u v)] (.tup [.ro 1 4 (.cpxs .f32 (qX4 x y u v) (qY4 x y u v)), .bool true]) := by
  have hp := walk_pure (eqS4tfffff x y u v) (walkT4tfffff x y u v) hk
  have hv := valT4tfffff x y u v
  have q0 := Prod.mk.inj hv
  have e : wSel4 (lwS 4 x y u v) x y u v = wS4tfffff x y u v := by rw [hw]; rfl
  refine fit_pure hp (lt_s ⟨q0.1.trans (sX_of hw 0).symm, q0.2.trans (sY_of hw 0).symm⟩ fun j => ?_)
  constructor
  · show pX (wS4tfffff x y u v) (j + 1) = pX (wSel4 (lwS 4 x y u v) x y u v) (j + 1)
    rw [e]
  · show pY (wS4tfffff x y u v) (j + 1) = pY (wSel4 (lwS 4 x y u v) x y u v) (j + 1)
    rw [e]
theorem pure47_4 (x y u v : Nat → Nat) (h : (wayOk 4 (lwS 4 x y u v) && lOk 4 x y u v) = true) : PureCall Try.prog 47 [.ro 1 16 (.cpxs .f32 x y), .ro 1 4 (.cpxs .f32 u v)] (.tup [.ro 1 4 (.cpxs .f32 (qX4 x y u v) (qY4 x y u v)), .bool true]) := by
  rw [Bool.and_eq_true] at h
  obtain ⟨h1, h2⟩ := h
  unfold lOk at h2
  generalize hw : lwS 4 x y u v = ws at h1 h2
  unfold wayOk at h1
  split at h1
  · exact absurd (by assumption : (4 : Nat) = 1) (by decide)
  · exact absurd (by assumption : (4 : Nat) = 2) (by decide)
  · exact absurd (by assumption : (4 : Nat) = 3) (by decide)
  · rename_i a0 _
    cases a0
    · exact puS4ffffff x y u v hw h2
    · exact puS4tfffff x y u v hw h2
  · exact absurd (by assumption : (4 : Nat) = 5) (by decide)
  · cases h1
theorem eqS5ffffffffff (x y u v : Nat → Nat) : wS5ffffffffff x y u v = autoW cfgA4 own47 6 (fun _ => none) [false, true, true, true, true, true, false, true, true, true, true, false, true, false, true, false, true, false, false, false, true, true, true, true, true, false, true, true, true, true, true, false, true, true, true, true, true, false, true, true, true, true, true, false, true, true, true, true, false, true, false, true, false, false, false, true, true, true, true, false, true, true, true, true, false, true, true, true, true, false, true, true, true, true, false, true, false, false, false, true, true, true, false, true, true, true, false, true, true, true, true, false, false, false, true, true, false, true, true, true, false, false, false, true, false, true, true, false, true, true, true, false, true, true, true, true, false, true, true, true, true, true, false, false] Try.f47 [.ro 1 25 (.cpxs .f32 x y), .ro 1 5 (.cpxs .f32 u v)] := rfl
theorem puS5ffffffffff (x y u v : Nat → Nat) (hw : lwS 5 x y u v = [false, false, false, false, false, false, false, false, false, false]) (hk : (lSolve 5 x y u v [false, false, false, false, false, false, false, false, false, false]).1 = true) : PureCall Try.prog 47 [.ro 1 25 (.cpxs .f32 x y), .ro 1 5 (.cpxs .f32 u v)] (.tup [.ro 1 5 (.cpxs .f32 (qX5 x y u v) (qY5 x y u v)), .bool true]) := by
  have hp := walk_pure (eqS5ffffffffff x y u v) (walkT5ffffffffff x y u v) hk
  have hv := valT5ffffffffff x y u v
  have q0 := Prod.mk.inj hv
  have e : wSel5 (lwS 5 x y u v) x y u v = wS5ffffffffff x y u v := by rw [hw]; rfl
  refine fit_pure hp (lt_s ⟨q0.1.trans (sX_of hw 0).symm, q0.2.trans (sY_of hw 0).symm⟩ fun j => ?_)
  constructor
  · show pX (wS5ffffffffff x y u v) (j + 1) = pX (wSel5 (lwS 5 x y u v) x y u v) (j + 1)
    rw [e]
  · show pY (wS5ffffffffff x y u v) (j + 1) = pY (wSel5 (lwS 5 x y u v) x y u v) (j + 1)
    rw [e]
theorem eqS5fffftfffff (x y u v : Nat → Nat) : wS5fffftfffff x y u v = autoW cfgA4 own47 6 (fun _ => none) [false, true, true, true, true, true, false, true, true, true, true, false, true, false, true, false, true, false, false, false, true, true, true, true, true, false, true, true, true, true, true, false, true, true, true, true, true, false, true, true, true, true, true, false, true, true, true, true, true, true, false, true, false, false, false, true, true, true, true, false, true, true, true, true, false, true, true, true, true, false, true, true, true, true, false, true, false, false, false, true, true, true, false, true, true, true, false, true, true, true, true, false, false, false, true, true, false, true, true, true, false, false, false, true, false, true, true, false, true, true, true, false, true, true, true, true, false, true, true, true, true, true, false, false] Try.f47 [.ro 1 25 (.cpxs .f32 x y), .ro 1 5 (.cpxs .f32 u v)] := rfl
theorem puS5fffftfffff (x y u v : Nat → Nat) (hw : lwS 5 x y u v = [false, false, false, false, true, false, false, false, false, false]) (hk : (lSolve 5 x y u v [false, false, false, false, true, false, false, false, false, false]).1 = true) : PureCall Try.prog 47 [.ro 1 25 (.cpxs .f32 x y), .ro 1 5 (.cpxs .f32 u v)] (.tup [.ro 1 5 (.cpxs .f32 (qX5 x y u v) (qY5 x y u v)), .bool true]) := by
  have hp := walk_pure (eqS5fffftfffff x y u v) (walkT5fffftfffff x y u v) hk
  have hv := valT5fffftfffff x y u v
  have q0 := Prod.mk.inj hv
  have e : wSel5 (lwS 5 x y u v) x y u v = wS5fffftfffff x y u v := by rw [hw]; rfl
  refine fit_pure hp (lt_s ⟨q0.1.trans (sX_of hw 0).symm, q0.2.trans (sY_of hw 0).symm⟩ fun j => ?_)
  constructor
  · show pX (wS5fffftfffff x y u v) (j + 1) = pX (wSel5 (lwS 5 x y u v) x y u v) (j + 1)
    rw [e]
  · show pY (wS5fffftfffff x y u v) (j + 1) = pY (wSel5 (lwS 5 x y u v) x y u v) (j + 1)
    rw [e]
theorem eqS5ftffffffff (x y u v : Nat → Nat) : wS5ftffffffff x y u v = autoW cfgA4 own47 6 (fun _ => none) [false, true, true, true, true, true, false, true, true, true, true, false, true, true, true, false, true, false, false, false, true, true, true, true, true, false, true, true, true, true, true, false, true, true, true, true, true, false, true, true, true, true, true, false, true, true, true, true, false, true, false, true, false, false, false, true, true, true, true, false, true, true, true, true, false, true, true, true, true, false, true, true, true, true, false, true, false, false, false, true, true, true, false, true, true, true, false, true, true, true, true, false, false, false, true, true, false, true, true, true, false, false, false, true, false, true, true, false, true, true, true, false, true, true, true, true, false, true, true, true, true, true, false, false] Try.f47 [.ro 1 25 (.cpxs .f32 x y), .ro 1 5 (.cpxs .f32 u v)] := rfl
theorem puS5ftffffffff (x y u v : Nat → Nat) (hw : lwS 5 x y u v = [false, true, false, false, false, false, false, false, false, false]) (hk : (lSolve 5 x y u v [false, true, false, false, false, false, false, false, false, false]).1 = true) : PureCall Try.prog 47 [.ro 1 25 (.cpxs .f32 x y), .ro 1 5 (.cpxs .f32 u v)] (.tup [.ro 1 5 (.cpxs .f32 (qX5 x y u v) (qY5 x y u v)), .bool true]) := by
  have hp := walk_pure (eqS5ftffffffff x y u v) (walkT5ftffffffff x y u v) hk
  have hv := valT5ftffffffff x y u v
  have q0 := Prod.mk.inj hv
  have e : wSel5 (lwS 5 x y u v) x y u v = wS5ftffffffff x y u v := by rw [hw]; rfl
  refine fit_pure hp (lt_s ⟨q0.1.trans (sX_of hw 0).symm, q0.2.trans (sY_of hw 0).symm⟩ fun j => ?_)
  constructor
  · show pX (wS5ftffffffff x y u v) (j + 1) = pX (wSel5 (lwS 5 x y u v) x y u v) (j + 1)
    rw [e]
  · show pY (wS5ftffffffff x y u v) (j + 1) = pY (wSel5 (lwS 5 x y u v) x y u v) (j + 1)
    rw [e]
theorem eqS5ftfftfffff (x y u v : Nat → Nat) : wS5ftfftfffff x y u v = autoW cfgA4 own47 6 (fun _ => none) [false, true, true, true, true, true, false, true, true, true, true, false, true, true, true, false, true, false, false, false, true, true, true, true, true, false, true, true, true, true, true, false, true, true, true, true, true, false, true, true, true, true, true, false, true, true, true, true, true, true, false, true, false, false, false, true, true, true, true, false, true, true, true, true, false, true, true, true, true, false, true, true, true, true, false, true, false, false, false, true, true, true, false, true, true, true, false, true, true, true, true, false, false, false, true, true, false, true, true, true, false, false, false, true, false, true, true, false, true, true, true, false, true, true, true, true, false, true, true, true, true, true, false, false] Try.f47 [.ro 1 25 (.cpxs .f32 x y), .ro 1 5 (.cpxs .f32 u v)] := rfl
theorem puS5ftfftfffff (x y u v : Nat → Nat) (hw : lwS 5 x y u v = [false, true, false, false, true, false, false, false, false, false]) (hk : (lSolve 5 x y u v [false, true, false, false, true, false, false, false, false, false]).1 = true) : PureCall Try.prog 47 [.ro 1 25 (.cpxs .f32 x y), .ro 1 5 (.cpxs .f32 u v)] (.tup [.ro 1 5 (.cpxs .f32 (qX5 x y u v) (qY5 x y u v)), .bool true]) := by
  have hp := walk_pure (eqS5ftfftfffff x y u v) (walkT5ftfftfffff x y u v) hk
  have hv := valT5ftfftfffff x y u v
  have q0 := Prod.mk.inj hv
  have e : wSel5 (lwS 5 x y u v) x y u v = wS5ftfftfffff x y u v := by rw [hw]; rfl
  refine fit_pure hp (lt_s ⟨q0.1.trans (sX_of hw 0).symm, q0.2.trans (sY_of hw 0).symm⟩ fun j => ?_)
  constructor
  · show pX (wS5ftfftfffff x y u v) (j + 1) = pX (wSel5 (lwS 5 x y u v) x y u v) (j + 1)
    rw [e]
  · show pY (wS5ftfftfffff x y u v) (j + 1) = pY (wSel5 (lwS 5 x y u v) x y u v) (j + 1)
    rw [e]
theorem eqS5tfffffffff (x y u v : Nat → Nat) : wS5tfffffffff x y u v = autoW cfgA4 own47 6 (fun _ => none) [false, true, true, true, true, true, false, true, true, true, true, true, true, false, true, false, true, false, false, false, true, true, true, true, true, false, true, true, true, true, true, false, true, true, true, true, true, false, true, true, true, true, true, false, true, true, true, true, false, true, false, true, false, false, false, true, true, true, true, false, true, true, true, true, false, true, true, true, true, false, true, true, true, true, false, true, false, false, false, true, true, true, false, true, true, true, false, true, true, true, true, false, false, false, true, true, false, true, true, true, false, false, false, true, false, true, true, false, true, true, true, false, true, true, true, true, false, true, true, true, true, true, false, false] Try.f47 [.ro 1 25 (.cpxs .f32 x y), .ro 1 5 (.cpxs .f32 u v)] := rfl
theorem puS5tfffffffff (x y u v : Nat → Nat) (hw : lwS 5 x y u v = [true, false, false, false, false, false, false, false, false, false]) (hk : (lSolve 5 x y u v [true, false, false, false, false, false, false, false, false, false]).1 = true) : PureCall Try.prog 47 [.ro 1 25 (.cpxs .f32 x y), .ro 1 5 (.cpxs .f32 u v)] (.tup [.ro 1 5 (.cpxs .f32 (qX5 x y u v) (qY5 x y u v)), .bool true]) := by
  have hp := walk_pure (eqS5tfffffffff x y u v) (walkT5tfffffffff x y u v) hk
  have hv := valT5tfffffffff x y u v
  have q0 := Prod.mk.inj hv
  have e : wSel5 (lwS 5 x y u v) x y u v = wS5tfffffffff x y u v := by rw [hw]; rfl
  refine fit_pure hp (lt_s ⟨q0.1.trans (sX_of hw 0).symm, q0.2.trans (sY_of hw 0).symm⟩ fun j => ?_)
  constructor
  · show pX (wS5tfffffffff x y u v) (j + 1) = pX (wSel5 (lwS 5 x y u v) x y u v) (j + 1)
    rw [e]
  · show pY (wS5tfffffffff x y u v) (j + 1) = pY (wSel5 (lwS 5 x y u v) x y u v) (j + 1)
    rw [e]
theorem eqS5tffftfffff (x y u v : Nat → Nat) : wS5tffftfffff x y u v = autoW cfgA4 own47 6 (fun _ => none) [false, true, true, true, true, true, false, true, true, true, true, true, true, false, true, false, true, false, false, false, true, true, true, true, true, false, true, true, true, true, true, false, true, true, true, true, true, false, true, true, true, true, true, false, true, true, true, true, true, true, false, true, false, false, false, true, true, true, true, false, true, true, true, true, false, true, true, true, true, false, true, true, true, true, false, true, false, false, false, true, true, true, false, true, true, true, false, true, true, true, true, false, false, false, true, true, false, true, true, true, false, false, false, true, false, true, true, false, true, true, true, false, true, true, true, true, false, true, true, true, true, true, false, false] Try.f47 [.ro 1 25 (.cpxs .f32 x y), .ro 1 5 (.cpxs .f32 u v)] := rfl
theorem puS5tffftfffff (x y u v : Nat → Nat) (hw : lwS 5 x y u v = [true, false, false, false, true, false, false, false, false, false]) (hk : (lSolve 5 x y u v [true, false, false, false, true, false, false, false, false, false]).1 = true) : PureCall Try.prog 47 [.ro 1 25 (.cpxs .f32 x y), .ro 1 5 (.cpxs .f32 u v)] (.tup [.ro 1 5 (.cpxs .f32 (qX5 x y u v) (qY5 x y u v)), .bool true]) := by
  have hp := walk_pure (eqS5tffftfffff x y u v) (walkT5tffftfffff x y u v) hk
  have hv := valT5tffftfffff x y u v
  have q0 := Prod.mk.inj hv
  have e : wSel5 (lwS 5 x y u v) x y u v = wS5tffftfffff x y u v := by rw [hw]; rfl
  refine fit_pure hp (lt_s ⟨q0.1.trans (sX_of hw 0).symm, q0.2.trans (sY_of hw 0).symm⟩ fun j => ?_)
  constructor
  · show pX (wS5tffftfffff x y u v) (j + 1) = pX (wSel5 (lwS 5 x y u v) x y u v) (j + 1)
    rw [e]
  · show pY (wS5tffftfffff x y u v) (j + 1) = pY (wSel5 (lwS 5 x y u v) x y u v) (j + 1)
    rw [e]
theorem eqS5ttffffffff (x y u v : Nat → Nat) : wS5ttffffffff x y u v = autoW cfgA4 own47 6 (fun _ => none) [false, true, true, true, true, true, false, true, true, true, true, true, true, true, true, false, true, false, false, false, true, true, true, true, true, false, true, true, true, true, true, false, true, true, true, true, true, false, true, true, true, true, true, false, true, true, true, true, false, true, false, true, false, false, false, true, true, true, true, false, true, true, true, true, false, true, true, true, true, false, true, true, true, true, false, true, false, false, false, true, true, true, false, true, true, true, false, true, true, true, true, false, false, false, true, true, false, true, true, true, false, false, false, true, false, true, true, false, true, true, true, false, true, true, true, true, false, true, true, true, true, true, false, false] Try.f47 [.ro 1 25 (.cpxs .f32 x y), .ro 1 5 (.cpxs .f32 u v)] := rfl
theorem puS5ttffffffff (x y u v : Nat → Nat) (hw : lwS 5 x y u v = [true, true, false, false, false, false, false, false, false, false]) (hk : (lSolve 5 x y u v [true, true, false, false, false, false, false, false, false, false]).1 = true) : PureCall Try.prog 47 [.ro 1 25 (.cpxs .f32 x y), .ro 1 5 (.cpxs .f32 u v)] (.tup [.ro 1 5 (.cpxs .f32 (qX5 x y u v) (qY5 x y u v)), .bool true]) := by
  have hp := walk_pure (eqS5ttffffffff x y u v) (walkT5ttffffffff x y u v) hk
  have hv := valT5ttffffffff x y u v
  have q0 := Prod.mk.inj hv
  have e : wSel5 (lwS 5 x y u v) x y u v = wS5ttffffffff x y u v := by rw [hw]; rfl
  refine fit_pure hp (lt_s ⟨q0.1.trans (sX_of hw 0).symm, q0.2.trans (sY_of hw 0).symm⟩ fun j => ?_)
  constructor
  · show pX (wS5ttffffffff x y u v) (j + 1) = pX (wSel5 (lwS 5 x y u v) x y u v) (j + 1)
    rw [e]
  · show pY (wS5ttffffffff x y u v) (j + 1) = pY (wSel5 (lwS 5 x y u v) x y u v) (j + 1)
    rw [e]
theorem eqS5ttfftfffff (x y u v : Nat → Nat) : wS5ttfftfffff x y u v = autoW cfgA4 own47 6 (fun _ => none) [false, true, true, true, true, true, false, true, true, true, true, true, true, true, true, false, true, false, false, false, true, true, true, true, true, false, true, true, true, true, true, false, true, true, true, true, true, false, true, true, true, true, true, false, true, true, true, true, true, true, false, true, false, false, false, true, true, true, true, false, true, true, true, true, false, true, true, true, true, false, true, true, true, true, false, true, false, false, false, true, true, true, false, true, true, true, false, true, true, true, true, false, false, false, true, true, false, true, true, true, false, false, false, true, false, true, true, false, true, true, true, false, true, true, true, true, false, true, true, true, true, true, false, false] Try.f47 [.ro 1 25 (.cpxs .f32 x y), .ro 1 5 (.cpxs .f32 u v)] := rfl
theorem puS5ttfftfffff (x y u v : Nat → Nat) (hw : lwS 5 x y u v = [true, true, false, false, true, false, false, false, false, false]) (hk : (lSolve 5 x y u v [true, true, false, false, true, false, false, false, false, false]).1 = true) : PureCall Try.prog 47 [.ro 1 25 (.cpxs .f32 x y), .ro 1 5 (.cpxs .f32 u v)] (.tup [.ro 1 5 (.cpxs .f32 (qX5 x y u v) (qY5 x y u v)), .bool true]) := by
  have hp := walk_pure (eqS5ttfftfffff x y u v) (walkT5ttfftfffff x y u v) hk
  have hv := valT5ttfftfffff x y u v
  have q0 := Prod.mk.inj hv
  have e : wSel5 (lwS 5 x y u v) x y u v = wS5ttfftfffff x y u v := by rw [hw]; rfl
  refine fit_pure hp (lt_s ⟨q0.1.trans (sX_of hw 0).symm, q0.2.trans (sY_of hw 0).symm⟩ fun j => ?_)
  constructor
  · show pX (wS5ttfftfffff x y u v) (j + 1) = pX (wSel5 (lwS 5 x y u v) x y u v) (j + 1)
    rw [e]
  · show pY (wS5ttfftfffff x y u v) (j + 1) = pY (wSel5 (lwS 5 x y u v) x y u v) (j + 1)
    rw [e]
theorem pure47_5 (x y u v : Nat → Nat) (h : (wayOk 5 (lwS 5 x y u v) && lOk 5 x y u v) = true) : PureCall Try.prog 47 [.ro 1 25 (.cpxs .f32 x y), .ro 1 5 (.cpxs .f32 u v)] (.tup [.ro 1 5 (.cpxs .f32 (qX5 x y u v) (qY5 x y u v)), .bool true]) := by
  rw [Bool.and_eq_true] at h
  obtain ⟨h1, h2⟩ := h
  unfold lOk at h2
  generalize hw : lwS 5 x y u v = ws at h1 h2
  unfold wayOk at h1
  split at h1
  · exact absurd (by assumption : (5 : Nat) = 1) (by decide)
  · exact absurd (by assumption : (5 : Nat) = 2) (by decide)
  · exact absurd (by assumption : (5 : Nat) = 3) (by decide)
  · exact absurd (by assumption : (5 : Nat) = 4) (by decide)
  · rename_i a0 a1 a2 _
    cases a0
    · cases a1
      · cases a2
        · exact puS5ffffffffff x y u v hw h2
        · exact puS5fffftfffff x y u v hw h2
      · cases a2
        · exact puS5ftffffffff x y u v hw h2
        · exact puS5ftfftfffff x y u v hw h2
    · cases a1
      · cases a2
        · exact puS5tfffffffff x y u v hw h2
        · exact puS5tffftfffff x y u v hw h2
      · cases a2
        · exact puS5ttffffffff x y u v hw h2
        · exact puS5ttfftfffff x y u v hw h2
  · cases h1
theorem sSolve5_at : EnvAt Try.prog 47 sSolve5 := by
  refine ⟨⟨Try.f47, Try.func47, by kernel_rfl, by kernel_rfl⟩, fun ds cc rr h hc => ?_⟩
  unfold sSolve5 at h
  split at h
  · rename_i m x y n u v
    split at h
    · simp only [Option.some.injEq, Prod.mk.injEq] at h
      obtain ⟨rfl, rfl⟩ := h
      exact pure47_1 x y u v hc
    · simp only [Option.some.injEq, Prod.mk.injEq] at h
      obtain ⟨rfl, rfl⟩ := h
      exact pure47_2 x y u v hc
    · simp only [Option.some.injEq, Prod.mk.injEq] at h
      obtain ⟨rfl, rfl⟩ := h
      exact pure47_3 x y u v hc
    · simp only [Option.some.injEq, Prod.mk.injEq] at h
      obtain ⟨rfl, rfl⟩ := h
      exact pure47_4 x y u v hc
    · simp only [Option.some.injEq, Prod.mk.injEq] at h
      obtain ⟨rfl, rfl⟩ := h
      exact pure47_5 x y u v hc
    · cases h
  · cases h
end Go.Fw.T1

/-
  Currents and ports' impedances of circuits of up to five loops.
-/
namespace Go.Fw.T1
open Go.Proofs
noncomputable def envW1 : List (Nat × (List A → Option (Bool × A))) := (47, sSolve5) :: (20, s35T) :: (46, s72) :: (13, s44T) :: envA4
theorem envW1_ok : EnvOK Try.prog (look envW1) := env_cons sSolve5_at (env_cons s35T_at (env_cons s72_at (env_cons s44T_at envA4_ok)))
noncomputable def cfgW1 : Cfg := mkCfg tab [] xts (look envW1)
theorem cfgW1_ok : CfgOK Try.prog cfgW1 := cfg_ok tab_eq (no_fts _) xts_ok envW1_ok mixed
def curOk (n : Nat) (r g c : Nat → Nat) (w : Nat) (u v : Nat → Nat) : Bool := wayOk n (lwS n (zR n r) (zI n g c w) u v) && lOk n (zR n r) (zI n g c w) u v
def cuX (n : Nat) (r g c : Nat → Nat) (w : Nat) (u v : Nat → Nat) (j : Nat) : Nat := sX n (zR n r) (zI n g c w) u v j
def cuY (n : Nat) (r g c : Nat → Nat) (w : Nat) (u v : Nat → Nat) (j : Nat) : Nat := sY n (zR n r) (zI n g c w) u v j
def poOk (n : Nat) (r g c : Nat → Nat) (w : Nat) : Bool := curOk n r g c w eU eV && ovOk (can .f32 1065353216) (can .f32 0) (cuX n r g c w eU eV 0) (cuY n r g c w eU eV 0)
def poR (n : Nat) (r g c : Nat → Nat) (w : Nat) : Nat := ovR (can .f32 1065353216) (can .f32 0) (cuX n r g c w eU eV 0) (cuY n r g c w eU eV 0)
def poI (n : Nat) (r g c : Nat → Nat) (w : Nat) : Nat := ovI (can .f32 1065353216) (can .f32 0) (cuX n r g c w eU eV 0) (cuY n r g c w eU eV 0)
noncomputable def sCurr5 : List A → Option (Bool × A)
  | [.agg [.ro 1 n (.flts .f32 r), .ro 1 gn (.flts .f32 g), .ro 1 cn (.flts .f32 c)], .ro 1 m (.cpxs .f32 u v), .flt .f32 w] => match n, gn, cn, m with
    | 1, 1, 1, 1 => some (impOk 1 1 1 r g c w && curOk 1 r g c w u v, .tup [.ro 1 1 (.cpxs .f32 (cuX 1 r g c w u v) (cuY 1 r g c w u v)), .bool true])
    | 2, 2, 4, 2 => some (impOk 2 2 4 r g c w && curOk 2 r g c w u v, .tup [.ro 1 2 (.cpxs .f32 (cuX 2 r g c w u v) (cuY 2 r g c w u v)), .bool true])
    | 3, 3, 9, 3 => some (impOk 3 3 9 r g c w && curOk 3 r g c w u v, .tup [.ro 1 3 (.cpxs .f32 (cuX 3 r g c w u v) (cuY 3 r g c w u v)), .bool true])
    | 4, 4, 16, 4 => some (impOk 4 4 16 r g c w && curOk 4 r g c w u v, .tup [.ro 1 4 (.cpxs .f32 (qX4 (zR 4 r) (zI 4 g c w) u v) (qY4 (zR 4 r) (zI 4 g c w) u v)), .bool true])
    | 5, 5, 25, 5 => some (impOk 5 5 25 r g c w && curOk 5 r g c w u v, .tup [.ro 1 5 (.cpxs .f32 (qX5 (zR 5 r) (zI 5 g c w) u v) (qY5 (zR 5 r) (zI 5 g c w) u v)), .bool true])
    | _, _, _, _ => none
  | _ => none
theorem walkCu1 (r g c u v : Nat → Nat) (w : Nat) : autoW cfgW1 (fun _ => true) 6 (fun _ => none) [false] Try.f21 [.agg [.ro 1 1 (.flts .f32 r), .ro 1 1 (.flts .f32 g), .ro 1 1 (.flts .f32 c)], .ro 1 1 (.cpxs .f32 u v), .flt .f32 w] =
    some ((!bif bif !valid 1 1 1 r g c then true else false then true else !above w) && (curOk 1 r g c w u v && true), .tup [.ro 1 1 (.cpxs .f32 (cuX 1 r g c w u v) (cuY 1 r g c w u v)), .bool true]) := by kernel_rfl
theorem walkCu2 (r g c u v : Nat → Nat) (w : Nat) : autoW cfgW1 (fun _ => true) 6 (fun _ => none) [false] Try.f21 [.agg [.ro 1 2 (.flts .f32 r), .ro 1 2 (.flts .f32 g), .ro 1 4 (.flts .f32 c)], .ro 1 2 (.cpxs .f32 u v), .flt .f32 w] =
    some ((!bif bif !valid 2 2 4 r g c then true else false then true else !above w) && (curOk 2 r g c w u v && true), .tup [.ro 1 2 (.cpxs .f32 (cuX 2 r g c w u v) (cuY 2 r g c w u v)), .bool true]) := by kernel_rfl
theorem walkCu3 (r g c u v : Nat → Nat) (w : Nat) : autoW cfgW1 (fun _ => true) 6 (fun _ => none) [false] Try.f21 [.agg [.ro 1 3 (.flts .f32 r), .ro 1 3 (.flts .f32 g), .ro 1 9 (.flts .f32 c)], .ro 1 3 (.cpxs .f32 u v), .flt .f32 w] =
    some ((!bif bif !valid 3 3 9 r g c then true else false then true else !above w) && (curOk 3 r g c w u v && true), .tup [.ro 1 3 (.cpxs .f32 (cuX 3 r g c w u v) (cuY 3 r g c w u v)), .bool true]) := by kernel_rfl
theorem walkCu4 (r g c u v : Nat → Nat) (w : Nat) : autoW cfgW1 (fun _ => true) 6 (fun _ => none) [false] Try.f21 [.agg [.ro 1 4 (.flts .f32 r), .ro 1 4 (.flts .f32 g), .ro 1 16 (.flts .f32 c)], .ro 1 4 (.cpxs .f32 u v), .flt .f32 w] =
    some ((!bif bif !valid 4 4 16 r g c then true else false then true else !above w) && (curOk 4 r g c w u v && true), .tup [.ro 1 4 (.cpxs .f32 (qX4 (zR 4 r) (zI 4 g c w) u v) (qY4 (zR 4 r) (zI 4 g c w) u v)), .bool true]) := by kernel_rfl
theorem walkCu5 (r g c u v : Nat → Nat) (w : Nat) : autoW cfgW1 (fun _ => true) 6 (fun _ => none) [false] Try.f21 [.agg [.ro 1 5 (.flts .f32 r), .ro 1 5 (.flts .f32 g), .ro 1 25 (.flts .f32 c)], .ro 1 5 (.cpxs .f32 u v), .flt .f32 w] =
    some ((!bif bif !valid 5 5 25 r g c then true else false then true else !above w) && (curOk 5 r g c w u v && true), .tup [.ro 1 5 (.cpxs .f32 (qX5 (zR 5 r) (zI 5 g c w) u v) (qY5 (zR 5 r) (zI 5 g c w) u v)), .bool true]) := by kernel_rfl
theorem sCurr5_at : EnvAt Try.prog 21 sCurr5 := by
  refine ⟨⟨Try.f21, Try.func21, by kernel_rfl, by kernel_rfl⟩, fun ds cc rr h hc => ?_⟩
  unfold sCurr5 at h
  split at h
  · rename_i n r gn g cn c m u v w
    split at h
    · simp only [Option.some.injEq, Prod.mk.injEq] at h
      obtain ⟨rfl, rfl⟩ := h
      simp only [Bool.and_eq_true] at hc
      exact autoW_ok cfgW1_ok Try.func21 (by kernel_rfl) (lp_none _) (walkCu1 r g c u v w) (by rw [imp_not hc.1, hc.2]; rfl)
    · simp only [Option.some.injEq, Prod.mk.injEq] at h
      obtain ⟨rfl, rfl⟩ := h
      simp only [Bool.and_eq_true] at hc
      exact autoW_ok cfgW1_ok Try.func21 (by kernel_rfl) (lp_none _) (walkCu2 r g c u v w) (by rw [imp_not hc.1, hc.2]; rfl)
    · simp only [Option.some.injEq, Prod.mk.injEq] at h
      obtain ⟨rfl, rfl⟩ := h
      simp only [Bool.and_eq_true] at hc
      exact autoW_ok cfgW1_ok Try.func21 (by kernel_rfl) (lp_none _) (walkCu3 r g c u v w) (by rw [imp_not hc.1, hc.2]; rfl)
    · simp only [Option.some.injEq, Prod.mk.injEq] at h
      obtain ⟨rfl, rfl⟩ := h
      simp only [Bool.and_eq_true] at hc
      exact autoW_ok cfgW1_ok Try.func21 (by kernel_rfl) (lp_none _) (walkCu4 r g c u v w) (by rw [imp_not hc.1, hc.2]; rfl)
    · simp only [Option.some.injEq, Prod.mk.injEq] at h
      obtain ⟨rfl, rfl⟩ := h
      simp only [Bool.and_eq_true] at hc
      exact autoW_ok cfgW1_ok Try.func21 (by kernel_rfl) (lp_none _) (walkCu5 r g c u v w) (by rw [imp_not hc.1, hc.2]; rfl)
    · cases h
  · cases h
noncomputable def envW2 : List (Nat × (List A → Option (Bool × A))) := (21, sCurr5) :: envW1
theorem envW2_ok : EnvOK Try.prog (look envW2) := env_cons sCurr5_at envW1_ok
noncomputable def cfgW2 : Cfg := mkCfg tab [] xts (look envW2)
theorem cfgW2_ok : CfgOK Try.prog cfgW2 := cfg_ok tab_eq (no_fts _) xts_ok envW2_ok mixed
noncomputable def sPort5 : List A → Option (Bool × A)
  | [.agg [.ro 1 n (.flts .f32 r), .ro 1 gn (.flts .f32 g), .ro 1 cn (.flts .f32 c)], .int .i64 (.ofNat 0), .flt .f32 w] => match n, gn, cn with
    | 1, 1, 1 => some (impOk 1 1 1 r g c w && poOk 1 r g c w, .tup [.cpx .f32 (poR 1 r g c w) (poI 1 r g c w), .bool true])
    | 2, 2, 4 => some (impOk 2 2 4 r g c w && poOk 2 r g c w, .tup [.cpx .f32 (poR 2 r g c w) (poI 2 r g c w), .bool true])
    | 3, 3, 9 => some (impOk 3 3 9 r g c w && poOk 3 r g c w, .tup [.cpx .f32 (poR 3 r g c w) (poI 3 r g c w), .bool true])
    | 4, 4, 16 => some (impOk 4 4 16 r g c w && poOk 4 r g c w, .tup [.cpx .f32 (poR 4 r g c w) (poI 4 r g c w), .bool true])
    | 5, 5, 25 => some (impOk 5 5 25 r g c w && poOk 5 r g c w, .tup [.cpx .f32 (poR 5 r g c w) (poI 5 r g c w), .bool true])
    | _, _, _ => none
  | _ => none
theorem walkPo1 (r g c : Nat → Nat) (w : Nat) : autoW cfgW2 (fun _ => true) 6 (fun _ => none) [false, false] Try.f9 [.agg [.ro 1 1 (.flts .f32 r), .ro 1 1 (.flts .f32 g), .ro 1 1 (.flts .f32 c)], .int .i64 0, .flt .f32 w] =
    some ((!!bif valid 1 1 1 r g c then true else false) && ((impOk 1 1 1 r g c w && curOk 1 r g c w eU eV) && (ovOk (can .f32 1065353216) (can .f32 0) (cuX 1 r g c w eU eV 0) (cuY 1 r g c w eU eV 0) && true)), .tup [.cpx .f32 (poR 1 r g c w) (poI 1 r g c w), .bool true]) := by kernel_rfl
theorem walkPo2 (r g c : Nat → Nat) (w : Nat) : autoW cfgW2 (fun _ => true) 6 (fun _ => none) [false, false] Try.f9 [.agg [.ro 1 2 (.flts .f32 r), .ro 1 2 (.flts .f32 g), .ro 1 4 (.flts .f32 c)], .int .i64 0, .flt .f32 w] =
    some ((!!bif valid 2 2 4 r g c then true else false) && ((impOk 2 2 4 r g c w && curOk 2 r g c w eU eV) && (ovOk (can .f32 1065353216) (can .f32 0) (cuX 2 r g c w eU eV 0) (cuY 2 r g c w eU eV 0) && true)), .tup [.cpx .f32 (poR 2 r g c w) (poI 2 r g c w), .bool true]) := by kernel_rfl
theorem walkPo3 (r g c : Nat → Nat) (w : Nat) : autoW cfgW2 (fun _ => true) 6 (fun _ => none) [false, false] Try.f9 [.agg [.ro 1 3 (.flts .f32 r), .ro 1 3 (.flts .f32 g), .ro 1 9 (.flts .f32 c)], .int .i64 0, .flt .f32 w] =
    some ((!!bif valid 3 3 9 r g c then true else false) && ((impOk 3 3 9 r g c w && curOk 3 r g c w eU eV) && (ovOk (can .f32 1065353216) (can .f32 0) (cuX 3 r g c w eU eV 0) (cuY 3 r g c w eU eV 0) && true)), .tup [.cpx .f32 (poR 3 r g c w) (poI 3 r g c w), .bool true]) := by kernel_rfl
theorem walkPo4 (r g c : Nat → Nat) (w : Nat) : autoW cfgW2 (fun _ => true) 6 (fun _ => none) [false, false] Try.f9 [.agg [.ro 1 4 (.flts .f32 r), .ro 1 4 (.flts .f32 g), .ro 1 16 (.flts .f32 c)], .int .i64 0, .flt .f32 w] =
    some ((!!bif valid 4 4 16 r g c then true else false) && ((impOk 4 4 16 r g c w && curOk 4 r g c w eU eV) && (ovOk (can .f32 1065353216) (can .f32 0) (cuX 4 r g c w eU eV 0) (cuY 4 r g c w eU eV 0) && true)), .tup [.cpx .f32 (poR 4 r g c w) (poI 4 r g c w), .bool true]) := by kernel_rfl
theorem walkPo5 (r g c : Nat → Nat) (w : Nat) : autoW cfgW2 (fun _ => true) 6 (fun _ => none) [false, false] Try.f9 [.agg [.ro 1 5 (.flts .f32 r), .ro 1 5 (.flts .f32 g), .ro 1 25 (.flts .f32 c)], .int .i64 0, .flt .f32 w] =
    some ((!!bif valid 5 5 25 r g c then true else false) && ((impOk 5 5 25 r g c w && curOk 5 r g c w eU eV) && (ovOk (can .f32 1065353216) (can .f32 0) (cuX 5 r g c w eU eV 0) (cuY 5 r g c w eU eV 0) && true)), .tup [.cpx .f32 (poR 5 r g c w) (poI 5 r g c w), .bool true]) := by kernel_rfl
theorem sPort5_at : EnvAt Try.prog 9 sPort5 := by
  refine ⟨⟨Try.f9, Try.func9, by kernel_rfl, by kernel_rfl⟩, fun ds cc rr h hc => ?_⟩
  unfold sPort5 at h
  split at h
  · rename_i n r gn g cn c w
    split at h
    · simp only [Option.some.injEq, Prod.mk.injEq] at h
      obtain ⟨rfl, rfl⟩ := h
      exact autoW_ok cfgW2_ok Try.func9 (by kernel_rfl) (lp_none _) (walkPo1 r g c w) (port_and hc)
    · simp only [Option.some.injEq, Prod.mk.injEq] at h
      obtain ⟨rfl, rfl⟩ := h
      exact autoW_ok cfgW2_ok Try.func9 (by kernel_rfl) (lp_none _) (walkPo2 r g c w) (port_and hc)
    · simp only [Option.some.injEq, Prod.mk.injEq] at h
      obtain ⟨rfl, rfl⟩ := h
      exact autoW_ok cfgW2_ok Try.func9 (by kernel_rfl) (lp_none _) (walkPo3 r g c w) (port_and hc)
    · simp only [Option.some.injEq, Prod.mk.injEq] at h
      obtain ⟨rfl, rfl⟩ := h
      exact autoW_ok cfgW2_ok Try.func9 (by kernel_rfl) (lp_none _) (walkPo4 r g c w) (port_and hc)
    · simp only [Option.some.injEq, Prod.mk.injEq] at h
      obtain ⟨rfl, rfl⟩ := h
      exact autoW_ok cfgW2_ok Try.func9 (by kernel_rfl) (lp_none _) (walkPo5 r g c w) (port_and hc)
    · cases h
  · cases h
noncomputable def envW3 : List (Nat × (List A → Option (Bool × A))) := (9, sPort5) :: envW2
theorem envW3_ok : EnvOK Try.prog (look envW3) := env_cons sPort5_at envW2_ok
end Go.Fw.T1

/-
  Matrices times currents, losses, powers, what is stored: for up to three loops.
-/
namespace Go.Fw.T1
open Go.Proofs
def bothW (p q : C) : Nat := fop .add .f32 (fop .mul .f32 p.1 q.1) (fop .mul .f32 p.2 q.2)
noncomputable def sBoth : List A → Option (Bool × A)
  | [.cpx .f32 a b, .cpx .f32 c d] => some (true, .flt .f32 (bothW (a, b) (c, d)))
  | _ => none
theorem sBoth_at : EnvAt Try.prog 51 sBoth := of_auto cfgA4_ok (lp_none _) Try.func51 (by kernel_rfl) (by kernel_rfl) fun ds cc rr h hc => by
  unfold sBoth at h
  split at h
  · rename_i a b c d
    simp only [Option.some.injEq, Prod.mk.injEq] at h
    obtain ⟨rfl, rfl⟩ := h
    exact ⟨true, by kernel_rfl, rfl⟩
  · cases h
noncomputable def envW4 : List (Nat × (List A → Option (Bool × A))) := (51, sBoth) :: envW3
theorem envW4_ok : EnvOK Try.prog (look envW4) := env_cons sBoth_at envW3_ok
noncomputable def cfgW4 : Cfg := mkCfg tab [] xts (look envW4)
theorem cfgW4_ok : CfgOK Try.prog cfgW4 := cfg_ok tab_eq (no_fts _) xts_ok envW4_ok mixed
def cpl (p q : C) : C := (fop .add .f32 p.1 q.1, fop .add .f32 p.2 q.2)
def tmvG (n : Nat) (x y u v : Nat → Nat) (r : Nat) : List Nat → C → C
  | [], s => s
  | c :: cs, s => tmvG n x y u v r cs (cpl s (ctm (x (r * n + c), y (r * n + c)) (u c, v c)))
def tmv (n : Nat) (x y u v : Nat → Nat) (r : Nat) : C := tmvG n x y u v r (List.range n) (0, 0)
def tmX (n : Nat) (x y u v : Nat → Nat) (r : Nat) : Nat := (tmv n x y u v r).1
def tmY (n : Nat) (x y u v : Nat → Nat) (r : Nat) : Nat := (tmv n x y u v r).2
def tmO (n : Nat) (x y u v : Nat → Nat) : List (Nat × Nat) → Bool
  | [] => true
  | p :: l => nd (ctmOk (x (p.1 * n + p.2), y (p.1 * n + p.2)) (u p.2, v p.2) && true) (tmO n x y u v l)
def prs (n : Nat) : List (Nat × Nat) := (List.range n).flatMap fun r => (List.range n).map fun c => (r, c)
def tmAll (n : Nat) (x y u v : Nat → Nat) : Bool := tmO n x y u v (prs n)
def lossG (r u v : Nat → Nat) : List Nat → Nat → Nat
  | [], s => s
  | i :: l, s => lossG r u v l (fop .add .f32 s (fop .mul .f32 (fop .mul .f32 (can .f32 1056964608) (r i)) (cpw (u i, v i))))
def loss (n : Nat) (r u v : Nat → Nat) : Nat := lossG r u v (List.range n) (can .f32 0)
def lossO (u v : Nat → Nat) : List Nat → Bool
  | [] => true
  | i :: l => nd (cpwOk (u i, v i) && true) (lossO u v l)
def givG (x y u v : Nat → Nat) : List Nat → Nat → Nat
  | [], s => s
  | i :: l, s => givG x y u v l (fop .add .f32 s (fop .mul .f32 (can .f32 1056964608) (bothW (x i, y i) (u i, v i))))
def giv (n : Nat) (x y u v : Nat → Nat) : Nat := givG x y u v (List.range n) (can .f32 0)
def stoG (n : Nat) (c u v : Nat → Nat) : List (Nat × Nat) → Nat → Nat
  | [], s => s
  | p :: l, s => stoG n c u v l (fop .add .f32 s (fop .mul .f32 (fop .mul .f32 (can .f32 1048576000) (c (p.1 * n + p.2))) (bothW (u p.1, v p.1) (u p.2, v p.2))))
def sto (n : Nat) (c u v : Nat → Nat) : Nat := stoG n c u v (prs n) (can .f32 0)
noncomputable def wTM1 (x y u v : Nat → Nat) : Option (Bool × A) := autoW cfgW4 (fun _ => true) 2 (fun _ => none) [false, true, true, false, false] Try.f22 [.ro 1 1 (.cpxs .f32 x y), .ro 1 1 (.cpxs .f32 u v)]
theorem eqTM1 (x y u v : Nat → Nat) : wTM1 x y u v = autoW cfgW4 (fun _ => true) 2 (fun _ => none) [false, true, true, false, false] Try.f22 [.ro 1 1 (.cpxs .f32 x y), .ro 1 1 (.cpxs .f32 u v)] := rfl
theorem walkTM1 (x y u v : Nat → Nat) : wTM1 x y u v = some (tmAll 1 x y u v, .tup [.ro 1 1 (.cpxs .f32 (pX (wTM1 x y u v)) (pY (wTM1 x y u v))), .bool true]) := by kernel_rfl
theorem valTM1 (x y u v : Nat → Nat) : (pX (wTM1 x y u v) 0, pY (wTM1 x y u v) 0) = (tmX 1 x y u v 0, tmY 1 x y u v 0) := by kernel_rfl
theorem walkLo1 (r g c u v : Nat → Nat) : autoW cfgW4 (fun _ => true) 2 (fun _ => none) [false, true, false] Try.f23 [.agg [.ro 1 1 (.flts .f32 r), .ro 1 1 (.flts .f32 g), .ro 1 1 (.flts .f32 c)], .ro 1 1 (.cpxs .f32 u v)] = some (nd (!bif !valid 1 1 1 r g c then true else false) (lossO u v (List.range 1)), .tup [.flt .f32 (loss 1 r u v), .bool true]) := by kernel_rfl
theorem walkGi1 (x y u v : Nat → Nat) : autoW cfgW4 (fun _ => true) 2 (fun _ => none) [false, true, false] Try.f24 [.ro 1 1 (.cpxs .f32 x y), .ro 1 1 (.cpxs .f32 u v)] = some (true, .tup [.flt .f32 (giv 1 x y u v), .bool true]) := by kernel_rfl
theorem walkSt1 (r g c u v : Nat → Nat) : autoW cfgW4 (fun _ => true) 2 (fun _ => none) [false, true, true, false, false] Try.f25 [.agg [.ro 1 1 (.flts .f32 r), .ro 1 1 (.flts .f32 g), .ro 1 1 (.flts .f32 c)], .ro 1 1 (.cpxs .f32 u v)] = some (nd (!bif !valid 1 1 1 r g c then true else false) true, .tup [.flt .f32 (sto 1 c u v), .bool true]) := by kernel_rfl
noncomputable def wTM2 (x y u v : Nat → Nat) : Option (Bool × A) := autoW cfgW4 (fun _ => true) 3 (fun _ => none) [false, true, true, true, false, true, true, true, false, false] Try.f22 [.ro 1 4 (.cpxs .f32 x y), .ro 1 2 (.cpxs .f32 u v)]
theorem eqTM2 (x y u v : Nat → Nat) : wTM2 x y u v = autoW cfgW4 (fun _ => true) 3 (fun _ => none) [false, true, true, true, false, true, true, true, false, false] Try.f22 [.ro 1 4 (.cpxs .f32 x y), .ro 1 2 (.cpxs .f32 u v)] := rfl
theorem walkTM2 (x y u v : Nat → Nat) : wTM2 x y u v = some (tmAll 2 x y u v, .tup [.ro 1 2 (.cpxs .f32 (pX (wTM2 x y u v)) (pY (wTM2 x y u v))), .bool true]) := by kernel_rfl
theorem valTM2 (x y u v : Nat → Nat) : (pX (wTM2 x y u v) 0, pY (wTM2 x y u v) 0, pX (wTM2 x y u v) 1, pY (wTM2 x y u v) 1) = (tmX 2 x y u v 0, tmY 2 x y u v 0, tmX 2 x y u v 1, tmY 2 x y u v 1) := by kernel_rfl
theorem walkLo2 (r g c u v : Nat → Nat) : autoW cfgW4 (fun _ => true) 3 (fun _ => none) [false, true, true, false] Try.f23 [.agg [.ro 1 2 (.flts .f32 r), .ro 1 2 (.flts .f32 g), .ro 1 4 (.flts .f32 c)], .ro 1 2 (.cpxs .f32 u v)] = some (nd (!bif !valid 2 2 4 r g c then true else false) (lossO u v (List.range 2)), .tup [.flt .f32 (loss 2 r u v), .bool true]) := by kernel_rfl
theorem walkGi2 (x y u v : Nat → Nat) : autoW cfgW4 (fun _ => true) 3 (fun _ => none) [false, true, true, false] Try.f24 [.ro 1 2 (.cpxs .f32 x y), .ro 1 2 (.cpxs .f32 u v)] = some (true, .tup [.flt .f32 (giv 2 x y u v), .bool true]) := by kernel_rfl
theorem walkSt2 (r g c u v : Nat → Nat) : autoW cfgW4 (fun _ => true) 3 (fun _ => none) [false, true, true, true, false, true, true, true, false, false] Try.f25 [.agg [.ro 1 2 (.flts .f32 r), .ro 1 2 (.flts .f32 g), .ro 1 4 (.flts .f32 c)], .ro 1 2 (.cpxs .f32 u v)] = some (nd (!bif !valid 2 2 4 r g c then true else false) true, .tup [.flt .f32 (sto 2 c u v), .bool true]) := by kernel_rfl
noncomputable def wTM3 (x y u v : Nat → Nat) : Option (Bool × A) := autoW cfgW4 (fun _ => true) 4 (fun _ => none) [false, true, true, true, true, false, true, true, true, true, false, true, true, true, true, false, false] Try.f22 [.ro 1 9 (.cpxs .f32 x y), .ro 1 3 (.cpxs .f32 u v)]
theorem eqTM3 (x y u v : Nat → Nat) : wTM3 x y u v = autoW cfgW4 (fun _ => true) 4 (fun _ => none) [false, true, true, true, true, false, true, true, true, true, false, true, true, true, true, false, false] Try.f22 [.ro 1 9 (.cpxs .f32 x y), .ro 1 3 (.cpxs .f32 u v)] := rfl
theorem walkTM3 (x y u v : Nat → Nat) : wTM3 x y u v = some (tmAll 3 x y u v, .tup [.ro 1 3 (.cpxs .f32 (pX (wTM3 x y u v)) (pY (wTM3 x y u v))), .bool true]) := by kernel_rfl
theorem valTM3 (x y u v : Nat → Nat) : (pX (wTM3 x y u v) 0, pY (wTM3 x y u v) 0, pX (wTM3 x y u v) 1, pY (wTM3 x y u v) 1, pX (wTM3 x y u v) 2, pY (wTM3 x y u v) 2) = (tmX 3 x y u v 0, tmY 3 x y u v 0, tmX 3 x y u v 1, tmY 3 x y u v 1, tmX 3 x y u v 2, tmY 3 x y u v 2) := by kernel_rfl
theorem walkLo3 (r g c u v : Nat → Nat) : autoW cfgW4 (fun _ => true) 4 (fun _ => none) [false, true, true, true, false] Try.f23 [.agg [.ro 1 3 (.flts .f32 r), .ro 1 3 (.flts .f32 g), .ro 1 9 (.flts .f32 c)], .ro 1 3 (.cpxs .f32 u v)] = some (nd (!bif !valid 3 3 9 r g c then true else false) (lossO u v (List.range 3)), .tup [.flt .f32 (loss 3 r u v), .bool true]) := by kernel_rfl
theorem walkGi3 (x y u v : Nat → Nat) : autoW cfgW4 (fun _ => true) 4 (fun _ => none) [false, true, true, true, false] Try.f24 [.ro 1 3 (.cpxs .f32 x y), .ro 1 3 (.cpxs .f32 u v)] = some (true, .tup [.flt .f32 (giv 3 x y u v), .bool true]) := by kernel_rfl
theorem walkSt3 (r g c u v : Nat → Nat) : autoW cfgW4 (fun _ => true) 4 (fun _ => none) [false, true, true, true, true, false, true, true, true, true, false, true, true, true, true, false, false] Try.f25 [.agg [.ro 1 3 (.flts .f32 r), .ro 1 3 (.flts .f32 g), .ro 1 9 (.flts .f32 c)], .ro 1 3 (.cpxs .f32 u v)] = some (nd (!bif !valid 3 3 9 r g c then true else false) true, .tup [.flt .f32 (sto 3 c u v), .bool true]) := by kernel_rfl
theorem walk_pure4 {f un : Nat} {fn : Func} {W : Option (Bool × A)} {c : Bool} {way : List Bool} {ds : List A} {r : A} (hf : Try.prog.funcs[f]? = some fn) (hb : fn.body.isSome = true) (hA : W = autoW cfgW4 (fun _ => true) un (fun _ => none) way fn ds) (hW : W = some (c, r)) (hc : c = true) : PureCall Try.prog f ds r :=
  autoW_ok cfgW4_ok hf hb (lp_none _) (hA.symm.trans hW) hc
theorem fit_pure4 {f n : Nat} {W : Option (Bool × A)} {X Y : Nat → Nat} {ds : List A} (h : PureCall Try.prog f ds (.tup [.ro 1 n (.cpxs .f32 (pX W) (pY W)), .bool true])) (he : ∀ i, i < n → pX W i = X i ∧ pY W i = Y i) : PureCall Try.prog f ds (.tup [.ro 1 n (.cpxs .f32 X Y), .bool true]) :=
  h.roT_congr fun i hi => by
    have := he i hi
    show A.cpx .f32 (pX W i) (pY W i) = A.cpx .f32 (X i) (Y i)
    rw [this.1, this.2]
theorem nv_ok {a : Bool} (h : a = true) : (!bif !a then true else false) = true := by rw [h]; rfl
noncomputable def sTM : List A → Option (Bool × A)
  | [.ro 1 m (.cpxs .f32 x y), .ro 1 n (.cpxs .f32 u v)] => match m, n with
    | 1, 1 => some (tmAll 1 x y u v, .tup [.ro 1 1 (.cpxs .f32 (tmX 1 x y u v) (tmY 1 x y u v)), .bool true])
    | 4, 2 => some (tmAll 2 x y u v, .tup [.ro 1 2 (.cpxs .f32 (tmX 2 x y u v) (tmY 2 x y u v)), .bool true])
    | 9, 3 => some (tmAll 3 x y u v, .tup [.ro 1 3 (.cpxs .f32 (tmX 3 x y u v) (tmY 3 x y u v)), .bool true])
    | _, _ => none
  | _ => none
theorem sTM_at : EnvAt Try.prog 22 sTM := by
  refine ⟨⟨Try.f22, Try.func22, by kernel_rfl, by kernel_rfl⟩, fun ds cc rr h hc => ?_⟩
  unfold sTM at h
  split at h
  · rename_i m x y n u v
    split at h
    · simp only [Option.some.injEq, Prod.mk.injEq] at h
      obtain ⟨rfl, rfl⟩ := h
      have hp := walk_pure4 Try.func22 (by kernel_rfl) (eqTM1 x y u v) (walkTM1 x y u v) hc
      have hv := valTM1 x y u v
      have q0 := Prod.mk.inj hv
      exact fit_pure4 hp (lt_1 ⟨q0.1, q0.2⟩)
    · simp only [Option.some.injEq, Prod.mk.injEq] at h
      obtain ⟨rfl, rfl⟩ := h
      have hp := walk_pure4 Try.func22 (by kernel_rfl) (eqTM2 x y u v) (walkTM2 x y u v) hc
      have hv := valTM2 x y u v
      have q0 := Prod.mk.inj hv
      have q1 := Prod.mk.inj q0.2
      have q2 := Prod.mk.inj q1.2
      exact fit_pure4 hp (lt_2 ⟨q0.1, q1.1⟩ ⟨q2.1, q2.2⟩)
    · simp only [Option.some.injEq, Prod.mk.injEq] at h
      obtain ⟨rfl, rfl⟩ := h
      have hp := walk_pure4 Try.func22 (by kernel_rfl) (eqTM3 x y u v) (walkTM3 x y u v) hc
      have hv := valTM3 x y u v
      have q0 := Prod.mk.inj hv
      have q1 := Prod.mk.inj q0.2
      have q2 := Prod.mk.inj q1.2
      have q3 := Prod.mk.inj q2.2
      have q4 := Prod.mk.inj q3.2
      exact fit_pure4 hp (lt_3 ⟨q0.1, q1.1⟩ ⟨q2.1, q3.1⟩ ⟨q4.1, q4.2⟩)
    · cases h
  · cases h
noncomputable def sLo : List A → Option (Bool × A)
  | [.agg [.ro 1 n (.flts .f32 r), .ro 1 gn (.flts .f32 g), .ro 1 cn (.flts .f32 c)], .ro 1 m (.cpxs .f32 u v)] => match n, gn, cn, m with
    | 1, 1, 1, 1 => some (valid 1 1 1 r g c && lossO u v (List.range 1), .tup [.flt .f32 (loss 1 r u v), .bool true])
    | 2, 2, 4, 2 => some (valid 2 2 4 r g c && lossO u v (List.range 2), .tup [.flt .f32 (loss 2 r u v), .bool true])
    | 3, 3, 9, 3 => some (valid 3 3 9 r g c && lossO u v (List.range 3), .tup [.flt .f32 (loss 3 r u v), .bool true])
    | _, _, _, _ => none
  | _ => none
theorem sLo_at : EnvAt Try.prog 23 sLo := by
  refine ⟨⟨Try.f23, Try.func23, by kernel_rfl, by kernel_rfl⟩, fun ds cc rr h hc => ?_⟩
  unfold sLo at h
  split at h
  · rename_i n r gn g cn c m u v
    split at h
    · simp only [Option.some.injEq, Prod.mk.injEq] at h
      obtain ⟨rfl, rfl⟩ := h
      rw [Bool.and_eq_true] at hc
      exact autoW_ok cfgW4_ok Try.func23 (by kernel_rfl) (lp_none _) (walkLo1 r g c u v) (by rw [nv_ok hc.1, hc.2]; rfl)
    · simp only [Option.some.injEq, Prod.mk.injEq] at h
      obtain ⟨rfl, rfl⟩ := h
      rw [Bool.and_eq_true] at hc
      exact autoW_ok cfgW4_ok Try.func23 (by kernel_rfl) (lp_none _) (walkLo2 r g c u v) (by rw [nv_ok hc.1, hc.2]; rfl)
    · simp only [Option.some.injEq, Prod.mk.injEq] at h
      obtain ⟨rfl, rfl⟩ := h
      rw [Bool.and_eq_true] at hc
      exact autoW_ok cfgW4_ok Try.func23 (by kernel_rfl) (lp_none _) (walkLo3 r g c u v) (by rw [nv_ok hc.1, hc.2]; rfl)
    · cases h
  · cases h
noncomputable def sGi : List A → Option (Bool × A)
  | [.ro 1 m (.cpxs .f32 x y), .ro 1 n (.cpxs .f32 u v)] => match m, n with
    | 1, 1 => some (true, .tup [.flt .f32 (giv 1 x y u v), .bool true])
    | 2, 2 => some (true, .tup [.flt .f32 (giv 2 x y u v), .bool true])
    | 3, 3 => some (true, .tup [.flt .f32 (giv 3 x y u v), .bool true])
    | _, _ => none
  | _ => none
theorem sGi_at : EnvAt Try.prog 24 sGi := by
  refine ⟨⟨Try.f24, Try.func24, by kernel_rfl, by kernel_rfl⟩, fun ds cc rr h hc => ?_⟩
  unfold sGi at h
  split at h
  · rename_i m x y n u v
    split at h
    · simp only [Option.some.injEq, Prod.mk.injEq] at h
      obtain ⟨rfl, rfl⟩ := h
      exact autoW_ok cfgW4_ok Try.func24 (by kernel_rfl) (lp_none _) (walkGi1 x y u v) rfl
    · simp only [Option.some.injEq, Prod.mk.injEq] at h
      obtain ⟨rfl, rfl⟩ := h
      exact autoW_ok cfgW4_ok Try.func24 (by kernel_rfl) (lp_none _) (walkGi2 x y u v) rfl
    · simp only [Option.some.injEq, Prod.mk.injEq] at h
      obtain ⟨rfl, rfl⟩ := h
      exact autoW_ok cfgW4_ok Try.func24 (by kernel_rfl) (lp_none _) (walkGi3 x y u v) rfl
    · cases h
  · cases h
noncomputable def sSt : List A → Option (Bool × A)
  | [.agg [.ro 1 n (.flts .f32 r), .ro 1 gn (.flts .f32 g), .ro 1 cn (.flts .f32 c)], .ro 1 m (.cpxs .f32 u v)] => match n, gn, cn, m with
    | 1, 1, 1, 1 => some (valid 1 1 1 r g c, .tup [.flt .f32 (sto 1 c u v), .bool true])
    | 2, 2, 4, 2 => some (valid 2 2 4 r g c, .tup [.flt .f32 (sto 2 c u v), .bool true])
    | 3, 3, 9, 3 => some (valid 3 3 9 r g c, .tup [.flt .f32 (sto 3 c u v), .bool true])
    | _, _, _, _ => none
  | _ => none
theorem sSt_at : EnvAt Try.prog 25 sSt := by
  refine ⟨⟨Try.f25, Try.func25, by kernel_rfl, by kernel_rfl⟩, fun ds cc rr h hc => ?_⟩
  unfold sSt at h
  split at h
  · rename_i n r gn g cn c m u v
    split at h
    · simp only [Option.some.injEq, Prod.mk.injEq] at h
      obtain ⟨rfl, rfl⟩ := h
      exact autoW_ok cfgW4_ok Try.func25 (by kernel_rfl) (lp_none _) (walkSt1 r g c u v) (by rw [nv_ok hc]; rfl)
    · simp only [Option.some.injEq, Prod.mk.injEq] at h
      obtain ⟨rfl, rfl⟩ := h
      exact autoW_ok cfgW4_ok Try.func25 (by kernel_rfl) (lp_none _) (walkSt2 r g c u v) (by rw [nv_ok hc]; rfl)
    · simp only [Option.some.injEq, Prod.mk.injEq] at h
      obtain ⟨rfl, rfl⟩ := h
      exact autoW_ok cfgW4_ok Try.func25 (by kernel_rfl) (lp_none _) (walkSt3 r g c u v) (by rw [nv_ok hc]; rfl)
    · cases h
  · cases h
noncomputable def envW5 : List (Nat × (List A → Option (Bool × A))) := (22, sTM) :: (23, sLo) :: (24, sGi) :: (25, sSt) :: envW4
theorem envW5_ok : EnvOK Try.prog (look envW5) := env_cons sTM_at (env_cons sLo_at (env_cons sGi_at (env_cons sSt_at envW4_ok)))
end Go.Fw.T1

/-
  The source of choices: its next byte, walked once and for all.
-/
namespace Go.Fw.T1
open Go.Proofs
noncomputable def gIs (b : Nat → Nat) (g : Nat → A) : Bool := @decide (g = fun i => .int .u8 (Int.ofNat (b i))) (Classical.propDecidable _)
theorem gIs_eq {b : Nat → Nat} {g : Nat → A} (h : gIs b g = true) : g = fun i => .int .u8 (Int.ofNat (b i)) := @of_decide_eq_true _ (Classical.propDecidable _) h
theorem gIs_self (b : Nat → Nat) : gIs b (fun i => .int .u8 (Int.ofNat (b i))) = true := @decide_eq_true _ (Classical.propDecidable _) rfl
noncomputable def srcB (la : Nat) (b : Nat → Nat) (k : Int) : Int := bif decide (k < Int.ofNat la) then IntKind.i64.wrap (Int.ofNat (b k.toNat)) else Int.ofNat 0
noncomputable def srcS (la : Nat) (b : Nat → Nat) (k sd : Int) : Int := IntKind.u64.wrap (IntKind.u64.wrap (IntKind.u64.wrap (sd * Int.ofNat 6364136223846793005) + IntKind.u64.wrap (srcB la b k)) + Int.ofNat 1442695040888963407)
noncomputable def srcV (la : Nat) (b : Nat → Nat) (k sd : Int) : Int := bif decide (k < Int.ofNat la) then IntKind.i64.wrap (Int.ofNat (b k.toNat)) else IntKind.i64.wrap (bandI .u64 (shrI .u64 (srcS la b k sd) (Int.ofNat 40)) (Int.ofNat 255))
noncomputable def nextF (b : Nat → Nat) : List A → O → Option (Bool × List A × O)
  | [.ptr 112 0, _], .var [.ro 1 la (.gen g), .int .i64 k, .int .u64 sd] => some (gIs b g && (decide (0 ≤ k) && decide (k ≤ 1000000)), [.ptr 112 0, .int .i64 (srcV la b k sd)], .var [.ro 1 la (.gen g), .int .i64 (k + 1), .int .u64 (srcS la b k sd)])
  | _, _ => none
noncomputable def nextS (b : Nat → Nat) (σ : St) : T := sumF Try.f63.ntmps [0, 2] 112 (nextF b) σ
noncomputable def cfgSr0 : Cfg := mkCfg tab [] xts (look envW5)
theorem cfgSr0_ok : CfgOK Try.prog cfgSr0 := cfg_ok tab_eq (no_fts _) xts_ok envW5_ok mixed
theorem round63 (lo nx la : Nat) (b : Nat → Nat) (x : A) (k sd : Int) (M : List (Nat × O)) (L : XK → List A → List (Nat × O) → Prop) :
    ((exec cfgSr0 (fun _ => true) (fun _ => none) 0 1000 (bodyOf Try.f63) (stM Try.f63.ntmps lo nx [0, 2] [.ptr 112 0, x] 112 (.var [.ro 1 la (.gen fun i => .int .u8 (Int.ofNat (b i))), .int .i64 k, .int .u64 sd]) M)).rm [0, 2]).Ok L =
    bif decide (k < Int.ofNat la) then
      bif decide (0 ≤ k) && decide (k < Int.ofNat la) then
        bif decide (IntKind.i64.wrap (k + 1) ≤ Int.ofNat la) then
          L (XK.ret) ([A.ptr 112 0, A.int .i64 (IntKind.i64.wrap (Int.ofNat (b k.toNat)))]) ((112, O.var [A.ro 1 la (Row.gen fun i => A.int .u8 (Int.ofNat (b i))), A.int .i64 (IntKind.i64.wrap (k + Int.ofNat 1)), A.int IntKind.u64 (IntKind.u64.wrap (IntKind.u64.wrap (IntKind.u64.wrap (sd * Int.ofNat 6364136223846793005) + IntKind.u64.wrap (IntKind.i64.wrap (Int.ofNat (b k.toNat)))) + Int.ofNat 1442695040888963407))]) :: (112, O.var [A.ro 1 la (Row.gen fun i => A.int .u8 (Int.ofNat (b i))), A.int .i64 (IntKind.i64.wrap (k + Int.ofNat 1)), A.int IntKind.u64 sd]) :: (112, O.var [A.ro 1 la (Row.gen fun i => A.int .u8 (Int.ofNat (b i))), A.int .i64 k, A.int IntKind.u64 sd]) :: M)
        else
          L (XK.ret) ([A.ptr 112 0, A.int .i64 (IntKind.i64.wrap (bandI IntKind.u64 (shrI IntKind.u64 (IntKind.u64.wrap (IntKind.u64.wrap (IntKind.u64.wrap (sd * Int.ofNat 6364136223846793005) + IntKind.u64.wrap (IntKind.i64.wrap (Int.ofNat (b k.toNat)))) + Int.ofNat 1442695040888963407)) (Int.ofNat 40)) (Int.ofNat 255)))]) ((112, O.var [A.ro 1 la (Row.gen fun i => A.int .u8 (Int.ofNat (b i))), A.int .i64 (IntKind.i64.wrap (k + Int.ofNat 1)), A.int IntKind.u64 (IntKind.u64.wrap (IntKind.u64.wrap (IntKind.u64.wrap (sd * Int.ofNat 6364136223846793005) + IntKind.u64.wrap (IntKind.i64.wrap (Int.ofNat (b k.toNat)))) + Int.ofNat 1442695040888963407))]) :: (112, O.var [A.ro 1 la (Row.gen fun i => A.int .u8 (Int.ofNat (b i))), A.int .i64 (IntKind.i64.wrap (k + Int.ofNat 1)), A.int IntKind.u64 sd]) :: (112, O.var [A.ro 1 la (Row.gen fun i => A.int .u8 (Int.ofNat (b i))), A.int .i64 k, A.int IntKind.u64 sd]) :: M)
      else
        False
    else
      bif decide (IntKind.i64.wrap (k + 1) ≤ Int.ofNat la) then
        L (XK.ret) ([A.ptr 112 0, A.int .i64 (Int.ofNat 0)]) ((112, O.var [A.ro 1 la (Row.gen fun i => A.int .u8 (Int.ofNat (b i))), A.int .i64 (IntKind.i64.wrap (k + Int.ofNat 1)), A.int IntKind.u64 (IntKind.u64.wrap (IntKind.u64.wrap (IntKind.u64.wrap (sd * Int.ofNat 6364136223846793005) + IntKind.u64.wrap (Int.ofNat 0)) + Int.ofNat 1442695040888963407))]) :: (112, O.var [A.ro 1 la (Row.gen fun i => A.int .u8 (Int.ofNat (b i))), A.int .i64 (IntKind.i64.wrap (k + Int.ofNat 1)), A.int IntKind.u64 sd]) :: (112, O.var [A.ro 1 la (Row.gen fun i => A.int .u8 (Int.ofNat (b i))), A.int .i64 k, A.int IntKind.u64 sd]) :: M)
      else
        L (XK.ret) ([A.ptr 112 0, A.int .i64 (IntKind.i64.wrap (bandI IntKind.u64 (shrI IntKind.u64 (IntKind.u64.wrap (IntKind.u64.wrap (IntKind.u64.wrap (sd * Int.ofNat 6364136223846793005) + IntKind.u64.wrap (Int.ofNat 0)) + Int.ofNat 1442695040888963407)) (Int.ofNat 40)) (Int.ofNat 255)))]) ((112, O.var [A.ro 1 la (Row.gen fun i => A.int .u8 (Int.ofNat (b i))), A.int .i64 (IntKind.i64.wrap (k + Int.ofNat 1)), A.int IntKind.u64 (IntKind.u64.wrap (IntKind.u64.wrap (IntKind.u64.wrap (sd * Int.ofNat 6364136223846793005) + IntKind.u64.wrap (Int.ofNat 0)) + Int.ofNat 1442695040888963407))]) :: (112, O.var [A.ro 1 la (Row.gen fun i => A.int .u8 (Int.ofNat (b i))), A.int .i64 (IntKind.i64.wrap (k + Int.ofNat 1)), A.int IntKind.u64 sd]) :: (112, O.var [A.ro 1 la (Row.gen fun i => A.int .u8 (Int.ofNat (b i))), A.int .i64 k, A.int IntKind.u64 sd]) :: M) := by kernel_rfl
theorem sim_top {id : Nat} {o : O} (o1 o2 : O) (M : List (Nat × O)) : SimMem ((id, o) :: (id, o1) :: (id, o2) :: M) id M o := by
  refine ⟨fun j hj => ?_, ?_⟩
  · have e : Nat.beq id j = false := by
      cases h : Nat.beq id j
      · rfl
      · exact absurd (Nat.eq_of_beq_eq_true h).symm hj
    simp only [look, e]
  · have e : Nat.beq id id = true := Nat.beq_refl id
    simp only [look, e]
    exact OSims.self [o] |>.1
theorem nextS_ok (b : Nat → Nat) : CodeOK Try.prog (fun _ σ => nextS b σ) (bodyOf Try.f63) := by
  refine sumF_ok cfgSr0_ok (own := fun _ => true) (lp := fun _ => none) (un := 0) (fuel := 1000) (lp_none _) ?_
  intro az o az' o' hF
  unfold nextF at hF
  split at hF
  · rename_i x la g k sd
    simp only [Option.some.injEq, Prod.mk.injEq] at hF
    obtain ⟨hc, rfl, rfl⟩ := hF
    rw [Bool.and_eq_true, Bool.and_eq_true] at hc
    obtain ⟨hg, h0, h1⟩ := hc
    have hg := gIs_eq hg
    have h0 := of_decide_eq_true h0
    have h1 := of_decide_eq_true h1
    subst hg
    refine ⟨fun _ => rfl, fun _ => rfl, fun lo nx M => ?_⟩
    rw [round63]
    have hw : IntKind.i64.wrap (k + 1) = k + 1 := wrap_small (by omega) (by omega)
    have hw' : IntKind.i64.wrap (k + Int.ofNat 1) = k + 1 := hw
    by_cases hk : k < Int.ofNat la
    · have hv : srcV la b k sd = IntKind.i64.wrap (Int.ofNat (b k.toNat)) := by unfold srcV; rw [decide_eq_true hk]; rfl
      have hB : srcB la b k = IntKind.i64.wrap (Int.ofNat (b k.toNat)) := by unfold srcB; rw [decide_eq_true hk]; rfl
      refine condT (decide_eq_true hk) (condT (by rw [decide_eq_true h0, decide_eq_true hk]; rfl) (condT (decide_eq_true (by rw [hw]; have : k < (la : Int) := hk; show k + 1 ≤ (la : Int); omega)) ?_))
      rw [hw', hv]
      unfold srcS
      rw [hB]
      exact ⟨rfl, ALe.self _, sim_top _ _ M⟩
    · have hB : srcB la b k = Int.ofNat 0 := by unfold srcB; rw [decide_eq_false hk]; rfl
      have hv : srcV la b k sd = IntKind.i64.wrap (bandI IntKind.u64 (shrI IntKind.u64 (srcS la b k sd) (Int.ofNat 40)) (Int.ofNat 255)) := by unfold srcV; rw [decide_eq_false hk]; rfl
      refine condE (decide_eq_false hk) (condE (decide_eq_false (by rw [hw]; have : ¬ k < (la : Int) := hk; show ¬ k + 1 ≤ (la : Int); omega)) ?_)
      rw [hw', hv]
      unfold srcS
      rw [hB]
      exact ⟨rfl, ALe.self _, sim_top _ _ M⟩
  · cases hF
noncomputable def ftsSrc : List (Nat × Func) := [(43, Try.f43), (44, Try.f44), (45, Try.f45), (63, Try.f63)]
theorem ftsSrc_ok (f : Nat) (fn : Func) (h : (f, fn) ∈ ftsSrc) : Try.prog.funcs[f]? = some fn ∧ (fn.name == "runtime.NumGoroutine") = false := by
  simp only [ftsSrc, List.mem_cons, Prod.mk.injEq, List.not_mem_nil, or_false] at h
  rcases h with ⟨rfl, rfl⟩ | ⟨rfl, rfl⟩ | ⟨rfl, rfl⟩ | ⟨rfl, rfl⟩
  · exact ⟨Try.func43, by kernel_rfl⟩
  · exact ⟨Try.func44, by kernel_rfl⟩
  · exact ⟨Try.func45, by kernel_rfl⟩
  · exact ⟨Try.func63, by kernel_rfl⟩
noncomputable def fxSrc (b : Nat → Nat) : List (Nat × (St → T)) := [(63, nextS b)]
theorem fxSrc_ok (b : Nat → Nat) (g : Nat) (s : St → T) (fn : Func) (body : Code) (h1 : (g, s) ∈ fxSrc b) (h2 : (g, fn) ∈ ftsSrc) (h3 : fn.body = some body) : CodeOK Try.prog (fun _ σ => s σ) body := by
  simp only [fxSrc, List.mem_singleton, Prod.mk.injEq] at h1
  obtain ⟨rfl, rfl⟩ := h1
  simp only [ftsSrc, List.mem_cons, Prod.mk.injEq, List.not_mem_nil, or_false] at h2
  rcases h2 with ⟨h2, _⟩ | ⟨h2, _⟩ | ⟨h2, _⟩ | ⟨_, rfl⟩
  · omega
  · omega
  · omega
  · have e : bodyOf Try.f63 = body := by unfold bodyOf; rw [h3]
    rw [← e]
    exact nextS_ok b
noncomputable def cfgSrc (b : Nat → Nat) : Cfg := mkCfgX tab ftsSrc xts (look envW5) (fxSrc b)
theorem cfgSrc_ok (b : Nat → Nat) : CfgOK Try.prog (cfgSrc b) :=
  ⟨fun t ti h => tabOf_ok tab_eq t ti (look_mem h), fun f fn h => ftsSrc_ok f fn (look_mem h), fun f e h => let ⟨fn, k⟩ := xts_ok f e (look_mem h); ⟨fn, k.at_, k.name, k.body, k.next, k.run⟩, envW5_ok,
    fun g s fn body hs hf hb => fxSrc_ok b g s fn body (look_mem hs) (look_mem hf) hb, mixed⟩
end Go.Fw.T1

/-
  The source of choices: one pick, wherever it stands.
-/
namespace Go.Fw.T1
open Go.Proofs
noncomputable def sdAt (la : Nat) (b : Nat → Nat) : Nat → Int
  | 0 => Int.ofNat 0
  | k + 1 => srcS la b (Int.ofNat k) (sdAt la b k)
noncomputable def sdIs (la : Nat) (b : Nat → Nat) (k : Nat) (sd : Int) : Bool := decide (sd = sdAt la b k)
noncomputable def pkAt (la : Nat) (b : Nat → Nat) (k m : Nat) : Int := (srcV la b (Int.ofNat k) (sdAt la b k)).tmod (Int.ofNat m)
noncomputable def feF (N : Nat) (b : Nat → Nat) : List A → O → Option (Bool × A × O)
  | [.ptr 112 0, .int .i64 (.ofNat m)], .var [.ro 1 la (.gen g), .int .i64 (.ofNat k), .int .u64 sd] =>
    bif Nat.beq m 3 then
      some (gIs b g && (sdIs la b k sd && (Nat.ble k 1000000 && decide (pkAt la b k 3 = .ofNat N))), .int .i64 (.ofNat N), .var [.ro 1 la (.gen g), .int .i64 (.ofNat (Nat.succ k)), .int .u64 (sdAt la b (Nat.succ k))])
    else
      some (gIs b g && (sdIs la b k sd && (Nat.ble k 1000000 && (Nat.ble 2 m && Nat.ble m 200))), .int .i64 (pkAt la b k m), .var [.ro 1 la (.gen g), .int .i64 (.ofNat (Nat.succ k)), .int .u64 (sdAt la b (Nat.succ k))])
  | _, _ => none
noncomputable def pickF (N : Nat) (b : Nat → Nat) : List A → O → Option (Bool × List A × O)
  | [p, m, _], o => match feF N b [p, m] o with
    | some (c, v, o') => some (c, [p, m, v], o')
    | none => none
  | _, _ => none
noncomputable def pickS (N : Nat) (b : Nat → Nat) (σ : St) : T := sumF Try.f45.ntmps [0, 1, 4] 112 (pickF N b) σ
noncomputable def fePk (N : Nat) (b : Nat → Nat) (f : Nat) : Option (Nat × (List A → O → Option (Bool × A × O))) := bif Nat.beq f 45 then some (112, feF N b) else none
abbrev srcO (la : Nat) (b : Nat → Nat) (k sd : Int) : O := O.var [A.ro 1 la (Row.gen fun i => A.int .u8 (Int.ofNat (b i))), A.int .i64 k, A.int IntKind.u64 sd]
theorem feF_spec {N : Nat} {b : Nat → Nat} {az : List A} {o o' : O} {v : A} (h : feF N b az o = some (true, v, o')) :
    ∃ m la k, az = [.ptr 112 0, .int .i64 (.ofNat m)] ∧ o = srcO la b (.ofNat k) (sdAt la b k) ∧ k ≤ 1000000 ∧ 2 ≤ m ∧ m ≤ 200 ∧ v = .int .i64 ((srcV la b (.ofNat k) (sdAt la b k)).tmod (.ofNat m)) ∧ o' = srcO la b (.ofNat (k + 1)) (srcS la b (.ofNat k) (sdAt la b k)) := by
  unfold feF at h
  split at h
  · rename_i m la g k sd
    cases hm : Nat.beq m 3
    · rw [hm] at h
      simp only [cond_false, Option.some.injEq, Prod.mk.injEq, Bool.and_eq_true] at h
      obtain ⟨⟨hg, hs, hk, h2, h3⟩, rfl, rfl⟩ := h
      have hg := gIs_eq hg
      have hs := of_decide_eq_true hs
      subst hg hs
      exact ⟨m, la, k, rfl, rfl, Nat.le_of_ble_eq_true hk, Nat.le_of_ble_eq_true h2, Nat.le_of_ble_eq_true h3, rfl, rfl⟩
    · have := Nat.eq_of_beq_eq_true hm
      subst this
      rw [hm] at h
      simp only [cond_true, Option.some.injEq, Prod.mk.injEq, Bool.and_eq_true] at h
      obtain ⟨⟨hg, hs, hk, h2⟩, rfl, rfl⟩ := h
      have hg := gIs_eq hg
      have hs := of_decide_eq_true hs
      have h2 := of_decide_eq_true h2
      subst hg hs
      exact ⟨3, la, k, rfl, rfl, Nat.le_of_ble_eq_true hk, by omega, by omega, by rw [← h2]; rfl, rfl⟩
  · cases h
theorem round45 (lo nx la : Nat) (m k : Int) (b : Nat → Nat) (x : A) (sd : Int) (M : List (Nat × O)) (L : XK → List A → List (Nat × O) → Prop) :
    ((exec (cfgSrc b) (fun _ => true) (fun _ => none) 0 1000 (bodyOf Try.f45) (stM Try.f45.ntmps lo nx [0, 1, 4] [.ptr 112 0, .int .i64 m, x] 112 (srcO la b k sd) M)).rm [0, 1, 4]).Ok L =
    bif decide (m ≤ 1) then L XK.ret [A.ptr 112 0, A.int .i64 m, A.int .i64 (Int.ofNat 0)] ((112, srcO la b k sd) :: M)
    else bif (gIs b fun i => A.int .u8 (Int.ofNat (b i))) && (decide (0 ≤ k) && decide (k ≤ 1000000)) then
      bif decide (m > 200) then
        bif (gIs b fun i => A.int .u8 (Int.ofNat (b i))) && (decide (0 ≤ k + 1) && decide (k + 1 ≤ 1000000)) then
          bif !decide (m = 0) then
            L XK.ret [A.ptr 112 0, A.int .i64 m, A.int .i64 ((IntKind.i64.wrap (IntKind.i64.wrap (srcV la b k sd * Int.ofNat 256) + srcV la b (k + Int.ofNat 1) (srcS la b k sd))).tmod m)] ((112, srcO la b (k + Int.ofNat 1 + Int.ofNat 1) (srcS la b (k + Int.ofNat 1) (srcS la b k sd))) :: (112, srcO la b (k + Int.ofNat 1) (srcS la b k sd)) :: (112, srcO la b k sd) :: M)
          else False
        else False
      else bif !decide (m = 0) then
        L XK.ret [A.ptr 112 0, A.int .i64 m, A.int .i64 ((srcV la b k sd).tmod m)] ((112, srcO la b (k + Int.ofNat 1) (srcS la b k sd)) :: (112, srcO la b k sd) :: M)
      else False
    else False := by kernel_rfl
theorem sim_top1 {id : Nat} {o : O} (o1 : O) (M : List (Nat × O)) : SimMem ((id, o) :: (id, o1) :: M) id M o := by
  refine ⟨fun j hj => ?_, ?_⟩
  · have e : Nat.beq id j = false := by
      cases h : Nat.beq id j
      · rfl
      · exact absurd (Nat.eq_of_beq_eq_true h).symm hj
    simp only [look, e]
  · have e : Nat.beq id id = true := Nat.beq_refl id
    simp only [look, e]
    exact OSims.self [o] |>.1
theorem pickS_ok (N : Nat) (b : Nat → Nat) : CodeOK Try.prog (fun _ σ => pickS N b σ) (bodyOf Try.f45) := by
  refine sumF_ok (cfgSrc_ok b) (own := fun _ => true) (lp := fun _ => none) (un := 0) (fuel := 1000) (lp_none _) ?_
  intro az o az' o' hF
  unfold pickF at hF
  split at hF
  · rename_i p m x o0
    split at hF
    · rename_i c v o1 hf
      simp only [Option.some.injEq, Prod.mk.injEq] at hF
      obtain ⟨hc, rfl, rfl⟩ := hF
      subst hc
      obtain ⟨m', la, k, haz, rfl, hk, h2, h3, rfl, rfl⟩ := feF_spec hf
      simp only [List.cons.injEq, and_true] at haz
      obtain ⟨rfl, rfl⟩ := haz
      refine ⟨fun _ => rfl, fun _ => rfl, fun lo nx M => ?_⟩
      rw [round45]
      refine condE (decide_eq_false (by simp; omega)) (condT (by rw [gIs_self, decide_eq_true (by simp), decide_eq_true (by simp; omega)]; rfl) (condE (decide_eq_false (by simp; omega)) (condT (by rw [decide_eq_false (by simp; omega)]; rfl) ?_)))
      exact ⟨rfl, ALe.self _, sim_top1 _ M⟩
    · cases hF
  · cases hF
noncomputable def fxPk (N : Nat) (b : Nat → Nat) : List (Nat × (St → T)) := [(45, pickS N b)]
theorem fxPk_ok (N : Nat) (b : Nat → Nat) (g : Nat) (s : St → T) (fn : Func) (body : Code) (h1 : (g, s) ∈ fxPk N b) (h2 : (g, fn) ∈ ftsSrc) (h3 : fn.body = some body) : CodeOK Try.prog (fun _ σ => s σ) body := by
  simp only [fxPk, List.mem_singleton, Prod.mk.injEq] at h1
  obtain ⟨rfl, rfl⟩ := h1
  simp only [ftsSrc, List.mem_cons, Prod.mk.injEq, List.not_mem_nil, or_false] at h2
  rcases h2 with ⟨h2, _⟩ | ⟨h2, _⟩ | ⟨_, rfl⟩ | ⟨h2, _⟩
  · omega
  · omega
  · have e : bodyOf Try.f45 = body := by unfold bodyOf; rw [h3]
    rw [← e]
    exact pickS_ok N b
  · omega
noncomputable def cfgPk (N : Nat) (b : Nat → Nat) : Cfg := mkCfgX tab ftsSrc xts (look envW5) (fxPk N b)
theorem cfgPk_ok (N : Nat) (b : Nat → Nat) : CfgOK Try.prog (cfgPk N b) :=
  ⟨fun t ti h => tabOf_ok tab_eq t ti (look_mem h), fun f fn h => ftsSrc_ok f fn (look_mem h), fun f e h => let ⟨fn, k⟩ := xts_ok f e (look_mem h); ⟨fn, k.at_, k.name, k.body, k.next, k.run⟩, envW5_ok,
    fun g s fn body hs hf hb => fxPk_ok N b g s fn body (look_mem hs) (look_mem hf) hb, mixed⟩
end Go.Fw.T1

/-
  The source of choices: picks in heads of drawn regions.
-/
namespace Go.Fw.T1
open Go.Proofs
theorem env45 (N : Nat) (b : Nat → Nat) : (cfgPk N b).env 45 = none := by kernel_rfl
theorem xt45 (N : Nat) (b : Nat → Nat) : (cfgPk N b).xt 45 = none := by kernel_rfl
theorem ft45 (N : Nat) (b : Nat → Nat) : (cfgPk N b).ft 45 = some Try.f45 := by kernel_rfl
theorem fx45 (N : Nat) (b : Nat → Nat) : (cfgPk N b).fx 45 = some (pickS N b) := by kernel_rfl
theorem callA45 (N : Nat) (b : Nat → Nat) (obj : Nat → Option O) (own : Bool) (base : Nat) (args : List A) : callA (cfgPk N b) obj own base 45 args = none := by
  unfold callA
  simp only [xt45, env45]
theorem body45 : Try.f45.body = some (bodyOf Try.f45) := by kernel_rfl
theorem ntmps45 : Nat.ble 2 Try.f45.ntmps = true := by kernel_rfl
theorem res45 : Try.f45.results.toList = [.tmp 4] := by kernel_rfl
theorem enter45 {N : Nat} {b : Nat → Nat} {p m v : A} {ob ob' : O} {M : List (Nat × O)} {nx : Nat} (hv : feF N b [p, m] ob = some (true, v, ob')) (hob : look M 112 = some ob) :
    pickS N b (St.enter Try.f45 [p, m] M nx) = .ite true (.leaf .ret (stM Try.f45.ntmps nx nx [0, 1, 4] [p, m, v] 112 ob' M)) .fail := by
  unfold pickS sumF
  have e0 : Nat.beq (St.enter Try.f45 [p, m] M nx).n Try.f45.ntmps = true := Nat.beq_refl _
  have e1 : (St.enter Try.f45 [p, m] M nx).obj 112 = some ob := hob
  have e2 : pickF N b ([0, 1, 4].map (St.enter Try.f45 [p, m] M nx).get) ob = some (true, [p, m, v], ob') := by
    show pickF N b [p, m, _] ob = _
    unfold pickF
    simp only [hv]
  simp only [e0, e1, e2]
  rfl
theorem ret45 {N : Nat} {b : Nat → Nat} {n lo nx : Nat} {p m v : A} {ob' : O} {M : List (Nat × O)} : retVal (cfgPk N b) Try.f45 (stM n lo nx [0, 1, 4] [p, m, v] 112 ob' M) = some v := by
  unfold retVal
  rw [res45]
  rfl
theorem step45 (N : Nat) (b : Nat → Nat) (base : Nat) (ops : Array Oper) (o : Oper) (σ σ' : St) (d m : Nat) (args : Array Operand) (tys : Array TypeId) (v : A) (ob ob' : O)
    (hop : o.op = .call { callee := .value (.func 45), args := args, argTypes := tys }) (hg : o.guard = none) (hd : o.dst = some d) (hgr : σ.grds = []) (hn : Nat.blt d σ.n = true)
    (hargs : args.toList.map (opd σ.get0) = [.ptr 112 0, .int .i64 (.ofNat m)]) (hob : σ.obj 112 = some ob) (hv : feF N b [.ptr 112 0, .int .i64 (.ofNat m)] ob = some (true, v, ob'))
    (hσ : σ' = { σ with tmps := (d, v) :: σ.tmps, mem := (112, ob') :: σ.mem }) :
    (stepOp (cfgPk N b) (fun _ => false) (fun _ _ => .fail) base ops o σ).Ok Try.prog fun x τ => x = XK.normal ∧ τ = σ' := by
  have h1 : qStep (cfgPk N b) σ.obj (fun _ => false) base ops o σ = none := by
    have e : evalX (cfgPk N b) (restr (looks ops o) σ.get0) σ.obj false base o = none := by
      unfold evalX evalNew evalQ
      simp only [hop, opd, callA45]
    unfold qStep qVal
    simp only [guardOf, hg, isPick, hop, e]
  have h2 : wStep (cfgPk N b) base o σ = none := by
    unfold wStep
    split
    · simp only [hop]
    · rfl
  have h3 : aStep (cfgPk N b) base o σ = none := by
    unfold aStep
    split
    · simp only [hop]
    · rfl
  have h4 : callee (cfgPk N b) σ o = some (45, Try.f45, [.ptr 112 0, .int .i64 (.ofNat m)]) := by
    unfold callee
    simp only [hop, hg, opd, ft45, List.append_nil, hargs]
  have hl : Nat.ble ([A.ptr 112 0, A.int .i64 (.ofNat m)] : List A).length Try.f45.ntmps = true := ntmps45
  have h5 := enter45 (nx := σ.next) hv hob
  unfold stepOp
  simp only [h1, h2, h3, h4, hl, body45, fx45, h5]
  refine ⟨fun _ => ?_, fun h => by cases h⟩
  show (match retVal (cfgPk N b) Try.f45 (stM Try.f45.ntmps σ.next σ.next [0, 1, 4] [.ptr 112 0, .int .i64 (.ofNat m), v] 112 ob' σ.mem) with
    | some v => match ({ σ with grds := [], mem := (112, ob') :: σ.mem, next := σ.next } : St).put o.dst v with
      | some σ'' => T.leaf XK.normal σ''
      | none => T.fail
    | none => T.fail).Ok Try.prog fun x τ => x = XK.normal ∧ τ = σ'
  simp only [ret45, hd, St.put, hn, grdFree]
  refine ⟨rfl, ?_⟩
  rw [hσ, hgr]
theorem fePk_ok (N : Nat) (b : Nat → Nat) : FeOK Try.prog (fePk N b) := by
  intro X B w0 U G σ σ' a w cv base id ops o K Q hstep h hfresh hnext hK
  obtain ⟨F, ob, d, v, ob', hF, hob, hg, hd, hv, hn, hσ⟩ := cStep_spec hstep
  unfold feOf at hF
  split at hF
  · rename_i c d' f args tys hgu hd' hop
    unfold fePk at hF
    cases hf : Nat.beq f 45
    · rw [hf] at hF; cases hF
    · have := Nat.eq_of_beq_eq_true hf
      subst this
      rw [hf] at hF
      simp only [cond_true, Option.some.injEq, Prod.mk.injEq] at hF
      obtain ⟨rfl, rfl⟩ := hF
      obtain ⟨m, la, k, haz, _⟩ := feF_spec hv
      have hargs : args.toList.map (opd σ.get0) = [.ptr 112 0, .int .i64 (.ofNat m)] := by
        rw [← haz]
        unfold cArgs
        simp only [hop]
      rw [haz] at hv
      refine stepOp_sound (cfgPk_ok N b) (ex := fun _ _ => .fail) (own := fun _ => false) (base := base) (fun c σ L hok => hok.elim) h (step45 N b base ops o σ σ' d m args tys v ob ob' hop hgu hd hg hn hargs hob hv hσ) hfresh hnext ?_
      rintro x τ a' w' U' ⟨_, rfl⟩ h1 h2 ⟨cv', hs⟩ h4 h5 h6
      refine hK a' w' ⟨cv', ⟨hs.size, hs.defers, hs.below, hs.hB, fun i hi => ?_, hs.lon, fun i o' hi => ?_, hs.mem, hs.slot, hs.grd, hs.ghost⟩⟩
      · rcases hi with hi | hi
        · exact hs.lo i (h1 i hi)
        · have e : τ.next = σ.next := by rw [hσ]
          rw [e]; omega
      · have hu := hs.used i o' hi
        rcases h2 i hu with h7 | h7 | h7
        · exact .inl h7
        · exact .inr h7
        · have := hs.lo i hu
          have e : τ.next = σ.next := by rw [hσ]
          rw [e] at this
          omega
  · cases hF
end Go.Fw.T1

/-
  Circuits that are drawn: walked for each number of loops.
-/
namespace Go.Fw.T1
open Go.Proofs
def gBy (b : Nat → Nat) : Nat → A := fun i => .int .u8 (Int.ofNat (b i))
noncomputable def q4 (x : Int) : Nat := fop .quo .f32 (fofInt .f32 x) (can .f32 1082130432)
noncomputable def q2 (x : Int) : Nat := fop .quo .f32 (fofInt .f32 x) (can .f32 1073741824)
noncomputable def c18_0 (la : Nat) (b : Nat → Nat) : Bool := gIs b (gBy b) && (sdIs la b 0 (Int.ofNat 0) && decide (pkAt la b 0 3 = Int.ofNat 0)) && (decide (0 ≤ IntKind.i64.wrap (IntKind.i64.wrap (1 + Int.ofNat 0) * IntKind.i64.wrap (1 + Int.ofNat 0))) && decide (IntKind.i64.wrap (IntKind.i64.wrap (1 + Int.ofNat 0) * IntKind.i64.wrap (1 + Int.ofNat 0)) ≤ 1073741824) && (decide (0 < IntKind.i64.wrap (1 + Int.ofNat 0)) && (gIs b (gBy b) && (sdIs la b 1 (sdAt la b 1) && true) && true && (gIs b (gBy b) && (sdIs la b 2 (sdAt la b 2) && true) && true && (gIs b (gBy b) && (sdIs la b 3 (sdAt la b 3) && true) && true && (decide (0 ≤ IntKind.i64.wrap (IntKind.i64.wrap (0 * IntKind.i64.wrap (1 + Int.ofNat 0)) + 0)) && decide (IntKind.i64.wrap (IntKind.i64.wrap (0 * IntKind.i64.wrap (1 + Int.ofNat 0)) + 0) < Int.ofNat (IntKind.i64.wrap (IntKind.i64.wrap (1 + Int.ofNat 0) * IntKind.i64.wrap (1 + Int.ofNat 0))).toNat) && (!decide (IntKind.i64.wrap (0 + 1) < IntKind.i64.wrap (1 + Int.ofNat 0)) && (gIs b (gBy b) && (sdIs la b 4 (sdAt la b 4) && true) && true && (!decide (IntKind.i64.wrap (0 + 1) < Int.ofNat 1) && true)))))))))
noncomputable def r18_0 (la : Nat) (b : Nat → Nat) (j : Nat) : Nat := match decide (j = 0) with | true => q4 (IntKind.i64.wrap (Int.ofNat 1 + pkAt la b 4 8)) | false => [q4 (pkAt la b 1 9)].getD j 0
noncomputable def g18_0 (la : Nat) (b : Nat → Nat) (i : Nat) : Nat := [q2 (pkAt la b 2 9)].getD i 0
noncomputable def l18_0 (la : Nat) (b : Nat → Nat) (j : Nat) : Nat := match decide (j = 0) with | true => q2 (IntKind.i64.wrap (Int.ofNat 4 + pkAt la b 3 8)) | false => 0
theorem walk18_0 (la : Nat) (b : Nat → Nat) : autoW4 (cfgPk 0 b) (fePk 0 b) (fun _ => true) 3 (fun _ => none) [true, false, false, true, false] Try.f18 [.ro 1 la (.gen (gBy b))] =
    some (c18_0 la b, .agg [.ro 1 1 (.flts .f32 (r18_0 la b)), .ro 1 1 (.flts .f32 (g18_0 la b)), .ro 1 1 (.flts .f32 (l18_0 la b))]) := by kernel_rfl
noncomputable def c18_1 (la : Nat) (b : Nat → Nat) : Bool := gIs b (gBy b) && (sdIs la b 0 (Int.ofNat 0) && decide (pkAt la b 0 3 = Int.ofNat 1)) && (decide (0 ≤ IntKind.i64.wrap (IntKind.i64.wrap (1 + Int.ofNat 1) * IntKind.i64.wrap (1 + Int.ofNat 1))) && decide (IntKind.i64.wrap (IntKind.i64.wrap (1 + Int.ofNat 1) * IntKind.i64.wrap (1 + Int.ofNat 1)) ≤ 1073741824) && (decide (0 < IntKind.i64.wrap (1 + Int.ofNat 1)) && (gIs b (gBy b) && (sdIs la b 1 (sdAt la b 1) && true) && true && (gIs b (gBy b) && (sdIs la b 2 (sdAt la b 2) && true) && true && (gIs b (gBy b) && (sdIs la b 3 (sdAt la b 3) && true) && true && (decide (0 ≤ IntKind.i64.wrap (IntKind.i64.wrap (0 * IntKind.i64.wrap (1 + Int.ofNat 1)) + 0)) && decide (IntKind.i64.wrap (IntKind.i64.wrap (0 * IntKind.i64.wrap (1 + Int.ofNat 1)) + 0) < Int.ofNat (IntKind.i64.wrap (IntKind.i64.wrap (1 + Int.ofNat 1) * IntKind.i64.wrap (1 + Int.ofNat 1))).toNat) && (decide (IntKind.i64.wrap (0 + 1) < IntKind.i64.wrap (1 + Int.ofNat 1)) && (gIs b (gBy b) && (sdIs la b 4 (sdAt la b 4) && true) && true && (gIs b (gBy b) && (sdIs la b 5 (sdAt la b 5) && true) && true && (gIs b (gBy b) && (sdIs la b 6 (sdAt la b 6) && true) && true && (decide (0 ≤ IntKind.i64.wrap (IntKind.i64.wrap (IntKind.i64.wrap (0 + 1) * IntKind.i64.wrap (1 + Int.ofNat 1)) + IntKind.i64.wrap (0 + 1))) && decide (IntKind.i64.wrap (IntKind.i64.wrap (IntKind.i64.wrap (0 + 1) * IntKind.i64.wrap (1 + Int.ofNat 1)) + IntKind.i64.wrap (0 + 1)) < Int.ofNat (IntKind.i64.wrap (IntKind.i64.wrap (1 + Int.ofNat 1) * IntKind.i64.wrap (1 + Int.ofNat 1))).toNat) && (decide (0 < IntKind.i64.wrap (0 + 1)) && (gIs b (gBy b) && (sdIs la b 7 (sdAt la b 7) && true) && (decide (0 ≤ IntKind.i64.wrap (IntKind.i64.wrap (IntKind.i64.wrap (0 + 1) * IntKind.i64.wrap (1 + Int.ofNat 1)) + 0)) && decide (IntKind.i64.wrap (IntKind.i64.wrap (IntKind.i64.wrap (0 + 1) * IntKind.i64.wrap (1 + Int.ofNat 1)) + 0) < Int.ofNat (IntKind.i64.wrap (IntKind.i64.wrap (1 + Int.ofNat 1) * IntKind.i64.wrap (1 + Int.ofNat 1))).toNat) && (decide (0 ≤ IntKind.i64.wrap (IntKind.i64.wrap (0 * IntKind.i64.wrap (1 + Int.ofNat 1)) + IntKind.i64.wrap (0 + 1))) && decide (IntKind.i64.wrap (IntKind.i64.wrap (0 * IntKind.i64.wrap (1 + Int.ofNat 1)) + IntKind.i64.wrap (0 + 1)) < Int.ofNat (IntKind.i64.wrap (IntKind.i64.wrap (1 + Int.ofNat 1) * IntKind.i64.wrap (1 + Int.ofNat 1))).toNat) && (!decide (IntKind.i64.wrap (0 + 1) < IntKind.i64.wrap (0 + 1)) && (!decide (IntKind.i64.wrap (IntKind.i64.wrap (0 + 1) + 1) < IntKind.i64.wrap (1 + Int.ofNat 1)) && (gIs b (gBy b) && (sdIs la b 8 (sdAt la b 8) && true) && true && (decide (IntKind.i64.wrap (0 + 1) < Int.ofNat (1 + 1)) && (gIs b (gBy b) && (sdIs la b 9 (sdAt la b 9) && true) && true && (decide (0 ≤ IntKind.i64.wrap (0 + 1)) && decide (IntKind.i64.wrap (0 + 1) < Int.ofNat (1 + 1)) && (!decide (IntKind.i64.wrap (IntKind.i64.wrap (0 + 1) + 1) < Int.ofNat (1 + 1)) && true))))))))))))))))))))))
noncomputable def r18_1 (la : Nat) (b : Nat → Nat) (j : Nat) : Nat := match decide (j = 1) with | true => q4 (IntKind.i64.wrap (Int.ofNat 1 + pkAt la b 9 8)) | false => match decide (j = 0) with | true => q4 (IntKind.i64.wrap (Int.ofNat 1 + pkAt la b 8 8)) | false => match decide (j < 1) with | true => [q4 (pkAt la b 1 9)].getD j 0 | false => [q4 (pkAt la b 4 9)].getD (j - 1) 0
noncomputable def g18_1 (la : Nat) (b : Nat → Nat) (j : Nat) : Nat := match decide (j < 1) with | true => [q2 (pkAt la b 2 9)].getD j 0 | false => [q2 (pkAt la b 5 9)].getD (j - 1) 0
noncomputable def l18_1 (la : Nat) (b : Nat → Nat) (j : Nat) : Nat := match decide (j = 1) with | true => q4 (IntKind.i64.wrap (pkAt la b 7 7 - Int.ofNat 3)) | false => match decide (j = 2) with | true => q4 (IntKind.i64.wrap (pkAt la b 7 7 - Int.ofNat 3)) | false => match decide (j = 3) with | true => q2 (IntKind.i64.wrap (Int.ofNat 4 + pkAt la b 6 8)) | false => match decide (j = 0) with | true => q2 (IntKind.i64.wrap (Int.ofNat 4 + pkAt la b 3 8)) | false => 0
theorem walk18_1 (la : Nat) (b : Nat → Nat) : autoW4 (cfgPk 1 b) (fePk 1 b) (fun _ => true) 3 (fun _ => none) [true, false, true, true, false, false, true, true, false] Try.f18 [.ro 1 la (.gen (gBy b))] =
    some (c18_1 la b, .agg [.ro 1 2 (.flts .f32 (r18_1 la b)), .ro 1 2 (.flts .f32 (g18_1 la b)), .ro 1 4 (.flts .f32 (l18_1 la b))]) := by kernel_rfl
noncomputable def c18_2 (la : Nat) (b : Nat → Nat) : Bool := gIs b (gBy b) && (sdIs la b 0 (Int.ofNat 0) && decide (pkAt la b 0 3 = Int.ofNat 2)) && (decide (0 ≤ IntKind.i64.wrap (IntKind.i64.wrap (1 + Int.ofNat 2) * IntKind.i64.wrap (1 + Int.ofNat 2))) && decide (IntKind.i64.wrap (IntKind.i64.wrap (1 + Int.ofNat 2) * IntKind.i64.wrap (1 + Int.ofNat 2)) ≤ 1073741824) && (decide (0 < IntKind.i64.wrap (1 + Int.ofNat 2)) && (gIs b (gBy b) && (sdIs la b 1 (sdAt la b 1) && true) && true && (gIs b (gBy b) && (sdIs la b 2 (sdAt la b 2) && true) && true && (gIs b (gBy b) && (sdIs la b 3 (sdAt la b 3) && true) && true && (decide (0 ≤ IntKind.i64.wrap (IntKind.i64.wrap (0 * IntKind.i64.wrap (1 + Int.ofNat 2)) + 0)) && decide (IntKind.i64.wrap (IntKind.i64.wrap (0 * IntKind.i64.wrap (1 + Int.ofNat 2)) + 0) < Int.ofNat (IntKind.i64.wrap (IntKind.i64.wrap (1 + Int.ofNat 2) * IntKind.i64.wrap (1 + Int.ofNat 2))).toNat) && (decide (IntKind.i64.wrap (0 + 1) < IntKind.i64.wrap (1 + Int.ofNat 2)) && (gIs b (gBy b) && (sdIs la b 4 (sdAt la b 4) && true) && true && (gIs b (gBy b) && (sdIs la b 5 (sdAt la b 5) && true) && true && (gIs b (gBy b) && (sdIs la b 6 (sdAt la b 6) && true) && true && (decide (0 ≤ IntKind.i64.wrap (IntKind.i64.wrap (IntKind.i64.wrap (0 + 1) * IntKind.i64.wrap (1 + Int.ofNat 2)) + IntKind.i64.wrap (0 + 1))) && decide (IntKind.i64.wrap (IntKind.i64.wrap (IntKind.i64.wrap (0 + 1) * IntKind.i64.wrap (1 + Int.ofNat 2)) + IntKind.i64.wrap (0 + 1)) < Int.ofNat (IntKind.i64.wrap (IntKind.i64.wrap (1 + Int.ofNat 2) * IntKind.i64.wrap (1 + Int.ofNat 2))).toNat) && (decide (0 < IntKind.i64.wrap (0 + 1)) && (gIs b (gBy b) && (sdIs la b 7 (sdAt la b 7) && true) && (decide (0 ≤ IntKind.i64.wrap (IntKind.i64.wrap (IntKind.i64.wrap (0 + 1) * IntKind.i64.wrap (1 + Int.ofNat 2)) + 0)) && decide (IntKind.i64.wrap (IntKind.i64.wrap (IntKind.i64.wrap (0 + 1) * IntKind.i64.wrap (1 + Int.ofNat 2)) + 0) < Int.ofNat (IntKind.i64.wrap (IntKind.i64.wrap (1 + Int.ofNat 2) * IntKind.i64.wrap (1 + Int.ofNat 2))).toNat) && (decide (0 ≤ IntKind.i64.wrap (IntKind.i64.wrap (0 * IntKind.i64.wrap (1 + Int.ofNat 2)) + IntKind.i64.wrap (0 + 1))) && decide (IntKind.i64.wrap (IntKind.i64.wrap (0 * IntKind.i64.wrap (1 + Int.ofNat 2)) + IntKind.i64.wrap (0 + 1)) < Int.ofNat (IntKind.i64.wrap (IntKind.i64.wrap (1 + Int.ofNat 2) * IntKind.i64.wrap (1 + Int.ofNat 2))).toNat) && (!decide (IntKind.i64.wrap (0 + 1) < IntKind.i64.wrap (0 + 1)) && (decide (IntKind.i64.wrap (IntKind.i64.wrap (0 + 1) + 1) < IntKind.i64.wrap (1 + Int.ofNat 2)) && (gIs b (gBy b) && (sdIs la b 8 (sdAt la b 8) && true) && true && (gIs b (gBy b) && (sdIs la b 9 (sdAt la b 9) && true) && true && (gIs b (gBy b) && (sdIs la b 10 (sdAt la b 10) && true) && true && (decide (0 ≤ IntKind.i64.wrap (IntKind.i64.wrap (IntKind.i64.wrap (IntKind.i64.wrap (0 + 1) + 1) * IntKind.i64.wrap (1 + Int.ofNat 2)) + IntKind.i64.wrap (IntKind.i64.wrap (0 + 1) + 1))) && decide (IntKind.i64.wrap (IntKind.i64.wrap (IntKind.i64.wrap (IntKind.i64.wrap (0 + 1) + 1) * IntKind.i64.wrap (1 + Int.ofNat 2)) + IntKind.i64.wrap (IntKind.i64.wrap (0 + 1) + 1)) < Int.ofNat (IntKind.i64.wrap (IntKind.i64.wrap (1 + Int.ofNat 2) * IntKind.i64.wrap (1 + Int.ofNat 2))).toNat) && (decide (0 < IntKind.i64.wrap (IntKind.i64.wrap (0 + 1) + 1)) && (gIs b (gBy b) && (sdIs la b 11 (sdAt la b 11) && true) && (decide (0 ≤ IntKind.i64.wrap (IntKind.i64.wrap (IntKind.i64.wrap (IntKind.i64.wrap (0 + 1) + 1) * IntKind.i64.wrap (1 + Int.ofNat 2)) + 0)) && decide (IntKind.i64.wrap (IntKind.i64.wrap (IntKind.i64.wrap (IntKind.i64.wrap (0 + 1) + 1) * IntKind.i64.wrap (1 + Int.ofNat 2)) + 0) < Int.ofNat (IntKind.i64.wrap (IntKind.i64.wrap (1 + Int.ofNat 2) * IntKind.i64.wrap (1 + Int.ofNat 2))).toNat) && (decide (0 ≤ IntKind.i64.wrap (IntKind.i64.wrap (0 * IntKind.i64.wrap (1 + Int.ofNat 2)) + IntKind.i64.wrap (IntKind.i64.wrap (0 + 1) + 1))) && decide (IntKind.i64.wrap (IntKind.i64.wrap (0 * IntKind.i64.wrap (1 + Int.ofNat 2)) + IntKind.i64.wrap (IntKind.i64.wrap (0 + 1) + 1)) < Int.ofNat (IntKind.i64.wrap (IntKind.i64.wrap (1 + Int.ofNat 2) * IntKind.i64.wrap (1 + Int.ofNat 2))).toNat) && (decide (IntKind.i64.wrap (0 + 1) < IntKind.i64.wrap (IntKind.i64.wrap (0 + 1) + 1)) && (gIs b (gBy b) && (sdIs la b 12 (sdAt la b 12) && true) && (decide (0 ≤ IntKind.i64.wrap (IntKind.i64.wrap (IntKind.i64.wrap (IntKind.i64.wrap (0 + 1) + 1) * IntKind.i64.wrap (1 + Int.ofNat 2)) + IntKind.i64.wrap (0 + 1))) && decide (IntKind.i64.wrap (IntKind.i64.wrap (IntKind.i64.wrap (IntKind.i64.wrap (0 + 1) + 1) * IntKind.i64.wrap (1 + Int.ofNat 2)) + IntKind.i64.wrap (0 + 1)) < Int.ofNat (IntKind.i64.wrap (IntKind.i64.wrap (1 + Int.ofNat 2) * IntKind.i64.wrap (1 + Int.ofNat 2))).toNat) && (decide (0 ≤ IntKind.i64.wrap (IntKind.i64.wrap (IntKind.i64.wrap (0 + 1) * IntKind.i64.wrap (1 + Int.ofNat 2)) + IntKind.i64.wrap (IntKind.i64.wrap (0 + 1) + 1))) && decide (IntKind.i64.wrap (IntKind.i64.wrap (IntKind.i64.wrap (0 + 1) * IntKind.i64.wrap (1 + Int.ofNat 2)) + IntKind.i64.wrap (IntKind.i64.wrap (0 + 1) + 1)) < Int.ofNat (IntKind.i64.wrap (IntKind.i64.wrap (1 + Int.ofNat 2) * IntKind.i64.wrap (1 + Int.ofNat 2))).toNat) && (!decide (IntKind.i64.wrap (IntKind.i64.wrap (0 + 1) + 1) < IntKind.i64.wrap (IntKind.i64.wrap (0 + 1) + 1)) && (!decide (IntKind.i64.wrap (IntKind.i64.wrap (IntKind.i64.wrap (0 + 1) + 1) + 1) < IntKind.i64.wrap (1 + Int.ofNat 2)) && (gIs b (gBy b) && (sdIs la b 13 (sdAt la b 13) && true) && true && (decide (IntKind.i64.wrap (0 + 1) < Int.ofNat (1 + 1 + 1)) && (gIs b (gBy b) && (sdIs la b 14 (sdAt la b 14) && true) && true && (decide (0 ≤ IntKind.i64.wrap (0 + 1)) && decide (IntKind.i64.wrap (0 + 1) < Int.ofNat (1 + 1 + 1)) && (decide (IntKind.i64.wrap (IntKind.i64.wrap (0 + 1) + 1) < Int.ofNat (1 + 1 + 1)) && (gIs b (gBy b) && (sdIs la b 15 (sdAt la b 15) && true) && true && (decide (0 ≤ IntKind.i64.wrap (IntKind.i64.wrap (0 + 1) + 1)) && decide (IntKind.i64.wrap (IntKind.i64.wrap (0 + 1) + 1) < Int.ofNat (1 + 1 + 1)) && (!decide (IntKind.i64.wrap (IntKind.i64.wrap (IntKind.i64.wrap (0 + 1) + 1) + 1) < Int.ofNat (1 + 1 + 1)) && true)))))))))))))))))))))))))))))))))))))))
noncomputable def r18_2 (la : Nat) (b : Nat → Nat) (j : Nat) : Nat := match decide (j = 2) with | true => q4 (IntKind.i64.wrap (Int.ofNat 1 + pkAt la b 15 8)) | false => match decide (j = 1) with | true => q4 (IntKind.i64.wrap (Int.ofNat 1 + pkAt la b 14 8)) | false => match decide (j = 0) with | true => q4 (IntKind.i64.wrap (Int.ofNat 1 + pkAt la b 13 8)) | false => match decide (j < 2) with | true => (match decide (j < 1) with | true => [q4 (pkAt la b 1 9)].getD j 0 | false => [q4 (pkAt la b 4 9)].getD (j - 1) 0) | false => [q4 (pkAt la b 8 9)].getD (j - 2) 0
noncomputable def g18_2 (la : Nat) (b : Nat → Nat) (j : Nat) : Nat := match decide (j < 2) with | true => (match decide (j < 1) with | true => [q2 (pkAt la b 2 9)].getD j 0 | false => [q2 (pkAt la b 5 9)].getD (j - 1) 0) | false => [q2 (pkAt la b 9 9)].getD (j - 2) 0
noncomputable def l18_2 (la : Nat) (b : Nat → Nat) (j : Nat) : Nat := match decide (j = 5) with | true => q4 (IntKind.i64.wrap (pkAt la b 12 7 - Int.ofNat 3)) | false => match decide (j = 7) with | true => q4 (IntKind.i64.wrap (pkAt la b 12 7 - Int.ofNat 3)) | false => match decide (j = 2) with | true => q4 (IntKind.i64.wrap (pkAt la b 11 7 - Int.ofNat 3)) | false => match decide (j = 6) with | true => q4 (IntKind.i64.wrap (pkAt la b 11 7 - Int.ofNat 3)) | false => match decide (j = 8) with | true => q2 (IntKind.i64.wrap (Int.ofNat 4 + pkAt la b 10 8)) | false => match decide (j = 1) with | true => q4 (IntKind.i64.wrap (pkAt la b 7 7 - Int.ofNat 3)) | false => match decide (j = 3) with | true => q4 (IntKind.i64.wrap (pkAt la b 7 7 - Int.ofNat 3)) | false => match decide (j = 4) with | true => q2 (IntKind.i64.wrap (Int.ofNat 4 + pkAt la b 6 8)) | false => match decide (j = 0) with | true => q2 (IntKind.i64.wrap (Int.ofNat 4 + pkAt la b 3 8)) | false => 0
theorem walk18_2 (la : Nat) (b : Nat → Nat) : autoW4 (cfgPk 2 b) (fePk 2 b) (fun _ => true) 4 (fun _ => none) [true, false, true, true, false, true, true, true, false, false, true, true, true, false] Try.f18 [.ro 1 la (.gen (gBy b))] =
    some (c18_2 la b, .agg [.ro 1 3 (.flts .f32 (r18_2 la b)), .ro 1 3 (.flts .f32 (g18_2 la b)), .ro 1 9 (.flts .f32 (l18_2 la b))]) := by kernel_rfl
end Go.Fw.T1

/-
  Numbers that are drawn: walked for each count.
-/
namespace Go.Fw.T1
open Go.Proofs
noncomputable def c19_1 (la : Nat) (b : Nat → Nat) : Bool := gIs b (gBy b) && (sdIs la b 0 (Int.ofNat 0) && true) && (gIs b (gBy b) && (sdIs la b 1 (sdAt la b 1) && true) && (!decide (IntKind.i64.wrap (Int.ofNat 1 - 1) > 0) && true))
noncomputable def x19_1 (la : Nat) (b : Nat → Nat) (_j : Nat) : Nat := q4 (IntKind.i64.wrap (pkAt la b 0 17 - Int.ofNat 8))
noncomputable def y19_1 (la : Nat) (b : Nat → Nat) (_j : Nat) : Nat := q4 (IntKind.i64.wrap (pkAt la b 1 17 - Int.ofNat 8))
theorem walk19_1 (N la : Nat) (b : Nat → Nat) : autoW (cfgPk N b) (fun _ => true) 2 (fun _ => none) [true, false] Try.f19 [.ro 1 la (.gen (gBy b)), .int .i64 (.ofNat 1)] =
    some (c19_1 la b, .ro 1 1 (.cpxs .f32 (x19_1 la b) (y19_1 la b))) := by kernel_rfl
noncomputable def c19_2 (la : Nat) (b : Nat → Nat) : Bool := gIs b (gBy b) && (sdIs la b 0 (Int.ofNat 0) && true) && (gIs b (gBy b) && (sdIs la b 1 (sdAt la b 1) && true) && (decide (IntKind.i64.wrap (Int.ofNat 2 - 1) > 0) && (gIs b (gBy b) && (sdIs la b 2 (sdAt la b 2) && true) && (gIs b (gBy b) && (sdIs la b 3 (sdAt la b 3) && true) && (!decide (IntKind.i64.wrap (IntKind.i64.wrap (Int.ofNat 2 - 1) - 1) > 0) && true)))))
noncomputable def x19_2 (la : Nat) (b : Nat → Nat) (j : Nat) : Nat := match decide (j < 1) with | true => (q4 (IntKind.i64.wrap (pkAt la b 0 17 - Int.ofNat 8))) | false => q4 (IntKind.i64.wrap (pkAt la b 2 17 - Int.ofNat 8))
noncomputable def y19_2 (la : Nat) (b : Nat → Nat) (j : Nat) : Nat := match decide (j < 1) with | true => (q4 (IntKind.i64.wrap (pkAt la b 1 17 - Int.ofNat 8))) | false => q4 (IntKind.i64.wrap (pkAt la b 3 17 - Int.ofNat 8))
theorem walk19_2 (N la : Nat) (b : Nat → Nat) : autoW (cfgPk N b) (fun _ => true) 3 (fun _ => none) [true, true, false] Try.f19 [.ro 1 la (.gen (gBy b)), .int .i64 (.ofNat 2)] =
    some (c19_2 la b, .ro 1 2 (.cpxs .f32 (x19_2 la b) (y19_2 la b))) := by kernel_rfl
noncomputable def c19_3 (la : Nat) (b : Nat → Nat) : Bool := gIs b (gBy b) && (sdIs la b 0 (Int.ofNat 0) && true) && (gIs b (gBy b) && (sdIs la b 1 (sdAt la b 1) && true) && (decide (IntKind.i64.wrap (Int.ofNat 3 - 1) > 0) && (gIs b (gBy b) && (sdIs la b 2 (sdAt la b 2) && true) && (gIs b (gBy b) && (sdIs la b 3 (sdAt la b 3) && true) && (decide (IntKind.i64.wrap (IntKind.i64.wrap (Int.ofNat 3 - 1) - 1) > 0) && (gIs b (gBy b) && (sdIs la b 4 (sdAt la b 4) && true) && (gIs b (gBy b) && (sdIs la b 5 (sdAt la b 5) && true) && (!decide (IntKind.i64.wrap (IntKind.i64.wrap (IntKind.i64.wrap (Int.ofNat 3 - 1) - 1) - 1) > 0) && true))))))))
noncomputable def x19_3 (la : Nat) (b : Nat → Nat) (j : Nat) : Nat := match decide (j < 2) with | true => (match decide (j < 1) with | true => (q4 (IntKind.i64.wrap (pkAt la b 0 17 - Int.ofNat 8))) | false => q4 (IntKind.i64.wrap (pkAt la b 2 17 - Int.ofNat 8))) | false => q4 (IntKind.i64.wrap (pkAt la b 4 17 - Int.ofNat 8))
noncomputable def y19_3 (la : Nat) (b : Nat → Nat) (j : Nat) : Nat := match decide (j < 2) with | true => (match decide (j < 1) with | true => (q4 (IntKind.i64.wrap (pkAt la b 1 17 - Int.ofNat 8))) | false => q4 (IntKind.i64.wrap (pkAt la b 3 17 - Int.ofNat 8))) | false => q4 (IntKind.i64.wrap (pkAt la b 5 17 - Int.ofNat 8))
theorem walk19_3 (N la : Nat) (b : Nat → Nat) : autoW (cfgPk N b) (fun _ => true) 4 (fun _ => none) [true, true, true, false] Try.f19 [.ro 1 la (.gen (gBy b)), .int .i64 (.ofNat 3)] =
    some (c19_3 la b, .ro 1 3 (.cpxs .f32 (x19_3 la b) (y19_3 la b))) := by kernel_rfl
end Go.Fw.T1

/-
  Circuits and numbers that are drawn: contracts.
-/
namespace Go.Fw.T1
open Go.Proofs
theorem sdIs_self (la : Nat) (b : Nat → Nat) (k : Nat) : sdIs la b k (sdAt la b k) = true := decide_eq_true rfl
theorem sdIs_0 (la : Nat) (b : Nat → Nat) : sdIs la b 0 (Int.ofNat 0) = true := decide_eq_true rfl
theorem gIs_gB (b : Nat → Nat) : gIs b (gBy b) = true := gIs_self b
theorem c18_0_ok {la : Nat} {b : Nat → Nat} (h : decide (pkAt la b 0 3 = Int.ofNat 0) = true) : c18_0 la b = true := by
  unfold c18_0
  simp only [sdIs_self, sdIs_0, gIs_gB, h]
  kernel_rfl
theorem c18_1_ok {la : Nat} {b : Nat → Nat} (h : decide (pkAt la b 0 3 = Int.ofNat 1) = true) : c18_1 la b = true := by
  unfold c18_1
  simp only [sdIs_self, sdIs_0, gIs_gB, h]
  kernel_rfl
theorem c18_2_ok {la : Nat} {b : Nat → Nat} (h : decide (pkAt la b 0 3 = Int.ofNat 2) = true) : c18_2 la b = true := by
  unfold c18_2
  simp only [sdIs_self, sdIs_0, gIs_gB, h]
  kernel_rfl
theorem c19_1_ok (la : Nat) (b : Nat → Nat) : c19_1 la b = true := by
  unfold c19_1
  simp only [sdIs_self, sdIs_0, gIs_gB]
  kernel_rfl
theorem c19_2_ok (la : Nat) (b : Nat → Nat) : c19_2 la b = true := by
  unfold c19_2
  simp only [sdIs_self, sdIs_0, gIs_gB]
  kernel_rfl
theorem c19_3_ok (la : Nat) (b : Nat → Nat) : c19_3 la b = true := by
  unfold c19_3
  simp only [sdIs_self, sdIs_0, gIs_gB]
  kernel_rfl
noncomputable def s18_0 : List A → Option (Bool × A)
  | [.ro 1 la (.gen g)] => some (gIs (byt g) g && decide (pkAt la (byt g) 0 3 = Int.ofNat 0), .agg [.ro 1 1 (.flts .f32 (r18_0 la (byt g))), .ro 1 1 (.flts .f32 (g18_0 la (byt g))), .ro 1 1 (.flts .f32 (l18_0 la (byt g)))])
  | _ => none
theorem s18_0_at : EnvAt Try.prog 18 s18_0 := by
  refine ⟨⟨Try.f18, Try.func18, by kernel_rfl, by kernel_rfl⟩, fun ds c r h hct => ?_⟩
  unfold s18_0 at h
  split at h
  · rename_i la g
    simp only [Option.some.injEq, Prod.mk.injEq] at h
    obtain ⟨hc, hr⟩ := h
    subst hr
    rw [hct, Bool.and_eq_true] at hc
    obtain ⟨hg, hp⟩ := hc
    have hg := gIs_eq hg
    obtain ⟨b, hb⟩ : ∃ b, b = byt g := ⟨_, rfl⟩
    rw [← hb] at hg hp ⊢
    have hg' : g = gBy b := hg
    rw [hg']
    exact autoW4_ok (cfgPk_ok 0 b) (fePk_ok 0 b) Try.func18 (by kernel_rfl) (lp_none _) (walk18_0 la b) (c18_0_ok hp)
  · cases h
noncomputable def s18_1 : List A → Option (Bool × A)
  | [.ro 1 la (.gen g)] => some (gIs (byt g) g && decide (pkAt la (byt g) 0 3 = Int.ofNat 1), .agg [.ro 1 2 (.flts .f32 (r18_1 la (byt g))), .ro 1 2 (.flts .f32 (g18_1 la (byt g))), .ro 1 4 (.flts .f32 (l18_1 la (byt g)))])
  | _ => none
theorem s18_1_at : EnvAt Try.prog 18 s18_1 := by
  refine ⟨⟨Try.f18, Try.func18, by kernel_rfl, by kernel_rfl⟩, fun ds c r h hct => ?_⟩
  unfold s18_1 at h
  split at h
  · rename_i la g
    simp only [Option.some.injEq, Prod.mk.injEq] at h
    obtain ⟨hc, hr⟩ := h
    subst hr
    rw [hct, Bool.and_eq_true] at hc
    obtain ⟨hg, hp⟩ := hc
    have hg := gIs_eq hg
    obtain ⟨b, hb⟩ : ∃ b, b = byt g := ⟨_, rfl⟩
    rw [← hb] at hg hp ⊢
    have hg' : g = gBy b := hg
    rw [hg']
    exact autoW4_ok (cfgPk_ok 1 b) (fePk_ok 1 b) Try.func18 (by kernel_rfl) (lp_none _) (walk18_1 la b) (c18_1_ok hp)
  · cases h
noncomputable def s18_2 : List A → Option (Bool × A)
  | [.ro 1 la (.gen g)] => some (gIs (byt g) g && decide (pkAt la (byt g) 0 3 = Int.ofNat 2), .agg [.ro 1 3 (.flts .f32 (r18_2 la (byt g))), .ro 1 3 (.flts .f32 (g18_2 la (byt g))), .ro 1 9 (.flts .f32 (l18_2 la (byt g)))])
  | _ => none
theorem s18_2_at : EnvAt Try.prog 18 s18_2 := by
  refine ⟨⟨Try.f18, Try.func18, by kernel_rfl, by kernel_rfl⟩, fun ds c r h hct => ?_⟩
  unfold s18_2 at h
  split at h
  · rename_i la g
    simp only [Option.some.injEq, Prod.mk.injEq] at h
    obtain ⟨hc, hr⟩ := h
    subst hr
    rw [hct, Bool.and_eq_true] at hc
    obtain ⟨hg, hp⟩ := hc
    have hg := gIs_eq hg
    obtain ⟨b, hb⟩ : ∃ b, b = byt g := ⟨_, rfl⟩
    rw [← hb] at hg hp ⊢
    have hg' : g = gBy b := hg
    rw [hg']
    exact autoW4_ok (cfgPk_ok 2 b) (fePk_ok 2 b) Try.func18 (by kernel_rfl) (lp_none _) (walk18_2 la b) (c18_2_ok hp)
  · cases h
noncomputable def s19 : List A → Option (Bool × A)
  | [.ro 1 la (.gen g), .int .i64 (.ofNat n)] =>
    bif Nat.beq n 1 then some (gIs (byt g) g, .ro 1 1 (.cpxs .f32 (x19_1 la (byt g)) (y19_1 la (byt g))))
    else bif Nat.beq n 2 then some (gIs (byt g) g, .ro 1 2 (.cpxs .f32 (x19_2 la (byt g)) (y19_2 la (byt g))))
    else bif Nat.beq n 3 then some (gIs (byt g) g, .ro 1 3 (.cpxs .f32 (x19_3 la (byt g)) (y19_3 la (byt g))))
    else none
  | _ => none
theorem s19_at : EnvAt Try.prog 19 s19 := by
  refine ⟨⟨Try.f19, Try.func19, by kernel_rfl, by kernel_rfl⟩, fun ds c r h hct => ?_⟩
  unfold s19 at h
  split at h
  · rename_i la g n
    cases h1 : Nat.beq n 1
    rotate_left
    · rw [h1] at h
      have hn := Nat.eq_of_beq_eq_true h1
      subst hn
      simp only [cond_true, cond_false, Option.some.injEq, Prod.mk.injEq] at h
      obtain ⟨hc, hr⟩ := h
      subst hr
      rw [hct] at hc
      have hg := gIs_eq hc
      obtain ⟨b, hb⟩ : ∃ b, b = byt g := ⟨_, rfl⟩
      rw [← hb] at hg ⊢
      have hg' : g = gBy b := hg
      rw [hg']
      exact autoW_ok (cfgPk_ok 0 b) Try.func19 (by kernel_rfl) (lp_none _) (walk19_1 0 la b) (c19_1_ok la b)
    cases h2 : Nat.beq n 2
    rotate_left
    · rw [h2] at h
      have hn := Nat.eq_of_beq_eq_true h2
      subst hn
      simp only [cond_true, h1, cond_false, Option.some.injEq, Prod.mk.injEq] at h
      obtain ⟨hc, hr⟩ := h
      subst hr
      rw [hct] at hc
      have hg := gIs_eq hc
      obtain ⟨b, hb⟩ : ∃ b, b = byt g := ⟨_, rfl⟩
      rw [← hb] at hg ⊢
      have hg' : g = gBy b := hg
      rw [hg']
      exact autoW_ok (cfgPk_ok 0 b) Try.func19 (by kernel_rfl) (lp_none _) (walk19_2 0 la b) (c19_2_ok la b)
    cases h3 : Nat.beq n 3
    rotate_left
    · rw [h3] at h
      have hn := Nat.eq_of_beq_eq_true h3
      subst hn
      simp only [cond_true, h1, h2, cond_false, Option.some.injEq, Prod.mk.injEq] at h
      obtain ⟨hc, hr⟩ := h
      subst hr
      rw [hct] at hc
      have hg := gIs_eq hc
      obtain ⟨b, hb⟩ : ∃ b, b = byt g := ⟨_, rfl⟩
      rw [← hb] at hg ⊢
      have hg' : g = gBy b := hg
      rw [hg']
      exact autoW_ok (cfgPk_ok 0 b) Try.func19 (by kernel_rfl) (lp_none _) (walk19_3 0 la b) (c19_3_ok la b)
    rw [h1, h2, h3] at h
    cases h
  · cases h
end Go.Fw.T1

/-
  What is picked.
-/
namespace Go.Fw.T1
open Go.Proofs
theorem bv_and_le (x : Int) : (BitVec.ofInt 64 x &&& BitVec.ofInt 64 (Int.ofNat 255)).toNat ≤ 255 := by
  rw [BitVec.toNat_and]
  exact Nat.and_le_right
theorem wrapN {n : Nat} (h : n < 1000000) : IntKind.i64.wrap (Int.ofNat n) = Int.ofNat n := wrap_small (by simp) (by simp; omega)
theorem srcV_ex' {b : Nat → Nat} {la : Nat} {k : Int} (hb : k < Int.ofNat la → b k.toNat < 256) (sd : Int) : ∃ v, v < 256 ∧ srcV la b k sd = Int.ofNat v := by
  unfold srcV
  cases hk : decide (k < Int.ofNat la)
  · show ∃ v, v < 256 ∧ IntKind.i64.wrap (bandI .u64 (shrI .u64 (srcS la b k sd) (Int.ofNat 40)) (Int.ofNat 255)) = Int.ofNat v
    rw [bandI_eq]
    generalize shrI .u64 (srcS la b k sd) (Int.ofNat 40) = y
    have h := bv_and_le y
    unfold bandC
    refine ⟨(BitVec.ofInt 64 y &&& BitVec.ofInt 64 (Int.ofNat 255)).toNat, by omega, ?_⟩
    show IntKind.i64.wrap (IntKind.u64.wrap (Int.ofNat (BitVec.ofInt 64 y &&& BitVec.ofInt 64 (Int.ofNat 255)).toNat)) = _
    generalize (BitVec.ofInt 64 y &&& BitVec.ofInt 64 (Int.ofNat 255)).toNat = m at h
    have h1 : IntKind.u64.wrap (Int.ofNat m) = Int.ofNat m := by
      show (m : Int) % _ = (m : Int)
      apply Int.emod_eq_of_lt
      · omega
      · have : (m : Int) ≤ 255 := by omega
        exact Int.lt_of_le_of_lt this (by decide)
    rw [h1]
    exact wrapN (by omega)
  · have hb := hb (of_decide_eq_true hk)
    exact ⟨b k.toNat, hb, wrapN (by omega)⟩
theorem pk_ex {b : Nat → Nat} {la : Nat} (hb : ∀ i, i < la → b i < 256) (k : Nat) {m : Nat} (hm : 0 < m) : ∃ p, p < m ∧ pkAt la b k m = Int.ofNat p := by
  obtain ⟨v, hv, e⟩ := srcV_ex' (b := b) (la := la) (k := Int.ofNat k) (fun h => hb k (by have h : (k : Int) < (la : Int) := h; omega)) (sdAt la b k)
  refine ⟨v % m, Nat.mod_lt _ hm, ?_⟩
  unfold pkAt
  rw [e]
  rfl
theorem q_add {la k m c : Nat} {b : Nat → Nat} (hb : ∀ i, i < la → b i < 256) (hm : 0 < m) (hm' : m < 1000) (hc : c < 1000) : ∃ p, p < m ∧ IntKind.i64.wrap (Int.ofNat c + pkAt la b k m) = Int.ofNat (c + p) := by
  obtain ⟨p, hp, e⟩ := pk_ex hb k hm
  exact ⟨p, hp, by rw [e]; exact wrapN (by omega)⟩
theorem wrap7 : ∀ p : Nat, p < 7 → IntKind.i64.wrap (Int.ofNat p - Int.ofNat 3) = Int.ofNat p - Int.ofNat 3 := by decide
theorem wrap17 : ∀ p : Nat, p < 17 → IntKind.i64.wrap (Int.ofNat p - Int.ofNat 8) = Int.ofNat p - Int.ofNat 8 := by decide
theorem q_sub7 {la k : Nat} {b : Nat → Nat} (hb : ∀ i, i < la → b i < 256) : ∃ p, p < 7 ∧ IntKind.i64.wrap (pkAt la b k 7 - Int.ofNat 3) = Int.ofNat p - Int.ofNat 3 := by
  obtain ⟨p, hp, e⟩ := pk_ex hb k (m := 7) (by omega)
  exact ⟨p, hp, by rw [e]; exact wrap7 p hp⟩
theorem q_sub17 {la k : Nat} {b : Nat → Nat} (hb : ∀ i, i < la → b i < 256) : ∃ p, p < 17 ∧ IntKind.i64.wrap (pkAt la b k 17 - Int.ofNat 8) = Int.ofNat p - Int.ofNat 8 := by
  obtain ⟨p, hp, e⟩ := pk_ex hb k (m := 17) (by omega)
  exact ⟨p, hp, by rw [e]; exact wrap17 p hp⟩
end Go.Fw.T1

/-
  What is known for the walk of FnCircuits.
-/
namespace Go.Fw.T1
open Go.Proofs
noncomputable def envX0 : List (Nat × (List A → Option (Bool × A))) := (19, s19) :: (27, s50T) :: (28, s40T) :: (6, sAt) :: envW5
theorem envX0_ok : EnvOK Try.prog (look envX0) := env_cons s19_at (env_cons s50T_at (env_cons s40T_at (env_cons sAt_at envW5_ok)))
noncomputable def envY0 : List (Nat × (List A → Option (Bool × A))) := (18, s18_0) :: envX0
noncomputable def envY1 : List (Nat × (List A → Option (Bool × A))) := (18, s18_1) :: envX0
noncomputable def envY2 : List (Nat × (List A → Option (Bool × A))) := (18, s18_2) :: envX0
theorem envY0_ok : EnvOK Try.prog (look envY0) := env_cons s18_0_at envX0_ok
theorem envY1_ok : EnvOK Try.prog (look envY1) := env_cons s18_1_at envX0_ok
theorem envY2_ok : EnvOK Try.prog (look envY2) := env_cons s18_2_at envX0_ok
noncomputable def ftsL : List (Nat × Func) := [(5, Try.f5)]
theorem ftsL_ok (f : Nat) (fn : Func) (h : (f, fn) ∈ ftsL) : Try.prog.funcs[f]? = some fn ∧ (fn.name == "runtime.NumGoroutine") = false := by
  simp only [ftsL, List.mem_cons, Prod.mk.injEq, List.not_mem_nil, or_false] at h
  rcases h with ⟨rfl, rfl⟩
  exact ⟨Try.func5, by kernel_rfl⟩
noncomputable def cfgY0 : Cfg := mkCfg tab ftsL xts (look envY0)
noncomputable def cfgY1 : Cfg := mkCfg tab ftsL xts (look envY1)
noncomputable def cfgY2 : Cfg := mkCfg tab ftsL xts (look envY2)
theorem cfgY0_ok : CfgOK Try.prog cfgY0 := cfg_ok tab_eq ftsL_ok xts_ok envY0_ok mixed
theorem cfgY1_ok : CfgOK Try.prog cfgY1 := cfg_ok tab_eq ftsL_ok xts_ok envY1_ok mixed
theorem cfgY2_ok : CfgOK Try.prog cfgY2 := cfg_ok tab_eq ftsL_ok xts_ok envY2_ok mixed
end Go.Fw.T1

/-
  Sizes of the numbers in circuits' equations.
-/
namespace Go.Fw.T1
open Go.Proofs
theorem mag_val {w : Nat} {v : V} (hr : Rep .f32 w v) (hg : vgood v = true) : ∃ a, Val .f32 w a ∧ (a * unit .f32 = ((vmag v : Nat) : Rat) ∧ vlow v = false ∨ a * unit .f32 = -((vmag v : Nat) : Rat) ∧ vlow v = true) := by
  have hv := rep_val hr hg
  refine ⟨_, hv.val, ?_⟩
  have hu := unit_pos .f32
  rw [Rat.div_mul_cancel (by grind)]
  unfold Go.Fw.sg
  cases vlow v
  · exact .inl ⟨Rat.intCast_natCast _, rfl⟩
  · exact .inr ⟨by rw [if_pos rfl, Rat.intCast_neg, Rat.intCast_natCast], rfl⟩
theorem le_of_unit {a b : Rat} (h : a * unit .f32 ≤ b * unit .f32) : a ≤ b := Rat.le_of_mul_le_mul_right h (unit_pos .f32)
theorem near_mag {w : Nat} {v : V} {N : Nat} {q : Rat} (hr : Rep .f32 w v) (hg : vgood v = true) (hm : vmag v ≤ N) (hq : ((N : Nat) : Rat) ≤ q * unit .f32) : ∃ a, Val .f32 w a ∧ Near a q := by
  obtain ⟨a, h1, h2⟩ := mag_val hr hg
  have hm := Rat.natCast_le_natCast.2 hm
  have h0 : (0 : Rat) ≤ ((vmag v : Nat) : Rat) := Rat.natCast_nonneg
  refine ⟨a, h1, ?_⟩
  have u0 := unit_pos .f32
  constructor
  · refine le_of_unit ?_
    rcases h2 with ⟨h2, _⟩ | ⟨h2, _⟩ <;> rw [h2] <;> grind
  · refine le_of_unit ?_
    rcases h2 with ⟨h2, _⟩ | ⟨h2, _⟩ <;> rw [h2] <;> grind
end Go.Fw.T1

/-
  Entries of circuits' equations: the kernel's table.
-/
namespace Go.Fw.T1
open Go.Proofs
noncomputable def dR (p : Nat) : Nat := q4 (Int.ofNat (1 + p))
noncomputable def dG (p : Nat) : Nat := q2 (Int.ofNat p)
noncomputable def dL (p : Nat) : Nat := q2 (Int.ofNat (4 + p))
noncomputable def dO (p : Nat) : Nat := q4 (Int.ofNat p - Int.ofNat 3)
noncomputable def dV (p : Nat) : Nat := q4 (Int.ofNat p - Int.ofNat 8)
noncomputable def fit (v : V) (m : Nat) : Bool := band (vgood v) (Nat.ble (vmag v) m)
theorem fit_near {w : Nat} {v : V} {m : Nat} {q : Rat} (hr : Rep .f32 w v) (h : fit v m = true) (hq : ((m : Nat) : Rat) ≤ q * unit .f32) : ∃ a, Val .f32 w a ∧ Near a q := by
  have h := band_t h
  exact near_mag hr h.1 (Nat.le_of_ble_eq_true h.2) hq
set_option maxRecDepth 100000 in
theorem diag_all : allUpTo (fun i => allUpTo (fun j => allUpTo (fun k => fit (vsub (vmul (vof .f32 (dR i)) (vof .f32 (dL j))) (vquo (vof .f32 (dG k)) (vof .f32 (dR i)))) (17 * 2 ^ 149)) 9) 8) 12 = true := by decide +kernel
set_option maxRecDepth 100000 in
theorem offd_all : allUpTo (fun i => allUpTo (fun j => fit (vmul (vof .f32 (dR i)) (vof .f32 (dO j))) (17 * 2 ^ 149)) 7) 12 = true := by decide +kernel
theorem u17 : (((17 * 2 ^ 149 : Nat)) : Rat) ≤ 17 * unit .f32 := by decide +kernel
theorem diag_near {i j k : Nat} (hi : i < 12) (hj : j < 8) (hk : k < 9) : ∃ a, Val .f32 (fop .sub .f32 (fop .mul .f32 (dR i) (dL j)) (fop .quo .f32 (dG k) (dR i))) a ∧ Near a 17 :=
  fit_near (rep_sub (rep_mul (rep_of _ _) (rep_of _ _)) (rep_quo (rep_of _ _) (rep_of _ _))) (allUpTo_iff.1 (allUpTo_iff.1 (allUpTo_iff.1 diag_all i hi) j hj) k hk) u17
theorem offd_near {i j : Nat} (hi : i < 12) (hj : j < 7) : ∃ a, Val .f32 (fop .mul .f32 (dR i) (dO j)) a ∧ Near a 17 :=
  fit_near (rep_mul (rep_of _ _) (rep_of _ _)) (allUpTo_iff.1 (allUpTo_iff.1 offd_all i hi) j hj) u17
theorem dR_all : allUpTo (fun p => isV .f32 (vof .f32 (dR p)) ((1 + (p : Rat)) / 4)) 12 = true := by decide +kernel
theorem dL_all : allUpTo (fun p => isV .f32 (vof .f32 (dL p)) ((4 + (p : Rat)) / 2)) 8 = true := by decide +kernel
theorem dO_all : allUpTo (fun p => isV .f32 (vof .f32 (dO p)) (((p : Rat) - 3) / 4)) 7 = true := by decide +kernel
theorem dV_all : allUpTo (fun p => isV .f32 (vof .f32 (dV p)) (((p : Rat) - 8) / 4)) 17 = true := by decide +kernel
theorem dR_val {p : Nat} (h : p < 12) : Val .f32 (dR p) ((1 + (p : Rat)) / 4) := Val.of_vof (allUpTo_iff.1 dR_all p h)
theorem dL_val {p : Nat} (h : p < 8) : Val .f32 (dL p) ((4 + (p : Rat)) / 2) := Val.of_vof (allUpTo_iff.1 dL_all p h)
theorem dO_val {p : Nat} (h : p < 7) : Val .f32 (dO p) (((p : Rat) - 3) / 4) := Val.of_vof (allUpTo_iff.1 dO_all p h)
theorem dV_val {p : Nat} (h : p < 17) : Val .f32 (dV p) (((p : Rat) - 8) / 4) := Val.of_vof (allUpTo_iff.1 dV_all p h)
end Go.Fw.T1

/-
  Circuits that are drawn: their equations' rows.
-/
namespace Go.Fw.T1
open Go.Proofs
structure Dr (n : Nat) (R G L : Nat → Nat) (W : Nat) : Prop where
  r : ∀ i, i < n → ∃ p, p < 8 ∧ R i = dR p
  g : ∀ i, i < n → ∃ p, p < 9 ∧ G i = dG p
  d : ∀ i, i < n → ∃ p, p < 8 ∧ L (i * n + i) = dL p
  o : ∀ i j, i < n → j < n → i ≠ j → ∃ p, p < 7 ∧ L (i * n + j) = dO p
  s : ∀ i j, i < n → j < n → L (i * n + j) = L (j * n + i)
  w : ∃ p, p < 12 ∧ W = dR p
section
variable {n : Nat} {R G L : Nat → Nat} {W : Nat}
theorem at_div {i j : Nat} (hj : j < n) : (i * n + j) / n = i := by
  rw [Nat.mul_comm, Nat.mul_add_div (by omega), Nat.div_eq_of_lt hj]; omega
theorem at_mod {i j : Nat} (hj : j < n) : (i * n + j) % n = j := by
  rw [Nat.mul_comm, Nat.mul_add_mod, Nat.mod_eq_of_lt hj]
theorem zRd {i : Nat} (hi : i < n) : zR n R (i * n + i) = R i := by
  unfold zR; rw [at_div hi, at_mod hi, Nat.beq_refl]; rfl
theorem zRo {i j : Nat} (hj : j < n) (h : i ≠ j) : zR n R (i * n + j) = can .f32 0 := by
  unfold zR; rw [at_div hj, at_mod hj]
  have : Nat.beq i j = false := by
    cases e : Nat.beq i j
    · rfl
    · exact absurd (Nat.eq_of_beq_eq_true e) h
  rw [this]; rfl
theorem zId {i : Nat} (hi : i < n) : zI n G L W (i * n + i) = fop .sub .f32 (fop .mul .f32 W (L (i * n + i))) (fop .quo .f32 (G i) W) := by
  unfold zI; rw [at_div hi, at_mod hi, Nat.beq_refl]; rfl
theorem zIo {i j : Nat} (hj : j < n) (h : i ≠ j) : zI n G L W (i * n + j) = fop .mul .f32 W (L (i * n + j)) := by
  unfold zI; rw [at_div hj, at_mod hj]
  have : Nat.beq i j = false := by
    cases e : Nat.beq i j
    · rfl
    · exact absurd (Nat.eq_of_beq_eq_true e) h
  rw [this]; rfl
theorem wv_val {w : Nat} {q : Rat} (h : Val .f32 w q) : Val .f32 w (wv w) := by rw [wv_eq h]; exact h
theorem Dr.rv (h : Dr n R G L W) {i : Nat} (hi : i < n) : Val .f32 (R i) (wv (R i)) ∧ 1 / 4 ≤ wv (R i) ∧ wv (R i) ≤ 2 := by
  obtain ⟨p, hp, e⟩ := h.r i hi
  have hv := dR_val (p := p) (by omega)
  rw [← e] at hv
  refine ⟨wv_val hv, ?_, ?_⟩ <;> rw [wv_eq hv]
  · have : (0 : Rat) ≤ (p : Rat) := Rat.natCast_nonneg
    grind
  · have : (p : Rat) ≤ 7 := Rat.natCast_le_natCast.2 (show p ≤ 7 by omega)
    grind
theorem Dr.diag (h : Dr n R G L W) {i : Nat} (hi : i < n) : Fq (zR n R (i * n + i), zI n G L W (i * n + i)) ∧ ab (wv (zI n G L W (i * n + i))) ≤ 17 ∧ wv (zR n R (i * n + i)) = wv (R i) := by
  obtain ⟨hr, _, _⟩ := h.rv hi
  obtain ⟨p, hp, e1⟩ := h.w
  obtain ⟨q, hq, e2⟩ := h.d i hi
  obtain ⟨g, hg, e3⟩ := h.g i hi
  rw [zRd hi, zId hi, e1, e2, e3]
  obtain ⟨b, hb, hn⟩ := diag_near hp hq hg
  refine ⟨⟨hr, wv_val hb⟩, ?_, rfl⟩
  rw [wv_eq hb]
  exact ab_le hn
theorem Dr.off (h : Dr n R G L W) {i j : Nat} (hi : i < n) (hj : j < n) (hij : i ≠ j) : Fq (zR n R (i * n + j), zI n G L W (i * n + j)) ∧ ab (wv (zI n G L W (i * n + j))) ≤ 17 ∧ wv (zR n R (i * n + j)) = 0 ∧ zI n G L W (i * n + j) = zI n G L W (j * n + i) := by
  obtain ⟨p, hp, e1⟩ := h.w
  obtain ⟨q, hq, e2⟩ := h.o i j hi hj hij
  rw [zRo hj hij, zIo hj hij, zIo hi (Ne.symm hij), ← h.s i j hi hj, e1, e2]
  obtain ⟨b, hb, hn⟩ := offd_near hp hq
  refine ⟨⟨wv_val can0v, wv_val hb⟩, ?_, wv_eq can0v, rfl⟩
  rw [wv_eq hb]
  exact ab_le hn
end
end Go.Fw.T1

/-
  What losses say of three loops' currents, where the equations hold nearly.
-/
namespace Go.Fw.T1
open Go.Proofs
def re (v x : CQ) : Rat := v.1 * x.1 + v.2 * x.2
theorem re_le {v x : CQ} {V : Rat} (h1 : ab v.1 ≤ V) (h2 : ab v.2 ≤ V) : ab (re v x) ≤ V * N x := by
  unfold re
  have h := ab_add (v.1 * x.1) (v.2 * x.2)
  rw [ab_mul, ab_mul] at h
  have h3 := Rat.mul_le_mul_of_nonneg_right h1 (ab_nonneg x.1)
  have h4 := Rat.mul_le_mul_of_nonneg_right h2 (ab_nonneg x.2)
  unfold N
  grind
theorem re_N (v x : CQ) : ab (re v x) ≤ N v * N x := by
  obtain ⟨h1, h2⟩ := part_le (a := v) (B := N v) Rat.le_refl
  exact re_le h1 h2
structure Sol3 (c V r0 r1 r2 b00 b01 b02 b11 b12 b22 : Rat) (v0 v1 v2 x0 x1 x2 : CQ) : Prop where
  h0 : 1 / 4 ≤ r0
  h1 : 1 / 4 ≤ r1
  h2 : 1 / 4 ≤ r2
  a0 : ab (re v0 x0) ≤ V * N x0
  a1 : ab (re v1 x1) ≤ V * N x1
  a2 : ab (re v2 x2) ≤ V * N x2
  e0 : N (dot [(r0, b00), (0, b01), (0, b02), v0] [x0, x1, x2, m1]) ≤ c * (1 + (N x0 + N x1 + N x2))
  e1 : N (dot [(0, b01), (r1, b11), (0, b12), v1] [x0, x1, x2, m1]) ≤ c * (1 + (N x0 + N x1 + N x2))
  e2 : N (dot [(0, b02), (0, b12), (r2, b22), v2] [x0, x1, x2, m1]) ≤ c * (1 + (N x0 + N x1 + N x2))
section
variable {c V r0 r1 r2 b00 b01 b02 b11 b12 b22 : Rat} {v0 v1 v2 x0 x1 x2 : CQ}
theorem energy3 : r0 * sq x0 + r1 * sq x1 + r2 * sq x2 = re v0 x0 + re v1 x1 + re v2 x2 +
    (re (dot [(r0, b00), (0, b01), (0, b02), v0] [x0, x1, x2, m1]) x0 + re (dot [(0, b01), (r1, b11), (0, b12), v1] [x0, x1, x2, m1]) x1 + re (dot [(0, b02), (0, b12), (r2, b22), v2] [x0, x1, x2, m1]) x2) := by
  simp only [dot]
  unfold re sq cadd cmul m1
  dsimp only
  grind
theorem sum_sq (x0 x1 x2 : CQ) : (N x0 + N x1 + N x2) * (N x0 + N x1 + N x2) ≤ 6 * (sq x0 + sq x1 + sq x2) := by
  have h0 := sq_N x0
  have h1 := sq_N x1
  have h2 := sq_N x2
  have k0 := sqn (N x0 - N x1)
  have k1 := sqn (N x0 - N x2)
  have k2 := sqn (N x1 - N x2)
  grind
theorem Sol3.sums (h : Sol3 c V r0 r1 r2 b00 b01 b02 b11 b12 b22 v0 v1 v2 x0 x1 x2) (hc : 0 ≤ c) :
    ab (r0 * sq x0 + r1 * sq x1 + r2 * sq x2 - (re v0 x0 + re v1 x1 + re v2 x2)) ≤ c * (1 + (N x0 + N x1 + N x2)) * (N x0 + N x1 + N x2) ∧
    r0 * sq x0 + r1 * sq x1 + r2 * sq x2 ≤ (V + c * (1 + (N x0 + N x1 + N x2))) * (N x0 + N x1 + N x2) ∧
    (N x0 + N x1 + N x2) * (N x0 + N x1 + N x2) ≤ 24 * (r0 * sq x0 + r1 * sq x1 + r2 * sq x2) ∧ sq x0 + sq x1 + sq x2 ≤ 4 * (r0 * sq x0 + r1 * sq x1 + r2 * sq x2) := by
  have he := energy3 (r0 := r0) (r1 := r1) (r2 := r2) (b00 := b00) (b01 := b01) (b02 := b02) (b11 := b11) (b12 := b12) (b22 := b22) (v0 := v0) (v1 := v1) (v2 := v2) (x0 := x0) (x1 := x1) (x2 := x2)
  have f0 := re_N (dot [(r0, b00), (0, b01), (0, b02), v0] [x0, x1, x2, m1]) x0
  have f1 := re_N (dot [(0, b01), (r1, b11), (0, b12), v1] [x0, x1, x2, m1]) x1
  have f2 := re_N (dot [(0, b02), (0, b12), (r2, b22), v2] [x0, x1, x2, m1]) x2
  have g0 := Rat.mul_le_mul_of_nonneg_right h.e0 (N_nonneg x0)
  have g1 := Rat.mul_le_mul_of_nonneg_right h.e1 (N_nonneg x1)
  have g2 := Rat.mul_le_mul_of_nonneg_right h.e2 (N_nonneg x2)
  generalize re (dot [(r0, b00), (0, b01), (0, b02), v0] [x0, x1, x2, m1]) x0 = t0 at *
  generalize re (dot [(0, b01), (r1, b11), (0, b12), v1] [x0, x1, x2, m1]) x1 = t1 at *
  generalize re (dot [(0, b02), (0, b12), (r2, b22), v2] [x0, x1, x2, m1]) x2 = t2 at *
  have u := ab_add (t0 + t1) t2
  have u' := ab_add t0 t1
  have w := ab_add (re v0 x0 + re v1 x1) (re v2 x2)
  have w' := ab_add (re v0 x0) (re v1 x1)
  have d : r0 * sq x0 + r1 * sq x1 + r2 * sq x2 - (re v0 x0 + re v1 x1 + re v2 x2) = t0 + t1 + t2 := by rw [he]; grind
  have k0 := Rat.mul_le_mul_of_nonneg_right h.h0 (sq_nonneg x0)
  have k1 := Rat.mul_le_mul_of_nonneg_right h.h1 (sq_nonneg x1)
  have k2 := Rat.mul_le_mul_of_nonneg_right h.h2 (sq_nonneg x2)
  have hs := sum_sq x0 x1 x2
  have a0 := h.a0
  have a1 := h.a1
  have a2 := h.a2
  clear h he
  have l := le_ab (t0 + t1 + t2)
  have l' := le_ab (re v0 x0 + re v1 x1 + re v2 x2)
  generalize N (dot [(r0, b00), (0, b01), (0, b02), v0] [x0, x1, x2, m1]) = y0 at *
  generalize N (dot [(0, b01), (r1, b11), (0, b12), v1] [x0, x1, x2, m1]) = y1 at *
  generalize N (dot [(0, b02), (0, b12), (r2, b22), v2] [x0, x1, x2, m1]) = y2 at *
  have d1 : ab (t0 + t1 + t2) ≤ c * (1 + (N x0 + N x1 + N x2)) * (N x0 + N x1 + N x2) := by
    clear hs k0 k1 k2 d w w' a0 a1 a2
    generalize c * (1 + (N x0 + N x1 + N x2)) = ρ at *
    grind
  refine ⟨by rw [d]; exact d1, ?_, by grind, by grind⟩
  clear hs k0 k1 k2 f0 f1 f2 g0 g1 g2 u u'
  generalize c * (1 + (N x0 + N x1 + N x2)) = ρ at *
  generalize r0 * sq x0 + r1 * sq x1 + r2 * sq x2 = P at *
  grind
end
def cE : Rat := 3 / 32000
theorem Sol3.size {r0 r1 r2 b00 b01 b02 b11 b12 b22 : Rat} {v0 v1 v2 x0 x1 x2 : CQ} (h : Sol3 cE 2 r0 r1 r2 b00 b01 b02 b11 b12 b22 v0 v1 v2 x0 x1 x2) :
    N x0 + N x1 + N x2 ≤ 49 ∧ r0 * sq x0 + r1 * sq x1 + r2 * sq x2 ≤ 99 ∧ sq x0 + sq x1 + sq x2 ≤ 396 := by
  obtain ⟨_, h2, h3, h4⟩ := h.sums (by decide +kernel)
  have hS : 0 ≤ N x0 + N x1 + N x2 := by have := N_nonneg x0; have := N_nonneg x1; have := N_nonneg x2; grind
  have hc : cE = 3 / 32000 := rfl
  generalize N x0 + N x1 + N x2 = S at *
  generalize r0 * sq x0 + r1 * sq x1 + r2 * sq x2 = P at *
  generalize sq x0 + sq x1 + sq x2 = Q at *
  have hS49 : S ≤ 49 := by
    by_cases h0 : S ≤ 49
    · exact h0
    · have hp : 0 < S := by grind
      have : S * S ≤ (24 * (2 + cE * (1 + S))) * S := by grind
      have := Rat.le_of_mul_le_mul_right this hp
      rw [hc] at this
      grind
  have hP : P ≤ 99 := by
    have h5 : (2 + cE * (1 + S)) * S ≤ (2 + cE * (1 + S)) * 49 := Rat.mul_le_mul_of_nonneg_left hS49 (by rw [hc]; grind)
    rw [hc] at *
    grind
  exact ⟨hS49, hP, by grind⟩
end Go.Fw.T1

/-
  A port's current is not next to nothing; what is stored is not less than nothing; sums of words.
-/
namespace Go.Fw.T1
open Go.Proofs
theorem N_e0 : N ((1, 0) : CQ) = 1 := by decide +kernel
theorem Sol3.port {r0 r1 r2 b00 b01 b02 b11 b12 b22 : Rat} {x0 x1 x2 : CQ} (h : Sol3 cE 1 r0 r1 r2 b00 b01 b02 b11 b12 b22 (1, 0) (0, 0) (0, 0) x0 x1 x2)
    (k0 : N (r0, b00) ≤ 19) (k1 : N (0, b01) ≤ 19) (k2 : N (0, b02) ≤ 19) : 1 / 10000 ≤ x0.1 ∧ N x0 ≤ 25 := by
  obtain ⟨h1, h2, h3, h4⟩ := h.sums (by decide +kernel)
  have n0 := N_nonneg x0
  have n1 := N_nonneg x1
  have n2 := N_nonneg x2
  have e0 := h.e0
  have a0 : re (1, 0) x0 = x0.1 := by unfold re; dsimp only; grind
  have a1 : re (0, 0) x1 = 0 := by unfold re; dsimp only; grind
  have a2 : re (0, 0) x2 = 0 := by unfold re; dsimp only; grind
  rw [a0, a1, a2] at h1
  have hd : csub (cadd (cmul (r0, b00) x0) (cadd (cmul (0, b01) x1) (cmul (0, b02) x2))) (dot [(r0, b00), (0, b01), (0, b02), (1, 0)] [x0, x1, x2, m1]) = (1, 0) := by
    simp only [dot]; unfold csub cadd cmul m1; dsimp only; congr 1 <;> grind
  have d1 := N_sub (cadd (cmul (r0, b00) x0) (cadd (cmul (0, b01) x1) (cmul (0, b02) x2))) (dot [(r0, b00), (0, b01), (0, b02), (1, 0)] [x0, x1, x2, m1])
  rw [hd, N_e0] at d1
  have d2 := N_add (cmul (r0, b00) x0) (cadd (cmul (0, b01) x1) (cmul (0, b02) x2))
  have d3 := N_add (cmul (0, b01) x1) (cmul (0, b02) x2)
  have m0 := Rat.le_trans (N_mul (r0, b00) x0) (Rat.mul_le_mul_of_nonneg_right k0 n0)
  have m1' := Rat.le_trans (N_mul (0, b01) x1) (Rat.mul_le_mul_of_nonneg_right k1 n1)
  have m2 := Rat.le_trans (N_mul (0, b02) x2) (Rat.mul_le_mul_of_nonneg_right k2 n2)
  have hx : N x0 ≤ N x0 + N x1 + N x2 := by grind
  have hS : 0 ≤ N x0 + N x1 + N x2 := by grind
  have hq := le_ab (r0 * sq x0 + r1 * sq x1 + r2 * sq x2 - (x0.1 + 0 + 0))
  have hlow : 1 ≤ 19 * (N x0 + N x1 + N x2) + cE * (1 + (N x0 + N x1 + N x2)) := by grind
  clear hd d1 d2 d3 m0 m1' m2 e0 h k0 k1 k2
  generalize N x0 + N x1 + N x2 = S at *
  generalize r0 * sq x0 + r1 * sq x1 + r2 * sq x2 = P at *
  have hc : cE = 3 / 32000 := rfl
  have hS25 : S ≤ 25 := by
    by_cases h0 : S ≤ 25
    · exact h0
    · have hp : 0 < S := by grind
      have : S * S ≤ (24 * (1 + cE * (1 + S))) * S := by grind
      have := Rat.le_of_mul_le_mul_right this hp
      rw [hc] at this
      grind
  refine ⟨?_, by grind⟩
  generalize cE = c at *
  subst hc
  have hS0 : 263 / 5000 ≤ S := by grind
  have hT : 209 / 100000 ≤ S * (1 / 24) - 3 / 32000 - 3 / 32000 * S := by grind
  have h5 := Rat.mul_le_mul_of_nonneg_left hT hS
  have h6 := Rat.mul_le_mul_of_nonneg_right hS0 (show (0 : Rat) ≤ 209 / 100000 by decide +kernel)
  grind
theorem re_half (x y : CQ) : ab (re x y) * 2 ≤ sq x + sq y := by
  have k1 := sqn (x.1 - y.1)
  have k2 := sqn (x.2 - y.2)
  have k3 := sqn (x.1 + y.1)
  have k4 := sqn (x.2 + y.2)
  have : ab (re x y) ≤ (sq x + sq y) * (1 / 2) := ab_le (by unfold Near re sq; constructor <;> grind)
  grind
theorem off_le {l : Rat} {x y : CQ} (h : ab l ≤ 3 / 4) : -(3 / 8 * (sq x + sq y)) ≤ l * re x y := by
  have h1 := ab_near (l * re x y)
  rw [ab_mul] at h1
  have h2 := Rat.mul_le_mul_of_nonneg_right h (ab_nonneg (re x y))
  have h3 := re_half x y
  unfold Near at h1
  grind
theorem dia_le {l : Rat} {x : CQ} (h : 2 ≤ l) : 2 * sq x ≤ l * re x x := by
  have : re x x = sq x := rfl
  rw [this]
  exact Rat.mul_le_mul_of_nonneg_right h (sq_nonneg x)
theorem stored3 {l00 l01 l02 l10 l11 l12 l20 l21 l22 : Rat} {x0 x1 x2 : CQ} (h00 : 2 ≤ l00) (h11 : 2 ≤ l11) (h22 : 2 ≤ l22) (h01 : ab l01 ≤ 3 / 4) (h02 : ab l02 ≤ 3 / 4) (h10 : ab l10 ≤ 3 / 4) (h12 : ab l12 ≤ 3 / 4) (h20 : ab l20 ≤ 3 / 4) (h21 : ab l21 ≤ 3 / 4) :
    1 / 2 * (sq x0 + sq x1 + sq x2) ≤ l00 * re x0 x0 + l01 * re x0 x1 + l02 * re x0 x2 + l10 * re x1 x0 + l11 * re x1 x1 + l12 * re x1 x2 + l20 * re x2 x0 + l21 * re x2 x1 + l22 * re x2 x2 := by
  have a0 := dia_le (x := x0) h00
  have a1 := dia_le (x := x1) h11
  have a2 := dia_le (x := x2) h22
  have b0 := off_le (x := x0) (y := x1) h01
  have b1 := off_le (x := x0) (y := x2) h02
  have b2 := off_le (x := x1) (y := x0) h10
  have b3 := off_le (x := x1) (y := x2) h12
  have b4 := off_le (x := x2) (y := x0) h20
  have b5 := off_le (x := x2) (y := x1) h21
  grind
def sumW {α : Type} (tw : α → Nat) : List α → Nat → Nat
  | [], s => s
  | i :: l, s => sumW tw l (fop .add .f32 s (tw i))
def sumQ {α : Type} (tq : α → Rat) : List α → Rat
  | [] => 0
  | i :: l => tq i + sumQ tq l
theorem u_le : ur .f32 ≤ uE := by decide +kernel
theorem t_le : tiny .f32 ≤ tE := by decide +kernel
theorem r32_e (q : Rat) : ab (r32 q - q) ≤ ab q * uE + tE := by
  have h := r32_err q
  have h1 := Rat.mul_le_mul_of_nonneg_left u_le (ab_nonneg q)
  have h2 := t_le
  grind
theorem r32_K {q K : Rat} (h : ab q ≤ K) : ab (r32 q - q) ≤ K * uE + tE := by
  have h1 := r32_e q
  have h2 := Rat.mul_le_mul_of_nonneg_right h (Rat.le_of_lt uE_pos)
  grind
theorem rI_nonneg {k : FloatKind} {z : Int} {D : Nat} (h : 0 ≤ z) : 0 ≤ rI k z D := by
  unfold rI Go.Fw.sg
  rw [decide_eq_false (by omega), if_neg (by decide)]
  omega
theorem rnd_nonneg {k : FloatKind} {q : Rat} (h : 0 ≤ q) : 0 ≤ rnd k q := by
  have hu := unit_pos k
  have h1 : 0 ≤ q * unit k := Rat.mul_nonneg h (Rat.le_of_lt hu)
  have h2 : 0 ≤ (q * unit k).num := Rat.num_nonneg.2 h1
  have h3 := rI_nonneg (k := k) (D := (q * unit k).den) h2
  have h4 : (0 : Rat) ≤ (rI k (q * unit k).num (q * unit k).den : Rat) := Rat.intCast_nonneg.2 h3
  rw [← rnd_unit] at h4
  refine Rat.le_of_mul_le_mul_right (c := unit k) ?_ hu
  grind
theorem sum_near {α : Type} {tw : α → Nat} {tq : α → Rat} {ε B D K : Rat} (hD : K * uE + tE ≤ D) (hK : K ≤ most) (hD0 : 0 ≤ D) (hB0 : 0 ≤ B) (hε0 : 0 ≤ ε) : ∀ (l : List α), (∀ i, i ∈ l → ∃ v, Val .f32 (tw i) v ∧ ab (v - tq i) ≤ ε ∧ ab (tq i) ≤ B) →
    ∀ (s : Nat) (σ' σ E : Rat), Val .f32 s σ' → ab (σ' - σ) ≤ E → ab σ + (l.length : Rat) * (B + (ε + D)) + E ≤ K →
      ∃ f, Val .f32 (sumW tw l s) f ∧ ab (f - (σ + sumQ tq l)) ≤ E + (l.length : Rat) * (ε + D) ∧ (0 ≤ σ' → (∀ i, i ∈ l → ∀ v, Val .f32 (tw i) v → 0 ≤ v) → 0 ≤ f)
  | [], _, s, σ', σ, E, hs, he, _ => by
    refine ⟨σ', hs, ?_, fun h _ => h⟩
    simp only [sumQ, List.length_nil]
    rw [show ((0 : Nat) : Rat) = 0 from rfl, show σ + 0 = σ by grind]
    grind
  | i :: l, h, s, σ', σ, E, hs, he, hk => by
    obtain ⟨v, hv, v1, v2⟩ := h i List.mem_cons_self
    have hlen : (((i :: l).length : Nat) : Rat) = (l.length : Rat) + 1 := by simp only [List.length_cons, Rat.natCast_add]; rfl
    rw [hlen] at hk
    have hl0 : (0 : Rat) ≤ (l.length : Rat) := Rat.natCast_nonneg
    have hp := Rat.mul_nonneg hl0 (show 0 ≤ B + (ε + D) by grind)
    have t1 := ab_tri he
    have t2 := ab_tri v1
    have t3 := ab_add σ' v
    have big : ab (σ' + v) ≤ K := by grind
    have hn : Val .f32 (fop .add .f32 s (tw i)) (r32 (σ' + v)) := hs.addR hv (near_ab big) hK
    have r := r32_K big
    have d := ab_add (σ' - σ) (v - tq i)
    rw [show σ' - σ + (v - tq i) = (σ' + v) - (σ + tq i) by grind] at d
    have e := ab_via r (Rat.le_trans d (show _ ≤ E + ε by grind))
    have u := ab_add σ (tq i)
    obtain ⟨f, f1, f2, f3⟩ := sum_near hD hK hD0 hB0 hε0 l (fun j hj => h j (List.mem_cons_of_mem _ hj)) (fop .add .f32 s (tw i)) (r32 (σ' + v)) (σ + tq i) (E + (ε + D)) hn (by grind) (by grind)
    refine ⟨f, f1, ?_, fun h0 hall => f3 ?_ fun j hj => hall j (List.mem_cons_of_mem _ hj)⟩
    · simp only [sumQ]
      rw [hlen]
      rw [show σ + (tq i + sumQ tq l) = σ + tq i + sumQ tq l by grind]
      grind
    · exact rnd_nonneg (by have := hall i List.mem_cons_self v hv; grind)
end Go.Fw.T1

/-
  Equations beside others that have nothing to do with them: the solution is the same.
-/
namespace Go.Fw.T1
open Go.Proofs
theorem rI_idem (k : FloatKind) (z : Int) (D : Nat) : rI k (rI k z D) 1 = rI k z D := by
  have hq : ∀ A B : Nat, rq (fbK k) (rq (fbK k) A B) 1 = rq (fbK k) A B := fun A B => by
    have hk := rq_kept_le (fb := fbK k) (A := A) (B := B)
    have e : rq (fbK k) A B = rqN A (B * 2 ^ rqS (fbK k) A B) * 2 ^ rqS (fbK k) A B := rfl
    rcases Nat.lt_or_eq_of_le hk with h | h
    · rw [e]; exact rq_exact h
    · rw [e, h, ← Nat.pow_add]
      have := rq_exact (fb := fbK k) (m := 1) (p := fbK k + 1 + rqS (fbK k) A B) (Nat.one_lt_two_pow (by omega))
      rw [Nat.one_mul] at this
      exact this
  have h : ∀ (s : Bool) (n : Nat), rI k (sg s n) 1 = sg s (rq (fbK k) n 1) := fun s n => rI_sg k s n 1
  rw [show rI k z D = sg (decide (z < 0)) (rq (fbK k) z.natAbs D) from rfl, h, hq]
theorem r32_idem (q : Rat) : r32 (r32 q) = r32 q := by
  have hu := unit_pos .f32
  have h1 := rnd_unit .f32 q
  have h2 : (rI .f32 (rI .f32 (q * unit .f32).num (q * unit .f32).den) 1 : Rat) = rnd .f32 (rnd .f32 q) * unit .f32 := rnd_of (by omega) (by
    rw [h1, show ((1 : Nat) : Rat) = 1 from rfl, Rat.mul_one])
  rw [rI_idem, ← h1] at h2
  have : (rnd .f32 (rnd .f32 q) - rnd .f32 q) * unit .f32 = 0 := by grind
  unfold r32
  rcases Rat.mul_eq_zero.1 this with h | h <;> grind
theorem r32_zero : r32 0 = 0 := rnd_zero .f32
theorem r64_zero : r64 0 = 0 := rnd_zero .f64
def Rp (a : CQ) : Prop := r32 a.1 = a.1 ∧ r32 a.2 = a.2
theorem rp_mi (a b : CQ) : Rp (miQ a b) := ⟨r32_idem _, r32_idem _⟩
theorem rp_cv {p : C} {a : CQ} (h : CV p a) : Rp a := ⟨h.1.rnd_self, h.2.rnd_self⟩
theorem two64_zero (s : Bool) : two64 s 0 0 = 0 := by
  unfold two64
  rw [r64_zero]
  cases s
  · show r64 (0 + 0) = 0; rw [Rat.add_zero, r64_zero]
  · show r64 (0 - 0) = 0; rw [show (0 : Rat) - 0 = 0 by grind, r64_zero]
theorem tm_zl (p : CQ) : tmQ (0, 0) p = (0, 0) := by
  unfold tmQ; dsimp only
  rw [Rat.zero_mul, Rat.zero_mul, two64_zero, two64_zero, r32_zero]
theorem tm_zr (p : CQ) : tmQ p (0, 0) = (0, 0) := by
  unfold tmQ; dsimp only
  rw [Rat.mul_zero, Rat.mul_zero, two64_zero, two64_zero, r32_zero]
theorem mi_z {a : CQ} (h : Rp a) : miQ a (0, 0) = a := by
  unfold miQ; dsimp only
  rw [show a.1 - 0 = a.1 by grind, show a.2 - 0 = a.2 by grind, h.1, h.2]
theorem rp_z : Rp (0, 0) := ⟨r32_zero, r32_zero⟩
theorem ov_z (b : CQ) : ovQ (0, 0) b = (0, 0) := by
  unfold ovQ; dsimp only
  rw [Rat.zero_mul, Rat.zero_mul, two64_zero, two64_zero, show (0 : Rat) / p64Q b = 0 by rw [Rat.div_def, Rat.zero_mul], r64_zero, r32_zero]
theorem pw_z : pwQ (0, 0) = 0 := by
  unfold pwQ p64Q; dsimp only
  rw [Rat.mul_zero, two64_zero, r32_zero]
def zs (m : Nat) : List CQ := List.replicate m (0, 0)
def extR (m : Nat) : List CQ → List CQ
  | [] => zs m
  | [d] => zs m ++ [d]
  | a :: b :: t => a :: extR m (b :: t)
def extZ (n : Nat) (z : List CQ) : List CQ := zs n ++ z
def joinQ (n m : Nat) (R Z : List (List CQ)) : List (List CQ) := R.map (extR m) ++ Z.map (extZ n)
theorem ext_hd {m : Nat} {l : List CQ} (h : 2 ≤ l.length) : hdq (extR m l) = hdq l := by
  match l, h with
  | a :: b :: t, _ => rfl
theorem ext_tl {m : Nat} {l : List CQ} (h : 2 ≤ l.length) : tl (extR m l) = extR m (tl l) := by
  match l, h with
  | a :: b :: t, _ => rfl
theorem ext_len {m : Nat} : ∀ {l : List CQ}, 1 ≤ l.length → (extR m l).length = l.length + m
  | [d], _ => by simp [extR, zs]; omega
  | a :: b :: t, _ => by
    have := ext_len (m := m) (l := b :: t) (by simp)
    simp only [extR, List.length_cons] at this ⊢
    omega
theorem ext_last {m : Nat} : ∀ {l : List CQ}, 1 ≤ l.length → lastQ (extR m l) = lastQ l
  | [d], _ => by simp [extR, lastQ]
  | a :: b :: t, _ => by
    have ih := ext_last (m := m) (l := b :: t) (by simp)
    have hne : extR m (b :: t) ≠ [] := fun e => by have := ext_len (m := m) (l := b :: t) (by simp); rw [e] at this; simp only [List.length_nil, List.length_cons] at this; omega
    have e1 : ∀ (x : CQ) (l : List CQ), l ≠ [] → lastQ (x :: l) = lastQ l := fun x l hl => by
      cases l with
      | nil => exact absurd rfl hl
      | cons y l => simp [lastQ]
    rw [show extR m (a :: b :: t) = a :: extR m (b :: t) from rfl, e1 _ _ hne, ih, e1 a (b :: t) (by simp)]
theorem ext_mem {m : Nat} {P : CQ → Prop} (hz : P (0, 0)) : ∀ {l : List CQ}, (∀ a, a ∈ l → P a) → ∀ a, a ∈ extR m l → P a
  | [], _, a, ha => by rw [List.eq_of_mem_replicate ha]; exact hz
  | [d], h, a, ha => by
    rcases List.mem_append.1 ha with ha | ha
    · rw [List.eq_of_mem_replicate ha]; exact hz
    · exact h a ha
  | b :: c :: t, h, a, ha => by
    rcases List.mem_cons.1 ha with rfl | ha
    · exact h _ List.mem_cons_self
    · exact ext_mem hz (l := c :: t) (fun x hx => h x (List.mem_cons_of_mem _ hx)) a ha
theorem zip_zs {g : CQ → CQ → CQ} (hg : g (0, 0) (0, 0) = (0, 0)) : ∀ (m : Nat) (l l' : List CQ), List.zipWith g (zs m ++ l) (zs m ++ l') = zs m ++ List.zipWith g l l'
  | 0, l, l' => rfl
  | m + 1, l, l' => by
    have := zip_zs hg m l l'
    simp only [zs, List.replicate_succ, List.cons_append, List.zipWith_cons_cons] at this ⊢
    rw [hg, this]
theorem zip_ext {g : CQ → CQ → CQ} {m : Nat} (hg : g (0, 0) (0, 0) = (0, 0)) : ∀ (l l' : List CQ), l.length = l'.length → 1 ≤ l.length → List.zipWith g (extR m l) (extR m l') = extR m (List.zipWith g l l')
  | [d], [d'], _, _ => by simp only [extR, List.zipWith_cons_cons, List.zipWith_nil_left]; rw [zip_zs hg]; rfl
  | a :: b :: t, a' :: b' :: t', h, _ => by
    have ih := zip_ext (m := m) hg (b :: t) (b' :: t') (by simpa using h) (by simp)
    show g a a' :: List.zipWith g (extR m (b :: t)) (extR m (b' :: t')) = extR m (g a a' :: g b b' :: List.zipWith g t t')
    rw [ih]; rfl
  | [d], a' :: b' :: t', h, _ => by simp at h
  | a :: b :: t, [d'], h, _ => by simp at h
theorem zip_same {g : CQ → CQ → CQ} : ∀ (l l' : List CQ), l.length = l'.length → (∀ a p, a ∈ l → g a p = a) → List.zipWith g l l' = l
  | [], l', _, _ => by simp
  | a :: l, [], h, _ => by simp at h
  | a :: l, b :: l', h, hg => by
    simp only [List.zipWith_cons_cons]
    rw [hg a b List.mem_cons_self, zip_same l l' (by simpa using h) fun x p hx => hg x p (List.mem_cons_of_mem _ hx)]
theorem red_ext {m : Nat} {b q : List CQ} (hb : 2 ≤ b.length) (hq : q.length = b.length) : redQ (extR m b) (extR m q) = extR m (redQ b q) := by
  unfold redQ
  rw [ext_hd hb, ext_hd (by omega), ext_tl hb, ext_tl (by omega)]
  refine zip_ext ?_ _ _ ?_ ?_
  · rw [tm_zr]; exact mi_z rp_z
  · cases q <;> cases b <;> simp_all [tl]
  · match q, (show 2 ≤ q.length by omega) with
    | _ :: _ :: _, _ => simp [tl]
theorem red_extZ {n m : Nat} {b z : List CQ} (hb : b.length = n + 2) (hz : z.length = m + 1) (hr : ∀ a, a ∈ z → Rp a) : redQ (extR m b) (extZ (n + 1) z) = extZ n z := by
  have e1 : extZ (n + 1) z = (0, 0) :: extZ n z := rfl
  unfold redQ
  rw [e1]
  show List.zipWith (fun a p => miQ a (tmQ (ovQ (0, 0) (hdq (extR m b))) p)) (extZ n z) (tl (extR m b)) = extZ n z
  rw [ov_z]
  refine zip_same _ _ ?_ fun a p ha => ?_
  · rw [ext_tl (by omega)]
    have h1 : (tl b).length = n + 1 := by
      match b, hb with
      | _ :: t, h => simpa [tl] using h
    rw [ext_len (by omega), h1]
    simp [extZ, zs, hz]; omega
  · rw [tm_zl]
    refine mi_z ?_
    rcases List.mem_append.1 ha with h | h
    · rw [List.eq_of_mem_replicate h]; exact rp_z
    · exact hr a h
theorem pick_ext {m : Nat} (n : Nat) (Z : List (List CQ)) : ∀ (rs : List (List CQ)) (i : Nat) (b : List CQ) (j : Nat), 2 ≤ b.length → (∀ q, q ∈ rs → 2 ≤ q.length) → 0 < pwQ (hdq (pickQ rs i b j).1) →
    pickQ (rs.map (extR m) ++ Z.map (extZ (n + 1))) i (extR m b) j = (extR m (pickQ rs i b j).1, (pickQ rs i b j).2)
  | [], i, b, j, hb, _, hp => by
    have hz : ∀ (Z : List (List CQ)) (i : Nat), pickQ (Z.map (extZ (n + 1))) i (extR m b) j = (extR m b, j) := by
      intro Z
      induction Z with
      | nil => intro i; rfl
      | cons z Z ih =>
        intro i
        rw [List.map_cons, pickQ, show hdq (extZ (n + 1) z) = (0, 0) from rfl, pw_z, ext_hd hb]
        have hp' : 0 < pwQ (hdq b) := hp
        rw [if_neg (by grind)]
        exact ih _
    exact hz Z i
  | r :: rs, i, b, j, hb, hq, hp => by
    have h1 := hq r List.mem_cons_self
    have h2 : ∀ q, q ∈ rs → 2 ≤ q.length := fun q hqm => hq q (List.mem_cons_of_mem _ hqm)
    rw [pickQ] at hp
    rw [List.map_cons, List.cons_append, pickQ, pickQ, ext_hd hb, ext_hd h1]
    by_cases hc : pwQ (hdq b) < pwQ (hdq r)
    · rw [if_pos hc] at hp
      rw [if_pos hc, if_pos hc]
      exact pick_ext n Z rs (i + 1) r i h1 h2 hp
    · rw [if_neg hc] at hp
      rw [if_neg hc, if_neg hc]
      exact pick_ext n Z rs (i + 1) b j hb h2 hp
theorem oth_ext {α : Type} (r : α) (rs Z : List α) (j : Nat) (hj : j ≤ rs.length) : oth r (rs ++ Z) j = oth r rs j ++ Z := by
  cases j with
  | zero => rfl
  | succ j => simp only [oth]; rw [List.set_append_left _ _ (by omega)]
theorem pick_le (rs : List (List CQ)) (r : List CQ) : (pickQ rs 1 r 0).2 ≤ rs.length := by
  rcases pick_at rs 1 r 0 with h | ⟨k, hk, h⟩ <;> rw [h]
  · exact Nat.zero_le _
  · dsimp only; omega
theorem back_zs {b d : CQ} (hb : Rp b) : ∀ (ys : List CQ), backQ (zs ys.length ++ [d]) ys b = b ∧ (N b ≤ big → (∀ y, y ∈ ys → N y ≤ big) → BackSafe (zs ys.length ++ [d]) ys b)
  | [] => ⟨rfl, fun h _ => h⟩
  | y :: ys => by
    obtain ⟨h1, h2⟩ := back_zs hb (d := d) ys
    have e : zs (y :: ys).length ++ [d] = (0, 0) :: (zs ys.length ++ [d]) := rfl
    rw [e]
    refine ⟨?_, fun hN hy => ?_⟩
    · show backQ (zs ys.length ++ [d]) ys (miQ b (tmQ (0, 0) y)) = b
      rw [tm_zl, mi_z hb, h1]
    · refine ⟨big_zero, hy y List.mem_cons_self, by rw [tm_zl]; exact big_zero, hN, ?_⟩
      rw [tm_zl, mi_z hb]
      exact h2 hN fun x hx => hy x (List.mem_cons_of_mem _ hx)
theorem back_ext : ∀ (xs l : List CQ) (b : CQ) (ys : List CQ), Rp b → l.length = xs.length + 1 →
    backQ (extR ys.length l) (xs ++ ys) b = backQ l xs b ∧ (BackSafe l xs b → (∀ y, y ∈ ys → N y ≤ big) → BackSafe (extR ys.length l) (xs ++ ys) b)
  | [], l, b, ys, hb, hl => by
    obtain ⟨d, rfl⟩ : ∃ d, l = [d] := by
      cases l with
      | nil => simp at hl
      | cons c l => cases l with
        | nil => exact ⟨c, rfl⟩
        | cons d l => simp at hl
    obtain ⟨h1, h2⟩ := back_zs hb (d := d) ys
    exact ⟨h1, fun hs hy => h2 hs hy⟩
  | x :: xs, l, b, ys, hb, hl => by
    obtain ⟨c, d, t, rfl⟩ : ∃ c d t, l = c :: d :: t := by
      match l, hl with
      | c :: d :: t, _ => exact ⟨c, d, t, rfl⟩
    obtain ⟨h1, h2⟩ := back_ext xs (d :: t) (miQ b (tmQ c x)) ys (rp_mi _ _) (by simpa using hl)
    exact ⟨h1, fun hs hy => ⟨hs.1, hs.2.1, hs.2.2.1, hs.2.2.2.1, h2 hs.2.2.2.2 hy⟩⟩
theorem rp_red {b q : List CQ} : ∀ a, a ∈ redQ b q → Rp a := fun a ha => by
  unfold redQ at ha
  obtain ⟨i, hi, rfl⟩ := List.getElem_of_mem ha
  rw [List.getElem_zipWith]
  exact rp_mi _ _
theorem join_sol {m : Nat} {Z : List (List CQ)} (hZr : ∀ z, z ∈ Z → z.length = m + 1) (hZp : ∀ z, z ∈ Z → ∀ a, a ∈ z → Rp a) (hZb : ∀ z, z ∈ Z → ∀ a, a ∈ z → N a ≤ big) (hZs : SafeQ m Z) (hZl : (solQ m Z).length = m) (hZx : ∀ x, x ∈ solQ m Z → N x ≤ big) (hm : 1 ≤ m) :
    ∀ (n : Nat) (R : List (List CQ)), R.length = n → (∀ r, r ∈ R → r.length = n + 1) → (∀ r, r ∈ R → ∀ a, a ∈ r → Rp a) → SafeQ n R → (solQ n R).length = n →
      SafeQ (n + m) (joinQ n m R Z) ∧ solQ (n + m) (joinQ n m R Z) = solQ n R ++ solQ m Z := by
  intro n
  induction n with
  | zero =>
    intro R hR _ _ _ _
    have : R = [] := List.eq_nil_of_length_eq_zero hR
    subst this
    have e : joinQ 0 m [] Z = Z := by
      unfold joinQ
      have : extZ 0 = id := funext fun z => rfl
      rw [this]; simp
    rw [e, Nat.zero_add]
    exact ⟨hZs, rfl⟩
  | succ n ih =>
    intro R hR hrow hrp hs hl
    obtain ⟨r, rs, rfl⟩ : ∃ r rs, R = r :: rs := by
      cases R with
      | nil => simp at hR
      | cons r rs => exact ⟨r, rs, rfl⟩
    obtain ⟨s1, s2, s3, s4, s5, s6⟩ := hs
    have h2 : ∀ q, q ∈ r :: rs → 2 ≤ q.length := fun q hq => by rw [hrow q hq]; omega
    have hpick := pick_ext (m := m) n Z rs 1 r 0 (h2 r List.mem_cons_self) (fun q hq => h2 q (List.mem_cons_of_mem _ hq)) s3
    have hbm := pick_mem r rs
    have hle := pick_le rs r
    have hsolE : solQ (n + 1) (r :: rs) = ovQ (backQ (tl (pickQ rs 1 r 0).1) (solQ n ((oth r rs (pickQ rs 1 r 0).2).map (redQ (pickQ rs 1 r 0).1))) (lastQ (tl (pickQ rs 1 r 0).1))) (hdq (pickQ rs 1 r 0).1) :: solQ n ((oth r rs (pickQ rs 1 r 0).2).map (redQ (pickQ rs 1 r 0).1)) := rfl
    rw [hsolE] at hl
    have ej : joinQ (n + 1) m (r :: rs) Z = extR m r :: (rs.map (extR m) ++ Z.map (extZ (n + 1))) := rfl
    have hsolJ : solQ (n + 1 + m) (joinQ (n + 1) m (r :: rs) Z) = solQ (n + m + 1) (extR m r :: (rs.map (extR m) ++ Z.map (extZ (n + 1)))) := by rw [ej, show n + 1 + m = n + m + 1 by omega]
    have hsafeJ : SafeQ (n + 1 + m) (joinQ (n + 1) m (r :: rs) Z) = SafeQ (n + m + 1) (extR m r :: (rs.map (extR m) ++ Z.map (extZ (n + 1)))) := by rw [ej, show n + 1 + m = n + m + 1 by omega]
    rw [hsolJ, hsafeJ, hsolE]
    simp only [solQ, SafeQ]
    rw [hpick]
    dsimp only
    generalize hj : (pickQ rs 1 r 0).2 = j at *
    generalize hb : (pickQ rs 1 r 0).1 = b at *
    have hbl := hrow b hbm
    have hoth : oth (extR m r) (rs.map (extR m) ++ Z.map (extZ (n + 1))) j = (oth r rs j).map (extR m) ++ Z.map (extZ (n + 1)) := by
      rw [oth_ext _ _ _ _ (by simpa using hle), ← oth_map]
    have hred : (oth (extR m r) (rs.map (extR m) ++ Z.map (extZ (n + 1))) j).map (redQ (extR m b)) = joinQ n m ((oth r rs j).map (redQ b)) Z := by
      rw [hoth, List.map_append, List.map_map, List.map_map]
      unfold joinQ
      rw [List.map_map]
      congr 1
      · refine List.map_congr_left fun q hq => ?_
        exact red_ext (by omega) (by rw [hrow q (oth_mem hq), hbl])
      · refine List.map_congr_left fun z hz => ?_
        exact red_extZ hbl (hZr z hz) (hZp z hz)
    have hlen' : ((oth r rs j).map (redQ b)).length = n := by rw [List.length_map, oth_len]; simpa using hR
    have hrow' : ∀ q, q ∈ (oth r rs j).map (redQ b) → q.length = n + 1 := fun q hq => by
      obtain ⟨q0, hq0, rfl⟩ := List.mem_map.1 hq
      obtain ⟨a, t, e, ht⟩ := ne_cons (hrow q0 (oth_mem hq0))
      obtain ⟨a', t', e', ht'⟩ := ne_cons hbl
      unfold redQ
      rw [List.length_zipWith, e, e']
      simp only [tl, ht, ht']
      omega
    have hrp' : ∀ q, q ∈ (oth r rs j).map (redQ b) → ∀ a, a ∈ q → Rp a := fun q hq => by
      obtain ⟨q0, _, rfl⟩ := List.mem_map.1 hq
      exact rp_red
    obtain ⟨i1, i2⟩ := ih _ hlen' hrow' hrp' s5 (by simpa using hl)
    rw [hred, i2]
    have htl : (tl b).length = n + 1 := by
      obtain ⟨a, t, e, ht⟩ := ne_cons hbl
      rw [e]; exact ht
    have hlast : lastQ (tl (extR m b)) = lastQ (tl b) := by rw [ext_tl (by omega), ext_last (by omega)]
    have hrpl : Rp (lastQ (tl b)) := hrp b hbm _ (tl_mem (last_mem (fun e => by rw [e] at htl; simp at htl)))
    have hback := back_ext (solQ n ((oth r rs j).map (redQ b))) (tl b) (lastQ (tl b)) (solQ m Z) hrpl (by rw [htl]; simpa using hl.symm)
    rw [hZl] at hback
    rw [hlast, ext_hd (by omega), ext_tl (by omega)]
    refine ⟨⟨fun q hq a ha => ?_, s2, s3, fun q hq => ?_, i1, hback.2 s6 hZx⟩, ?_⟩
    · rcases List.mem_cons.1 hq with rfl | hq
      · exact ext_mem (P := fun a => N a ≤ big) big_zero (s1 r List.mem_cons_self) a ha
      · rcases List.mem_append.1 hq with hq | hq
        · obtain ⟨q0, hq0, rfl⟩ := List.mem_map.1 hq
          exact ext_mem (P := fun a => N a ≤ big) big_zero (s1 q0 (List.mem_cons_of_mem _ hq0)) a ha
        · obtain ⟨z, hz, rfl⟩ := List.mem_map.1 hq
          rcases List.mem_append.1 ha with h | h
          · rw [List.eq_of_mem_replicate h]; exact big_zero
          · exact hZb z hz a h
    · rw [hoth] at hq
      rcases List.mem_append.1 hq with hq | hq
      · obtain ⟨q0, hq0, rfl⟩ := List.mem_map.1 hq
        rw [ext_hd (h2 q0 (oth_mem hq0))]
        refine ⟨(s4 q0 hq0).1, fun c hc => ?_⟩
        exact ext_mem (P := fun c => N (tmQ (ovQ (hdq q0) (hdq b)) c) ≤ big) (by rw [tm_zr]; exact big_zero) (s4 q0 hq0).2 c hc
      · obtain ⟨z, hz, rfl⟩ := List.mem_map.1 hq
        rw [show hdq (extZ (n + 1) z) = (0, 0) from rfl, ov_z]
        refine ⟨big_zero, fun c _ => ?_⟩
        rw [tm_zl]; exact big_zero
    · rw [hback.1]; rfl
end Go.Fw.T1

/-
  The solver's words: their numbers, and the way that it goes, from the fractions alone.
-/
namespace Go.Fw.T1
open Go.Proofs
def bitsQ : List (List CQ) → List CQ → List Bool
  | [], _ => []
  | r :: rs, b => if pwQ (hdq b) < pwQ (hdq r) then true :: bitsQ rs r else false :: bitsQ rs b
def waysQ : Nat → List (List CQ) → List Bool
  | 0, _ => []
  | _ + 1, [] => []
  | n + 1, r :: rs => bitsQ rs r ++ waysQ n ((oth r rs (pickQ rs 1 r 0).2).map (redQ (pickQ rs 1 r 0).1))
theorem bits_v : ∀ (rs : List (List C)) (b : List C), (∀ r, r ∈ rs → Rok r) → Rok b → bitsW rs b = bitsQ (rs.map vrow) (vrow b)
  | [], _, _, _ => rfl
  | r :: rs, b, hr, hb => by
    have h1 := hr r List.mem_cons_self
    have h2 : ∀ r, r ∈ rs → Rok r := fun q hq => hr q (List.mem_cons_of_mem _ hq)
    simp only [bitsW, bitsQ, List.map_cons]
    rw [gt_rows h1 hb]
    by_cases hc : pwQ (hdq (vrow b)) < pwQ (hdq (vrow r))
    · rw [decide_eq_true hc, if_pos hc, cond_true, bits_v rs r h2 h1]
    · rw [decide_eq_false hc, if_neg hc, cond_false, bits_v rs b h2 hb]
theorem ways_v : ∀ (n : Nat) (W : List (List C)), (∀ r, r ∈ W → RowF r) → SafeQ n (W.map vrow) → waysW n W = waysQ n (W.map vrow)
  | 0, _, _, _ => rfl
  | n + 1, [], _, _ => rfl
  | n + 1, r :: rs, hF, hs => by
    obtain ⟨s1, s2, s3, s4, s5, s6⟩ := hs
    have hok : ∀ q, q ∈ r :: rs → Rok q := fun q hq => ⟨hF q hq, s1 (vrow q) (List.mem_map.2 ⟨q, hq, rfl⟩)⟩
    have hr := hok r List.mem_cons_self
    have hrs : ∀ q, q ∈ rs → Rok q := fun q hq => hok q (List.mem_cons_of_mem _ hq)
    obtain ⟨p1, p2, p3⟩ := pick_v rs 1 r 0 hrs hr
    simp only [waysW, waysQ, List.map_cons]
    rw [bits_v rs r hrs hr]
    rw [← p1] at s2 s4 s5
    rw [← p2] at s4 s5
    rw [← p1, ← p2]
    generalize (pickW rs 1 r 0).1 = b at *
    generalize (pickW rs 1 r 0).2 = j at *
    have hoth : ∀ q, q ∈ oth r rs j → Rok q := fun q hq => hok q (oth_mem hq)
    rw [← oth_map vrow] at s4 s5
    obtain ⟨_, e2, e3⟩ := elim_v b p3 s2 (oth r rs j) [] (fun _ => (true, [])) hoth s4
    rw [← e2] at s5
    rw [ways_v n _ e3 s5, e2, oth_map vrow]
theorem getD_vq : ∀ (l : List C) (j : Nat), vq (l.getD j cz) = (l.map vq).getD j (0, 0)
  | [], j => by simp only [List.map_nil, List.getD_nil]; exact vq_cz
  | a :: l, 0 => rfl
  | a :: l, j + 1 => by simpa using getD_vq l j
theorem getD_fq {l : List C} (h : RowF l) (j : Nat) : Fq (l.getD j cz) := by
  by_cases hj : j < l.length
  · have : l.getD j cz = l[j] := by simp [hj]
    rw [this]
    exact h _ (List.getElem_mem hj)
  · have : l.getD j cz = cz := by simp [show l.length ≤ j by omega]
    rw [this]
    exact cv_fq cv_cz
section
variable {n : Nat} {x y u v : Nat → Nat}
theorem lSolve_v (hF : ∀ r, r ∈ rowsW n x y u v → RowF r) (hs : SafeQ n ((rowsW n x y u v).map vrow)) : lSolve n x y u v (lwS n x y u v) = (true, solL n (rowsW n x y u v)) := by
  have h := (down_v n (rowsW n x y u v) (lRow n x y u v 0) [] [] hF hs).1
  rw [List.append_nil] at h
  exact h
theorem sol_words (hF : ∀ r, r ∈ rowsW n x y u v → RowF r) (hs : SafeQ n ((rowsW n x y u v).map vrow)) :
    lOk n x y u v = true ∧ ∀ j, Fq (sX n x y u v j, sY n x y u v j) ∧ vq (sX n x y u v j, sY n x y u v j) = (solQ n ((rowsW n x y u v).map vrow)).getD j (0, 0) := by
  obtain ⟨_, h2, h3⟩ := down_v n (rowsW n x y u v) [] [] [] hF hs
  have h := lSolve_v hF hs
  refine ⟨by unfold lOk; rw [h], fun j => ?_⟩
  have e : (sX n x y u v j, sY n x y u v j) = lc (lSolve n x y u v (lwS n x y u v)).2 j := rfl
  rw [e, h]
  dsimp only [lc]
  exact ⟨getD_fq h3 j, by rw [getD_vq, h2]⟩
theorem row_mem {q : List C} (h : q ∈ rowsW n x y u v) : ∃ i, i < n ∧ q = lRow n x y u v i := by
  unfold rowsW at h
  obtain ⟨i, hi, rfl⟩ := List.mem_map.1 h
  exact ⟨i, List.mem_range.1 hi, rfl⟩
theorem row_at {i : Nat} {a : C} (h : a ∈ lRow n x y u v i) : (∃ j, j < n ∧ a = (x (i * n + j), y (i * n + j))) ∨ a = (u i, v i) := by
  unfold lRow at h
  rcases List.mem_append.1 h with h | h
  · obtain ⟨j, hj, rfl⟩ := List.mem_map.1 h
    exact .inl ⟨j, List.mem_range.1 hj, rfl⟩
  · exact .inr (List.mem_singleton.1 h)
theorem row_len {i : Nat} : (lRow n x y u v i).length = n + 1 := by simp [lRow]
end
theorem rows_good {n : Nat} {x y u v : Nat → Nat} (hz : ∀ i j, i < n → j < n → Fq (x (i * n + j), y (i * n + j)) ∧ N (vq (x (i * n + j), y (i * n + j))) ≤ 19) (hv : ∀ i, i < n → Fq (u i, v i) ∧ N (vq (u i, v i)) ≤ 4) :
    (∀ r, r ∈ rowsW n x y u v → RowF r) ∧ Good n 19 ((rowsW n x y u v).map vrow) := by
  refine ⟨fun r hr a ha => ?_, ⟨by simp [rowsW], fun r hr => ?_, fun r hr a ha => ?_⟩⟩
  · obtain ⟨i, hi, rfl⟩ := row_mem hr
    rcases row_at ha with ⟨j, hj, rfl⟩ | rfl
    · exact (hz i j hi hj).1
    · exact (hv i hi).1
  · obtain ⟨q, hq, rfl⟩ := List.mem_map.1 hr
    obtain ⟨i, hi, rfl⟩ := row_mem hq
    unfold vrow
    rw [List.length_map, row_len]
  · obtain ⟨q, hq, rfl⟩ := List.mem_map.1 hr
    obtain ⟨i, hi, rfl⟩ := row_mem hq
    obtain ⟨p, hp, rfl⟩ := List.mem_map.1 ha
    rcases row_at hp with ⟨j, hj, rfl⟩ | rfl
    · exact (hz i j hi hj).2
    · have := (hv i hi).2; grind
end Go.Fw.T1

/-
  Circuits that are drawn: their currents.
-/
namespace Go.Fw.T1
open Go.Proofs
theorem bitsW_len : ∀ (rs : List (List C)) (b : List C), (bitsW rs b).length = rs.length
  | [], _ => rfl
  | r :: rs, b => by
    simp only [bitsW, List.length_cons]
    cases gtW (cpw (hd r)) (cpw (hd b))
    · rw [cond_false, List.length_cons, bitsW_len rs b]
    · rw [cond_true, List.length_cons, bitsW_len rs r]
theorem oth_lenW {α : Type} {r : α} {rs : List α} {j : Nat} : (oth r rs j).length = rs.length := by cases j <;> simp [oth]
def tri : Nat → Nat
  | 0 => 0
  | n + 1 => n + tri n
theorem waysW_len : ∀ (n : Nat) (W : List (List C)), W.length = n → (waysW n W).length = tri n
  | 0, _, _ => rfl
  | n + 1, [], h => by simp at h
  | n + 1, r :: rs, h => by
    simp only [waysW, List.length_append, tri]
    rw [bitsW_len, waysW_len n _ (by rw [List.length_map, oth_lenW]; simpa using h)]
    simp at h; omega
theorem lwS_len (n : Nat) (x y u v : Nat → Nat) : (lwS n x y u v).length = tri n := waysW_len n _ (by simp [rowsW])
theorem way1 (x y u v : Nat → Nat) : wayOk 1 (lwS 1 x y u v) = true := by
  have h := lwS_len 1 x y u v
  generalize lwS 1 x y u v = l at *
  match l, h with
  | [], _ => rfl
theorem way2 (x y u v : Nat → Nat) : wayOk 2 (lwS 2 x y u v) = true := by
  have h := lwS_len 2 x y u v
  generalize lwS 2 x y u v = l at *
  match l, h with
  | [_], _ => rfl
theorem way3 (x y u v : Nat → Nat) : wayOk 3 (lwS 3 x y u v) = true := by
  have h := lwS_len 3 x y u v
  generalize lwS 3 x y u v = l at *
  match l, h with
  | [_, _, _], _ => rfl
def Vok (n : Nat) (u v : Nat → Nat) (V : Rat) : Prop := ∀ i, i < n → Fq (u i, v i) ∧ ab (wv (u i)) ≤ V ∧ ab (wv (v i)) ≤ V
def xq (n : Nat) (R G L : Nat → Nat) (W : Nat) (u v : Nat → Nat) (j : Nat) : C := (cuX n R G L W u v j, cuY n R G L W u v j)
noncomputable def rP (n : Nat) (R : Nat → Nat) (i : Nat) : Rat := if i < n then wv (R i) else 1 / 4
noncomputable def bP (n : Nat) (G L : Nat → Nat) (W i j : Nat) : Rat := if i < n ∧ j < n then wv (zI n G L W (i * n + j)) else 0
noncomputable def vP (n : Nat) (u v : Nat → Nat) (i : Nat) : CQ := if i < n then vq (u i, v i) else (0, 0)
noncomputable def xP (n : Nat) (R G L : Nat → Nat) (W : Nat) (u v : Nat → Nat) (i : Nat) : CQ := if i < n then vq (xq n R G L W u v i) else (0, 0)
def SolP (c V : Rat) (r : Nat → Rat) (b : Nat → Nat → Rat) (v x : Nat → CQ) : Prop := Sol3 c V (r 0) (r 1) (r 2) (b 0 0) (b 0 1) (b 0 2) (b 1 1) (b 1 2) (b 2 2) (v 0) (v 1) (v 2) (x 0) (x 1) (x 2)
structure Cur (n : Nat) (R G L : Nat → Nat) (W : Nat) (u v : Nat → Nat) (V : Rat) : Prop where
  ok : curOk n R G L W u v = true
  fq : ∀ j, Fq (xq n R G L W u v j)
  hF : ∀ r, r ∈ rowsW n (zR n R) (zI n G L W) u v → RowF r
  safe : SafeQ n ((rowsW n (zR n R) (zI n G L W) u v).map vrow)
  len : (solQ n ((rowsW n (zR n R) (zI n G L W) u v).map vrow)).length = n
  val : ∀ j, vq (xq n R G L W u v j) = (solQ n ((rowsW n (zR n R) (zI n G L W) u v).map vrow)).getD j (0, 0)
  sol : SolP cE V (rP n R) (bP n G L W) (vP n u v) (xP n R G L W u v)
section
variable {n : Nat} {R G L : Nat → Nat} {W : Nat} {u v : Nat → Nat} {V : Rat}
theorem Dr.entry (h : Dr n R G L W) {i j : Nat} (hi : i < n) (hj : j < n) : Fq (zR n R (i * n + j), zI n G L W (i * n + j)) ∧ N (vq (zR n R (i * n + j), zI n G L W (i * n + j))) ≤ 19 := by
  by_cases hij : i = j
  · subst hij
    obtain ⟨h1, h2, h3⟩ := h.diag hi
    obtain ⟨hr, r0, r1⟩ := h.rv hi
    refine ⟨h1, ?_⟩
    show ab (wv _) + ab (wv _) ≤ 19
    rw [h3, ab_pos_eq (by grind)]
    grind
  · obtain ⟨h1, h2, h3, _⟩ := h.off hi hj hij
    refine ⟨h1, ?_⟩
    show ab (wv _) + ab (wv _) ≤ 19
    rw [h3, ab_zero]
    grind
theorem Vok.four (hv : Vok n u v V) (hV : V ≤ 2) (i : Nat) (hi : i < n) : Fq (u i, v i) ∧ N (vq (u i, v i)) ≤ 4 := by
  obtain ⟨h1, h2, h3⟩ := hv i hi
  refine ⟨h1, ?_⟩
  show ab (wv _) + ab (wv _) ≤ 4
  grind
theorem Vok.re (hv : Vok n u v V) {i : Nat} (hi : i < n) (x : CQ) : ab (re (vq (u i, v i)) x) ≤ V * N x := by
  obtain ⟨_, h2, h3⟩ := hv i hi
  exact re_le h2 h3
theorem re_z (x : CQ) : re (0, 0) x = 0 := by unfold Go.Fw.T1.re; dsimp only; grind
theorem re_zV (x : CQ) (hV : 0 ≤ V) : ab (re (0, 0) x) ≤ V * N x := by rw [re_z, ab_zero]; exact Rat.mul_nonneg hV (N_nonneg x)
theorem res_cE {κ S t : Rat} (h : t ≤ κ * uE * (1 + S)) (hκ : κ ≤ 1500) (hS : 0 ≤ S) : t ≤ cE * (1 + S) := by
  have h1 := Rat.mul_le_mul_of_nonneg_right hκ (Rat.le_of_lt uE_pos)
  have h2 := Rat.mul_le_mul_of_nonneg_right h1 (show 0 ≤ 1 + S by grind)
  have e : (1500 : Rat) * uE = cE := by decide +kernel
  rw [e] at h2
  exact Rat.le_trans h h2
theorem Dr.rows1 (h : Dr 1 R G L W) : (rowsW 1 (zR 1 R) (zI 1 G L W) u v).map vrow = R1 (wv (R 0)) (wv (zI 1 G L W (0 * 1 + 0))) (vq (u 0, v 0)) := by
  have e : (rowsW 1 (zR 1 R) (zI 1 G L W) u v).map vrow = [[(wv (zR 1 R (0 * 1 + 0)), wv (zI 1 G L W (0 * 1 + 0))), vq (u 0, v 0)]] := rfl
  rw [e, (h.diag (i := 0) (by omega)).2.2]
  rfl
theorem Dr.rows2 (h : Dr 2 R G L W) : (rowsW 2 (zR 2 R) (zI 2 G L W) u v).map vrow = R2 (wv (R 0)) (wv (R 1)) (wv (zI 2 G L W (0 * 2 + 0))) (wv (zI 2 G L W (0 * 2 + 1))) (wv (zI 2 G L W (1 * 2 + 1))) (vq (u 0, v 0)) (vq (u 1, v 1)) := by
  have e : (rowsW 2 (zR 2 R) (zI 2 G L W) u v).map vrow = [[(wv (zR 2 R (0 * 2 + 0)), wv (zI 2 G L W (0 * 2 + 0))), (wv (zR 2 R (0 * 2 + 1)), wv (zI 2 G L W (0 * 2 + 1))), vq (u 0, v 0)],
    [(wv (zR 2 R (1 * 2 + 0)), wv (zI 2 G L W (1 * 2 + 0))), (wv (zR 2 R (1 * 2 + 1)), wv (zI 2 G L W (1 * 2 + 1))), vq (u 1, v 1)]] := rfl
  rw [e, (h.diag (i := 0) (by omega)).2.2, (h.diag (i := 1) (by omega)).2.2, (h.off (i := 0) (j := 1) (by omega) (by omega) (by omega)).2.2.1, (h.off (i := 1) (j := 0) (by omega) (by omega) (by omega)).2.2.1, (h.off (i := 1) (j := 0) (by omega) (by omega) (by omega)).2.2.2]
  rfl
theorem Dr.rows3 (h : Dr 3 R G L W) : (rowsW 3 (zR 3 R) (zI 3 G L W) u v).map vrow = R3 (wv (R 0)) (wv (R 1)) (wv (R 2)) (wv (zI 3 G L W (0 * 3 + 0))) (wv (zI 3 G L W (0 * 3 + 1))) (wv (zI 3 G L W (0 * 3 + 2))) (wv (zI 3 G L W (1 * 3 + 1))) (wv (zI 3 G L W (1 * 3 + 2))) (wv (zI 3 G L W (2 * 3 + 2))) (vq (u 0, v 0)) (vq (u 1, v 1)) (vq (u 2, v 2)) := by
  have e : (rowsW 3 (zR 3 R) (zI 3 G L W) u v).map vrow = [[(wv (zR 3 R (0 * 3 + 0)), wv (zI 3 G L W (0 * 3 + 0))), (wv (zR 3 R (0 * 3 + 1)), wv (zI 3 G L W (0 * 3 + 1))), (wv (zR 3 R (0 * 3 + 2)), wv (zI 3 G L W (0 * 3 + 2))), vq (u 0, v 0)],
    [(wv (zR 3 R (1 * 3 + 0)), wv (zI 3 G L W (1 * 3 + 0))), (wv (zR 3 R (1 * 3 + 1)), wv (zI 3 G L W (1 * 3 + 1))), (wv (zR 3 R (1 * 3 + 2)), wv (zI 3 G L W (1 * 3 + 2))), vq (u 1, v 1)],
    [(wv (zR 3 R (2 * 3 + 0)), wv (zI 3 G L W (2 * 3 + 0))), (wv (zR 3 R (2 * 3 + 1)), wv (zI 3 G L W (2 * 3 + 1))), (wv (zR 3 R (2 * 3 + 2)), wv (zI 3 G L W (2 * 3 + 2))), vq (u 2, v 2)]] := rfl
  rw [e, (h.diag (i := 0) (by omega)).2.2, (h.diag (i := 1) (by omega)).2.2, (h.diag (i := 2) (by omega)).2.2, (h.off (i := 0) (j := 1) (by omega) (by omega) (by omega)).2.2.1, (h.off (i := 1) (j := 0) (by omega) (by omega) (by omega)).2.2.1, (h.off (i := 1) (j := 0) (by omega) (by omega) (by omega)).2.2.2,
    (h.off (i := 0) (j := 2) (by omega) (by omega) (by omega)).2.2.1, (h.off (i := 2) (j := 0) (by omega) (by omega) (by omega)).2.2.1, (h.off (i := 2) (j := 0) (by omega) (by omega) (by omega)).2.2.2,
    (h.off (i := 1) (j := 2) (by omega) (by omega) (by omega)).2.2.1, (h.off (i := 2) (j := 1) (by omega) (by omega) (by omega)).2.2.1, (h.off (i := 2) (j := 1) (by omega) (by omega) (by omega)).2.2.2]
  rfl
theorem SolP.fit {c V : Rat} {r : Nat → Rat} {b : Nat → Nat → Rat} {v x : Nat → CQ} {r0 r1 r2 b00 b01 b02 b11 b12 b22 : Rat} {v0 v1 v2 x0 x1 x2 : CQ} (h : Sol3 c V r0 r1 r2 b00 b01 b02 b11 b12 b22 v0 v1 v2 x0 x1 x2)
    (h0 : r 0 = r0) (h1 : r 1 = r1) (h2 : r 2 = r2) (h00 : b 0 0 = b00) (h01 : b 0 1 = b01) (h02 : b 0 2 = b02) (h11 : b 1 1 = b11) (h12 : b 1 2 = b12) (h22 : b 2 2 = b22) (hv0 : v 0 = v0) (hv1 : v 1 = v1) (hv2 : v 2 = v2) (hx0 : x 0 = x0) (hx1 : x 1 = x1) (hx2 : x 2 = x2) : SolP c V r b v x := by
  subst h0 h1 h2 h00 h01 h02 h11 h12 h22 hv0 hv1 hv2 hx0 hx1 hx2
  exact h
theorem N00 : N ((0, 0) : CQ) = 0 := N_zero
theorem cur1 (h : Dr 1 R G L W) (hv : Vok 1 u v V) (hV : V ≤ 2) (hV0 : 0 ≤ V) : Cur 1 R G L W u v V := by
  obtain ⟨hF, hG⟩ := rows_good (n := 1) (x := zR 1 R) (y := zI 1 G L W) (u := u) (v := v) (fun i j hi hj => h.entry hi hj) (hv.four hV)
  have hr := h.rows1 (u := u) (v := v)
  have hlow : Low 1 8 ((rowsW 1 (zR 1 R) (zI 1 G L W) u v).map vrow) := by rw [hr]; exact low1 (h.rv (by omega)).2.1
  have S := sol_1 (by decide) (by decide) (by decide) (by decide) hG hlow
  obtain ⟨w1, w2⟩ := sol_words hF S.safe
  refine ⟨by unfold curOk; rw [way1, w1]; rfl, fun j => (w2 j).1, hF, S.safe, S.len, fun j => (w2 j).2, ?_⟩
  obtain ⟨x0, hx⟩ := len1 S.len
  have v0 := (w2 0).2
  have sres := S.res
  rw [hx] at v0 sres
  rw [hr] at sres
  have e0 := sres _ List.mem_cons_self
  simp only [sumN] at e0
  have n0 := N_nonneg x0
  refine SolP.fit (r0 := wv (R 0)) (r1 := 1 / 4) (r2 := 1 / 4) (b00 := wv (zI 1 G L W (0 * 1 + 0))) (b01 := 0) (b02 := 0) (b11 := 0) (b12 := 0) (b22 := 0) (v0 := vq (u 0, v 0)) (v1 := (0, 0)) (v2 := (0, 0)) (x0 := x0) (x1 := (0, 0)) (x2 := (0, 0)) ?_ rfl rfl rfl rfl rfl rfl rfl rfl rfl rfl rfl rfl v0 rfl rfl
  refine ⟨(h.rv (by omega)).2.1, Rat.le_refl, Rat.le_refl, hv.re (by omega) _, re_zV _ hV0, re_zV _ hV0, ?_, ?_, ?_⟩
  · have e0 := res_cE e0 (by decide +kernel) (by grind)
    rw [N00, Rat.add_zero, Rat.add_zero]
    rw [Rat.add_zero] at e0
    have : dot [(wv (R 0), wv (zI 1 G L W (0 * 1 + 0))), (0, 0), (0, 0), vq (u 0, v 0)] [x0, (0, 0), (0, 0), m1] = dot [(wv (R 0), wv (zI 1 G L W (0 * 1 + 0))), vq (u 0, v 0)] ([x0] ++ [m1]) := by
      simp only [dot, List.cons_append, List.nil_append]; unfold cadd cmul; dsimp only; congr 1 <;> grind
    rw [this]
    exact e0
  all_goals
    rw [N00, Rat.add_zero, Rat.add_zero]
    simp only [dot]
    have : ∀ a : Rat, cadd (cmul ((0 : Rat), (0 : Rat)) x0) (cadd (cmul (a, (0 : Rat)) (0, 0)) (cadd (cmul ((0 : Rat), (0 : Rat)) (0, 0)) (cadd (cmul (0, 0) m1) (0, 0)))) = (0, 0) := fun a => by unfold cadd cmul; dsimp only; congr 1 <;> grind
    have t2 : ∀ a : Rat, cadd (cmul ((0 : Rat), (0 : Rat)) x0) (cadd (cmul ((0 : Rat), (0 : Rat)) (0, 0)) (cadd (cmul (a, (0 : Rat)) (0, 0)) (cadd (cmul (0, 0) m1) (0, 0)))) = (0, 0) := fun a => by unfold cadd cmul; dsimp only; congr 1 <;> grind
    first | rw [this, N00] | rw [t2, N00]
    exact Rat.mul_nonneg (by decide +kernel) (by grind)
end
end Go.Fw.T1

/-
  Circuits that are drawn: the currents of two and of three loops.
-/
namespace Go.Fw.T1
open Go.Proofs
section
variable {n : Nat} {R G L : Nat → Nat} {W : Nat} {u v : Nat → Nat} {V : Rat}
theorem cur2 (h : Dr 2 R G L W) (hv : Vok 2 u v V) (hV : V ≤ 2) (hV0 : 0 ≤ V) : Cur 2 R G L W u v V := by
  obtain ⟨hF, hG⟩ := rows_good (n := 2) (x := zR 2 R) (y := zI 2 G L W) (u := u) (v := v) (fun i j hi hj => h.entry hi hj) (hv.four hV)
  have hr := h.rows2 (u := u) (v := v)
  have hlow : Low 2 8 ((rowsW 2 (zR 2 R) (zI 2 G L W) u v).map vrow) := by rw [hr]; exact low2 (h.rv (by omega)).2.1 (h.rv (by omega)).2.1
  have S := sol_2 (by decide) (by decide) (by decide) (by decide) hG hlow
  obtain ⟨w1, w2⟩ := sol_words hF S.safe
  refine ⟨by unfold curOk; rw [way2, w1]; rfl, fun j => (w2 j).1, hF, S.safe, S.len, fun j => (w2 j).2, ?_⟩
  obtain ⟨x0, x1, hx⟩ := len2 S.len
  have v0 := (w2 0).2
  have v1 := (w2 1).2
  have sres := S.res
  rw [hx] at v0 v1 sres
  rw [hr] at sres
  have e0 := sres _ List.mem_cons_self
  have e1 := sres _ (List.mem_cons_of_mem _ List.mem_cons_self)
  simp only [sumN] at e0 e1
  have n0 := N_nonneg x0
  have n1 := N_nonneg x1
  refine SolP.fit (r0 := wv (R 0)) (r1 := wv (R 1)) (r2 := 1 / 4) (b00 := wv (zI 2 G L W (0 * 2 + 0))) (b01 := wv (zI 2 G L W (0 * 2 + 1))) (b02 := 0) (b11 := wv (zI 2 G L W (1 * 2 + 1))) (b12 := 0) (b22 := 0) (v0 := vq (u 0, v 0)) (v1 := vq (u 1, v 1)) (v2 := (0, 0)) (x0 := x0) (x1 := x1) (x2 := (0, 0)) ?_ rfl rfl rfl rfl rfl rfl rfl rfl rfl rfl rfl rfl v0 v1 rfl
  refine ⟨(h.rv (by omega)).2.1, (h.rv (by omega)).2.1, Rat.le_refl, hv.re (by omega) _, hv.re (by omega) _, re_zV _ hV0, ?_, ?_, ?_⟩
  · have e0 := res_cE e0 k2_19 (by grind)
    rw [N00, Rat.add_zero]
    rw [Rat.add_zero] at e0
    have : dot [(wv (R 0), wv (zI 2 G L W (0 * 2 + 0))), (0, wv (zI 2 G L W (0 * 2 + 1))), (0, 0), vq (u 0, v 0)] [x0, x1, (0, 0), m1] = dot [(wv (R 0), wv (zI 2 G L W (0 * 2 + 0))), (0, wv (zI 2 G L W (0 * 2 + 1))), vq (u 0, v 0)] ([x0, x1] ++ [m1]) := by
      simp only [dot, List.cons_append, List.nil_append]; unfold cadd cmul; dsimp only; congr 1 <;> grind
    rw [this]
    exact e0
  · have e1 := res_cE e1 k2_19 (by grind)
    rw [N00, Rat.add_zero]
    rw [Rat.add_zero] at e1
    have : dot [(0, wv (zI 2 G L W (0 * 2 + 1))), (wv (R 1), wv (zI 2 G L W (1 * 2 + 1))), (0, 0), vq (u 1, v 1)] [x0, x1, (0, 0), m1] = dot [(0, wv (zI 2 G L W (0 * 2 + 1))), (wv (R 1), wv (zI 2 G L W (1 * 2 + 1))), vq (u 1, v 1)] ([x0, x1] ++ [m1]) := by
      simp only [dot, List.cons_append, List.nil_append]; unfold cadd cmul; dsimp only; congr 1 <;> grind
    rw [this]
    exact e1
  · rw [N00, Rat.add_zero]
    simp only [dot]
    have t2 : ∀ a : Rat, cadd (cmul ((0 : Rat), (0 : Rat)) x0) (cadd (cmul ((0 : Rat), (0 : Rat)) x1) (cadd (cmul (a, (0 : Rat)) (0, 0)) (cadd (cmul (0, 0) m1) (0, 0)))) = (0, 0) := fun a => by unfold cadd cmul; dsimp only; congr 1 <;> grind
    rw [t2, N00]
    exact Rat.mul_nonneg (by decide +kernel) (by grind)
theorem cur3 (h : Dr 3 R G L W) (hv : Vok 3 u v V) (hV : V ≤ 2) : Cur 3 R G L W u v V := by
  obtain ⟨hF, hG⟩ := rows_good (n := 3) (x := zR 3 R) (y := zI 3 G L W) (u := u) (v := v) (fun i j hi hj => h.entry hi hj) (hv.four hV)
  have hr := h.rows3 (u := u) (v := v)
  have hlow : Low 3 8 ((rowsW 3 (zR 3 R) (zI 3 G L W) u v).map vrow) := by rw [hr]; exact low3 (h.rv (by omega)).2.1 (h.rv (by omega)).2.1 (h.rv (by omega)).2.1
  have S := sol_3 (by decide) (by decide) (by decide) (by decide) hG hlow
  obtain ⟨w1, w2⟩ := sol_words hF S.safe
  refine ⟨by unfold curOk; rw [way3, w1]; rfl, fun j => (w2 j).1, hF, S.safe, S.len, fun j => (w2 j).2, ?_⟩
  obtain ⟨x0, x1, x2, hx⟩ := len3 S.len
  have v0 := (w2 0).2
  have v1 := (w2 1).2
  have v2 := (w2 2).2
  have sres := S.res
  rw [hx] at v0 v1 v2 sres
  rw [hr] at sres
  have e0 := sres _ List.mem_cons_self
  have e1 := sres _ (List.mem_cons_of_mem _ List.mem_cons_self)
  have e2 := sres _ (List.mem_cons_of_mem _ (List.mem_cons_of_mem _ List.mem_cons_self))
  simp only [sumN] at e0 e1 e2
  have n0 := N_nonneg x0
  have n1 := N_nonneg x1
  have n2 := N_nonneg x2
  refine SolP.fit (r0 := wv (R 0)) (r1 := wv (R 1)) (r2 := wv (R 2)) (b00 := wv (zI 3 G L W (0 * 3 + 0))) (b01 := wv (zI 3 G L W (0 * 3 + 1))) (b02 := wv (zI 3 G L W (0 * 3 + 2))) (b11 := wv (zI 3 G L W (1 * 3 + 1))) (b12 := wv (zI 3 G L W (1 * 3 + 2))) (b22 := wv (zI 3 G L W (2 * 3 + 2))) (v0 := vq (u 0, v 0)) (v1 := vq (u 1, v 1)) (v2 := vq (u 2, v 2)) (x0 := x0) (x1 := x1) (x2 := x2) ?_ rfl rfl rfl rfl rfl rfl rfl rfl rfl rfl rfl rfl v0 v1 v2
  have eS : N x0 + (N x1 + (N x2 + 0)) = N x0 + N x1 + N x2 := by grind
  rw [eS] at e0 e1 e2
  refine ⟨(h.rv (by omega)).2.1, (h.rv (by omega)).2.1, (h.rv (by omega)).2.1, hv.re (by omega) _, hv.re (by omega) _, hv.re (by omega) _, ?_, ?_, ?_⟩
  · exact res_cE e0 k3_19 (by grind)
  · exact res_cE e1 k3_19 (by grind)
  · exact res_cE e2 k3_19 (by grind)
theorem cur (h : Dr n R G L W) (hn : n = 1 ∨ n = 2 ∨ n = 3) (hv : Vok n u v V) (hV : V ≤ 2) (hV0 : 0 ≤ V) : Cur n R G L W u v V := by
  rcases hn with rfl | rfl | rfl
  · exact cur1 h hv hV hV0
  · exact cur2 h hv hV hV0
  · exact cur3 h hv hV
end
end Go.Fw.T1

/-
  What the equations make of the currents: nearly the volts.
-/
namespace Go.Fw.T1
open Go.Proofs
theorem ngt_val {k : FloatKind} {x y : Nat} {a b : Rat} (hx : Val k x a) (hy : Val k y b) (h : a ≤ b) : (!(forder k x y == some .gt)) = true := by
  rw [hx.orderR hy]
  by_cases h1 : a < b
  · rw [if_pos h1]; rfl
  · rw [if_neg h1, if_neg (by grind)]; rfl
theorem nlt_val {k : FloatKind} {x y : Nat} {a b : Rat} (hx : Val k x a) (hy : Val k y b) (h : b ≤ a) : (forder k x y == some .lt) = false := by
  rw [hx.orderR hy, if_neg (by grind)]
  by_cases h1 : b < a
  · rw [if_pos h1]; rfl
  · rw [if_neg h1]; rfl
theorem ylt_val {k : FloatKind} {x y : Nat} {a b : Rat} (hx : Val k x a) (hy : Val k y b) (h : a < b) : (forder k x y == some .lt) = true := by
  rw [hx.orderR hy, if_pos h]; rfl
theorem gap_val {a b : Nat} {x y : Rat} (ha : Val .f64 a x) (hb : Val .f64 b y) (h : ab (x - y) ≤ most) : Val .f64 (gap a b) (r64 (ab (x - y))) := by
  unfold gap
  by_cases h1 : x < y
  · rw [ylt_val ha hb h1, cond_true]
    have e : ab (x - y) = y - x := by unfold ab; rw [if_neg (by grind)]; grind
    rw [e] at h ⊢
    have e2 : ab (y - x) = y - x := ab_pos_eq (by grind)
    exact hb.subR ha (near_ab (by rw [e2]; exact h)) Rat.le_refl
  · rw [nlt_val ha hb (by grind), cond_false]
    have e : ab (x - y) = x - y := ab_pos_eq (by grind)
    have h' := h
    rw [e] at h ⊢
    exact ha.subR hb (near_ab h') Rat.le_refl
theorem r64_le {q d : Rat} (h : ab q ≤ d) : r64 q ≤ d + (d * eE + sE) := by
  have h1 := r64_err q
  have h2 := Rat.mul_le_mul_of_nonneg_right h (Rat.le_of_lt eE_pos)
  have h3 := ab_near (r64 q - q)
  have h4 := le_ab q
  unfold Near at h3
  grind
theorem off_val {p q : C} {d : Rat} (hp : Fq p) (hq : Fq q) (h : N (csub (vq p) (vq q)) ≤ d) (hd : d ≤ most) : ∃ o, Val .f64 (off p.1 p.2 q.1 q.2) o ∧ o ≤ d + (d * eE + sE) := by
  have e : N (csub (vq p) (vq q)) = ab (wv p.1 - wv q.1) + ab (wv p.2 - wv q.2) := rfl
  rw [e] at h
  have a1 := ab_nonneg (wv p.1 - wv q.1)
  have a2 := ab_nonneg (wv p.2 - wv q.2)
  have g1 := gap_val (Val.widen hp.1) (Val.widen hq.1) (show ab (wv p.1 - wv q.1) ≤ most by grind)
  have g2 := gap_val (Val.widen hp.2) (Val.widen hq.2) (show ab (wv p.2 - wv q.2) ≤ most by grind)
  have g := fmax_val g1 g2
  have i1 : ab (ab (wv p.1 - wv q.1)) ≤ d := by rw [ab_pos_eq a1]; grind
  have i2 : ab (ab (wv p.2 - wv q.2)) ≤ d := by rw [ab_pos_eq a2]; grind
  refine ⟨_, g, ?_⟩
  have l1 := r64_le i1
  have l2 := r64_le i2
  split
  · exact l2
  · exact l1
def plQ (a b : CQ) : CQ := (r32 (a.1 + b.1), r32 (a.2 + b.2))
theorem pl_err {a b : CQ} {K : Rat} (h : N (cadd a b) ≤ K) : N (csub (plQ a b) (cadd a b)) ≤ K * uE + 2 * tE := by
  have h1 := r32_e (a.1 + b.1)
  have h2 := r32_e (a.2 + b.2)
  have e : N (csub (plQ a b) (cadd a b)) = ab (r32 (a.1 + b.1) - (a.1 + b.1)) + ab (r32 (a.2 + b.2) - (a.2 + b.2)) := rfl
  have e' : N (cadd a b) = ab (a.1 + b.1) + ab (a.2 + b.2) := rfl
  rw [e'] at h
  rw [e]
  have := Rat.mul_le_mul_of_nonneg_right h (Rat.le_of_lt uE_pos)
  grind
theorem fq_pl {p q : C} (hp : Fq p) (hq : Fq q) (h : N (cadd (vq p) (vq q)) ≤ most) : Fq (cpl p q) ∧ vq (cpl p q) = plQ (vq p) (vq q) := by
  have e' : N (cadd (vq p) (vq q)) = ab (wv p.1 + wv q.1) + ab (wv p.2 + wv q.2) := rfl
  rw [e'] at h
  have a1 := ab_nonneg (wv p.1 + wv q.1)
  have a2 := ab_nonneg (wv p.2 + wv q.2)
  have h1 := Val.addR hp.1 hq.1 (X := most) (near_ab (show ab (wv p.1 + wv q.1) ≤ most by grind)) Rat.le_refl
  have h2 := Val.addR hp.2 hq.2 (X := most) (near_ab (show ab (wv p.2 + wv q.2) ≤ most by grind)) Rat.le_refl
  have hc : CV (cpl p q) (plQ (vq p) (vq q)) := ⟨h1, h2⟩
  exact ⟨cv_fq hc, cv_eq hc⟩
def tmL : List (C × C) → C → C
  | [], s => s
  | p :: l, s => tmL l (cpl s (ctm p.1 p.2))
theorem tmvG_eq (n : Nat) (x y u v : Nat → Nat) (r : Nat) : ∀ (cs : List Nat) (s : C), tmvG n x y u v r cs s = tmL (cs.map fun c => ((x (r * n + c), y (r * n + c)), (u c, v c))) s
  | [], _ => rfl
  | c :: cs, s => tmvG_eq n x y u v r cs _
noncomputable def dotP : List (C × C) → CQ → CQ
  | [], s => s
  | p :: l, s => dotP l (cadd s (cmul (vq p.1) (vq p.2)))
def stepE : Rat := 1 / 2000
theorem tm_near : ∀ (l : List (C × C)) (s : C) (sQ : CQ) (E : Rat), (∀ p, p ∈ l → Fq p.1 ∧ N (vq p.1) ≤ 19 ∧ Fq p.2 ∧ N (vq p.2) ≤ 50) → Fq s → N (csub (vq s) sQ) ≤ E → N sQ + (l.length : Rat) * 1001 + E ≤ 5000 →
    Fq (tmL l s) ∧ N (csub (vq (tmL l s)) (dotP l sQ)) ≤ E + (l.length : Rat) * stepE
  | [], s, sQ, E, _, hs, he, _ => by
    refine ⟨hs, ?_⟩
    simp only [List.length_nil]
    rw [show ((0 : Nat) : Rat) = 0 from rfl]
    show N (csub (vq s) sQ) ≤ _
    grind
  | p :: l, s, sQ, E, h, hs, he, hk => by
    obtain ⟨p1, p2, p3, p4⟩ := h p List.mem_cons_self
    have hlen : (((p :: l).length : Nat) : Rat) = (l.length : Rat) + 1 := by simp only [List.length_cons, Rat.natCast_add]; rfl
    rw [hlen] at hk ⊢
    have hl0 : (0 : Rat) ≤ (l.length : Rat) := Rat.natCast_nonneg
    have b50 : (50 : Rat) ≤ big := by decide +kernel
    obtain ⟨t1, t2, _⟩ := fq_tm p1 p3 (by grind) (by grind)
    have te := tm_err (vq p.1) (vq p.2)
    have n1 := Rat.mul_le_mul_of_nonneg_right p2 (N_nonneg (vq p.2))
    have n2 := Rat.mul_le_mul_of_nonneg_left p4 (show (0 : Rat) ≤ 19 by decide)
    have hp950 : N (vq p.1) * N (vq p.2) ≤ 950 := by grind
    have hu := uE_pos
    have n3 := Rat.mul_le_mul_of_nonneg_right hp950 (Rat.le_of_lt hu)
    have kt : 950 * uE + tE ≤ 1 / 10000 := by decide +kernel
    have te' : N (csub (tmQ (vq p.1) (vq p.2)) (cmul (vq p.1) (vq p.2))) ≤ 1 / 10000 := by grind
    have mt := N_mul (vq p.1) (vq p.2)
    have tt := N_tri te'
    have ss := N_tri he
    have ad := N_add (vq s) (tmQ (vq p.1) (vq p.2))
    have K : N (cadd (vq s) (tmQ (vq p.1) (vq p.2))) ≤ 5000 := by grind
    have hm : (5000 : Rat) ≤ most := by decide +kernel
    rw [← t2] at K te'
    obtain ⟨f1, f2⟩ := fq_pl hs t1 (by grind)
    have pe := pl_err K
    rw [← f2] at pe
    have kp : 5000 * uE + 2 * tE ≤ 1 / 3000 := by decide +kernel
    have e2 : N (csub (cadd (vq s) (vq (ctm p.1 p.2))) (cadd sQ (cmul (vq p.1) (vq p.2)))) ≤ E + 1 / 10000 := by
      have := N_add (csub (vq s) sQ) (csub (vq (ctm p.1 p.2)) (cmul (vq p.1) (vq p.2)))
      rw [show cadd (csub (vq s) sQ) (csub (vq (ctm p.1 p.2)) (cmul (vq p.1) (vq p.2))) = csub (cadd (vq s) (vq (ctm p.1 p.2))) (cadd sQ (cmul (vq p.1) (vq p.2))) by unfold cadd csub; dsimp only; congr 1 <;> grind] at this
      grind
    have e3 := N_via pe e2
    have ks : (1 : Rat) / 10000 + 1 / 3000 ≤ stepE := by decide +kernel
    have nadd := N_add sQ (cmul (vq p.1) (vq p.2))
    have kst : stepE ≤ 1 := by decide +kernel
    obtain ⟨i1, i2⟩ := tm_near l (cpl s (ctm p.1 p.2)) (cadd sQ (cmul (vq p.1) (vq p.2))) (E + stepE) (fun q hq => h q (List.mem_cons_of_mem _ hq)) f1 (by grind) (by grind)
    refine ⟨i1, ?_⟩
    show N (csub (vq (tmL l (cpl s (ctm p.1 p.2)))) (dotP l (cadd sQ (cmul (vq p.1) (vq p.2))))) ≤ _
    grind
theorem tmO_all {n : Nat} {x y u v : Nat → Nat} : ∀ (l : List (Nat × Nat)), (∀ p, p ∈ l → ctmOk (x (p.1 * n + p.2), y (p.1 * n + p.2)) (u p.2, v p.2) = true) → tmO n x y u v l = true
  | [], _ => rfl
  | p :: l, h => by
    show nd (ctmOk (x (p.1 * n + p.2), y (p.1 * n + p.2)) (u p.2, v p.2) && true) (tmO n x y u v l) = true
    rw [h p List.mem_cons_self]
    exact tmO_all l fun q hq => h q (List.mem_cons_of_mem _ hq)
theorem prs_mem {n : Nat} {p : Nat × Nat} (h : p ∈ prs n) : p.1 < n ∧ p.2 < n := by
  unfold prs at h
  simp only [List.mem_flatMap, List.mem_range, List.mem_map] at h
  obtain ⟨r, hr, c, hc, rfl⟩ := h
  exact ⟨hr, hc⟩
end Go.Fw.T1

/-
  What the equations make of a drawn circuit's currents.
-/
namespace Go.Fw.T1
open Go.Proofs
theorem row3 (a b c v x y z : CQ) : csub (cadd (cadd (cadd (0, 0) (cmul a x)) (cmul b y)) (cmul c z)) v = dot [a, b, c, v] [x, y, z, m1] := by
  simp only [dot]; unfold csub cadd cmul m1; dsimp only; congr 1 <;> grind
theorem row2 (a b c v x y : CQ) : csub (cadd (cadd (0, 0) (cmul a x)) (cmul b y)) v = dot [a, b, c, v] [x, y, (0, 0), m1] := by
  simp only [dot]; unfold csub cadd cmul m1; dsimp only; congr 1 <;> grind
theorem row1 (a b c v x : CQ) : csub (cadd (0, 0) (cmul a x)) v = dot [a, b, c, v] [x, (0, 0), (0, 0), m1] := by
  simp only [dot]; unfold csub cadd cmul m1; dsimp only; congr 1 <;> grind
section
variable {n : Nat} {R G L : Nat → Nat} {W : Nat} {u v : Nat → Nat} {V : Rat}
theorem Dr.zd (h : Dr n R G L W) {i : Nat} (hi : i < n) : vq (zR n R (i * n + i), zI n G L W (i * n + i)) = (wv (R i), wv (zI n G L W (i * n + i))) := by
  show (wv _, wv _) = _
  rw [(h.diag hi).2.2]
theorem Dr.zo (h : Dr n R G L W) {i j : Nat} (hi : i < n) (hj : j < n) (hij : i ≠ j) : vq (zR n R (i * n + j), zI n G L W (i * n + j)) = (0, wv (zI n G L W (i * n + j))) := by
  show (wv _, wv _) = _
  rw [(h.off hi hj hij).2.2.1]
theorem Dr.zs (h : Dr n R G L W) {i j : Nat} (hi : i < n) (hj : j < n) (hij : i ≠ j) : vq (zR n R (i * n + j), zI n G L W (i * n + j)) = (0, wv (zI n G L W (j * n + i))) := by
  rw [h.zo hi hj hij, (h.off hi hj hij).2.2.2]
noncomputable def SP (x : Nat → CQ) : Rat := N (x 0) + N (x 1) + N (x 2)
noncomputable def lst (n : Nat) (R G L : Nat → Nat) (W : Nat) (x : Nat → C) (r : Nat) : List (C × C) := (List.range n).map fun c => ((zR n R (r * n + c), zI n G L W (r * n + c)), x c)
theorem told1 (h : Dr 1 R G L W) (hc : Cur 1 R G L W u v V) (r : Nat) (hr : r < 1) : N (csub (dotP (lst 1 R G L W (xq 1 R G L W u v) r) (0, 0)) (vq (u r, v r))) ≤ cE * (1 + SP (xP 1 R G L W u v)) := by
  obtain rfl : r = 0 := by omega
  have e : dotP (lst 1 R G L W (xq 1 R G L W u v) 0) (0, 0) = cadd (0, 0) (cmul (vq (zR 1 R (0 * 1 + 0), zI 1 G L W (0 * 1 + 0))) (vq (xq 1 R G L W u v 0))) := rfl
  rw [e, h.zd (by omega), row1 _ (0, 0) (0, 0)]
  exact hc.sol.e0
theorem told2 (h : Dr 2 R G L W) (hc : Cur 2 R G L W u v V) (r : Nat) (hr : r < 2) : N (csub (dotP (lst 2 R G L W (xq 2 R G L W u v) r) (0, 0)) (vq (u r, v r))) ≤ cE * (1 + SP (xP 2 R G L W u v)) := by
  have e : dotP (lst 2 R G L W (xq 2 R G L W u v) r) (0, 0) = cadd (cadd (0, 0) (cmul (vq (zR 2 R (r * 2 + 0), zI 2 G L W (r * 2 + 0))) (vq (xq 2 R G L W u v 0)))) (cmul (vq (zR 2 R (r * 2 + 1), zI 2 G L W (r * 2 + 1))) (vq (xq 2 R G L W u v 1))) := rfl
  rw [e]
  match r, hr with
  | 0, _ =>
    rw [h.zd (by omega), h.zo (i := 0) (j := 1) (by omega) (by omega) (by omega), row2 _ _ (0, 0)]
    exact hc.sol.e0
  | 1, _ =>
    rw [h.zd (by omega), h.zs (i := 1) (j := 0) (by omega) (by omega) (by omega), row2 _ _ (0, 0)]
    exact hc.sol.e1
theorem told3 (h : Dr 3 R G L W) (hc : Cur 3 R G L W u v V) (r : Nat) (hr : r < 3) : N (csub (dotP (lst 3 R G L W (xq 3 R G L W u v) r) (0, 0)) (vq (u r, v r))) ≤ cE * (1 + SP (xP 3 R G L W u v)) := by
  have e : dotP (lst 3 R G L W (xq 3 R G L W u v) r) (0, 0) = cadd (cadd (cadd (0, 0) (cmul (vq (zR 3 R (r * 3 + 0), zI 3 G L W (r * 3 + 0))) (vq (xq 3 R G L W u v 0)))) (cmul (vq (zR 3 R (r * 3 + 1), zI 3 G L W (r * 3 + 1))) (vq (xq 3 R G L W u v 1)))) (cmul (vq (zR 3 R (r * 3 + 2), zI 3 G L W (r * 3 + 2))) (vq (xq 3 R G L W u v 2))) := rfl
  rw [e]
  match r, hr with
  | 0, _ =>
    rw [h.zd (by omega), h.zo (i := 0) (j := 1) (by omega) (by omega) (by omega), h.zo (i := 0) (j := 2) (by omega) (by omega) (by omega), row3]
    exact hc.sol.e0
  | 1, _ =>
    rw [h.zd (by omega), h.zs (i := 1) (j := 0) (by omega) (by omega) (by omega), h.zo (i := 1) (j := 2) (by omega) (by omega) (by omega), row3]
    exact hc.sol.e1
  | 2, _ =>
    rw [h.zd (by omega), h.zs (i := 2) (j := 0) (by omega) (by omega) (by omega), h.zs (i := 2) (j := 1) (by omega) (by omega) (by omega), row3]
    exact hc.sol.e2
theorem told (h : Dr n R G L W) (hn : n = 1 ∨ n = 2 ∨ n = 3) (hc : Cur n R G L W u v V) (r : Nat) (hr : r < n) : N (csub (dotP (lst n R G L W (xq n R G L W u v) r) (0, 0)) (vq (u r, v r))) ≤ cE * (1 + SP (xP n R G L W u v)) := by
  rcases hn with rfl | rfl | rfl
  · exact told1 h hc r hr
  · exact told2 h hc r hr
  · exact told3 h hc r hr
theorem Cur.at (hn : n = 1 ∨ n = 2 ∨ n = 3) {j : Nat} (hj : j < n) : N (vq (xq n R G L W u v j)) ≤ SP (xP n R G L W u v) := by
  have h0 := N_nonneg (xP n R G L W u v 0)
  have h1 := N_nonneg (xP n R G L W u v 1)
  have h2 := N_nonneg (xP n R G L W u v 2)
  have e : vq (xq n R G L W u v j) = xP n R G L W u v j := by unfold xP; rw [if_pos hj]
  rw [e]
  unfold SP
  have : j = 0 ∨ j = 1 ∨ j = 2 := by omega
  rcases this with rfl | rfl | rfl <;> grind
theorem Cur.size (h : Cur n R G L W u v 2) : SP (xP n R G L W u v) ≤ 49 := h.sol.size.1
theorem can_001 : Val .f64 (can .f64 4576918229304087675) (5764607523034235 / 2 ^ 59) := Val.of_vof (by decide +kernel)
theorem fq_z : Fq ((0, 0) : C) := cv_fq cv_cz
theorem told_ok (h : Dr n R G L W) (hn : n = 1 ∨ n = 2 ∨ n = 3) (hc : Cur n R G L W u v 2) (hv : Vok n u v 2) :
    tmAll n (zR n R) (zI n G L W) (cuX n R G L W u v) (cuY n R G L W u v) = true ∧
    ∀ r, r < n → (!(forder .f64 (off (tmX n (zR n R) (zI n G L W) (cuX n R G L W u v) (cuY n R G L W u v) r) (tmY n (zR n R) (zI n G L W) (cuX n R G L W u v) (cuY n R G L W u v) r) (u r) (v r)) (can .f64 4576918229304087675) == some .gt)) = true := by
  have hS := hc.size
  have hx : ∀ j, j < n → N (vq (xq n R G L W u v j)) ≤ 50 := fun j hj => by have := Cur.at (R := R) (G := G) (L := L) (W := W) (u := u) (v := v) hn hj; grind
  have b50 : (50 : Rat) ≤ big := by decide +kernel
  refine ⟨tmO_all _ fun p hp => ?_, fun r hr => ?_⟩
  · obtain ⟨h1, h2⟩ := prs_mem hp
    obtain ⟨z1, z2⟩ := h.entry h1 h2
    have := hx _ h2
    exact (fq_tm z1 (hc.fq p.2) (by grind) (by grind)).2.2
  · have ht := told h hn hc r hr
    have hl : ((lst n R G L W (xq n R G L W u v) r).length : Rat) ≤ 3 := by
      unfold lst
      rw [List.length_map, List.length_range]
      rcases hn with rfl | rfl | rfl <;> decide
    have hl0 : (0 : Rat) ≤ ((lst n R G L W (xq n R G L W u v) r).length : Rat) := Rat.natCast_nonneg
    have z0 : N (csub (vq ((0, 0) : C)) (0, 0)) ≤ 0 := by
      have ez : vq ((0, 0) : C) = (0, 0) := cv_eq cv_cz
      rw [ez]
      have : csub ((0, 0) : CQ) (0, 0) = (0, 0) := by decide +kernel
      rw [this, N00]
      exact Rat.le_refl
    obtain ⟨f1, f2⟩ := tm_near (lst n R G L W (xq n R G L W u v) r) (0, 0) (0, 0) 0 (fun p hp => by
      unfold lst at hp
      obtain ⟨c, hc', rfl⟩ := List.mem_map.1 hp
      have hcn := List.mem_range.1 hc'
      obtain ⟨z1, z2⟩ := h.entry hr hcn
      exact ⟨z1, z2, hc.fq c, hx c hcn⟩) fq_z z0 (by rw [N00]; grind)
    have e : tmL (lst n R G L W (xq n R G L W u v) r) (0, 0) = (tmX n (zR n R) (zI n G L W) (cuX n R G L W u v) (cuY n R G L W u v) r, tmY n (zR n R) (zI n G L W) (cuX n R G L W u v) (cuY n R G L W u v) r) := (tmvG_eq n (zR n R) (zI n G L W) (cuX n R G L W u v) (cuY n R G L W u v) r (List.range n) (0, 0)).symm
    rw [e] at f1 f2
    have hd := N_via f2 ht
    have ks : stepE = 1 / 2000 := rfl
    have kc : cE = 3 / 32000 := rfl
    have hd' : N (csub (vq (tmX n (zR n R) (zI n G L W) (cuX n R G L W u v) (cuY n R G L W u v) r, tmY n (zR n R) (zI n G L W) (cuX n R G L W u v) (cuY n R G L W u v) r)) (vq (u r, v r))) ≤ 8 / 1000 := by
      rw [ks, kc] at hd
      grind
    obtain ⟨o, ho, hle⟩ := off_val f1 (hv r hr).1 hd' (by decide +kernel)
    refine ngt_val ho can_001 (Rat.le_trans hle ?_)
    decide +kernel
end
end Go.Fw.T1

/-
  What is lost, given and stored: the words and their numbers.
-/
namespace Go.Fw.T1
open Go.Proofs
theorem can_half : Val .f32 (can .f32 1056964608) (1 / 2) := Val.of_vof (by decide +kernel)
theorem can_quart : Val .f32 (can .f32 1048576000) (1 / 4) := Val.of_vof (by decide +kernel)
theorem lossG_eq (r u v : Nat → Nat) : ∀ (l : List Nat) (s : Nat), lossG r u v l s = sumW (fun i => fop .mul .f32 (fop .mul .f32 (can .f32 1056964608) (r i)) (cpw (u i, v i))) l s
  | [], _ => rfl
  | i :: l, s => lossG_eq r u v l _
theorem givG_eq (x y u v : Nat → Nat) : ∀ (l : List Nat) (s : Nat), givG x y u v l s = sumW (fun i => fop .mul .f32 (can .f32 1056964608) (bothW (x i, y i) (u i, v i))) l s
  | [], _ => rfl
  | i :: l, s => givG_eq x y u v l _
theorem stoG_eq (n : Nat) (c u v : Nat → Nat) : ∀ (l : List (Nat × Nat)) (s : Nat), stoG n c u v l s = sumW (fun p => fop .mul .f32 (fop .mul .f32 (can .f32 1048576000) (c (p.1 * n + p.2))) (bothW (u p.1, v p.1) (u p.2, v p.2))) l s
  | [], _ => rfl
  | p :: l, s => stoG_eq n c u v l _
theorem lossO_all {u v : Nat → Nat} : ∀ (l : List Nat), (∀ i, i ∈ l → cpwOk (u i, v i) = true) → lossO u v l = true
  | [], _ => rfl
  | i :: l, h => by
    show nd (cpwOk (u i, v i) && true) (lossO u v l) = true
    rw [h i List.mem_cons_self]
    exact lossO_all l fun j hj => h j (List.mem_cons_of_mem _ hj)
theorem mul32 {x y : Nat} {a b K : Rat} (hx : Val .f32 x a) (hy : Val .f32 y b) (h : ab a * ab b ≤ K) (hK : K ≤ most) : Val .f32 (fop .mul .f32 x y) (r32 (a * b)) ∧ ab (r32 (a * b) - a * b) ≤ K * uE + tE := by
  rw [← ab_mul] at h
  exact ⟨hx.mulR hy (near_ab h) hK, r32_K h⟩
theorem add32 {x y : Nat} {a b K : Rat} (hx : Val .f32 x a) (hy : Val .f32 y b) (h : ab (a + b) ≤ K) (hK : K ≤ most) : Val .f32 (fop .add .f32 x y) (r32 (a + b)) ∧ ab (r32 (a + b) - (a + b)) ≤ K * uE + tE :=
  ⟨hx.addR hy (near_ab h) hK, r32_K h⟩
theorem pwQ_nonneg (b : CQ) : 0 ≤ pwQ b := by
  unfold pwQ p64Q two64 r32 r64
  exact rnd_nonneg (rnd_nonneg (Rat.add_nonneg (rnd_nonneg (sqn _)) (rnd_nonneg (sqn _))))
theorem both_val {p q : C} (hp : Fq p) (hq : Fq q) {M : Rat} (h1 : ab (vq p).1 * ab (vq q).1 ≤ M) (h2 : ab (vq p).2 * ab (vq q).2 ≤ M) (hM : 8 * M + 8 ≤ most) : ∃ z, Val .f32 (bothW p q) z ∧ ab (z - re (vq p) (vq q)) ≤ 5 * (M * uE) + 4 * tE := by
  have hM0 : 0 ≤ M := Rat.le_trans (Rat.mul_nonneg (ab_nonneg _) (ab_nonneg _)) h1
  obtain ⟨a1, a2⟩ := mul32 hp.1 hq.1 h1 (by grind)
  obtain ⟨b1, b2⟩ := mul32 hp.2 hq.2 h2 (by grind)
  have hu := uE_pos
  have ht := tE_pos
  have k1 : uE ≤ 1 / 1000 := by decide +kernel
  have k2 : tE ≤ 1 / 1000 := by decide +kernel
  have e1 := ab_tri a2
  have e2 := ab_tri b2
  rw [ab_mul] at e1 e2
  have e3 := ab_add (r32 ((vq p).1 * (vq q).1)) (r32 ((vq p).2 * (vq q).2))
  have m1 := Rat.mul_le_mul_of_nonneg_left k1 hM0
  have e1' : ab (r32 ((vq p).1 * (vq q).1)) ≤ M + (M * uE + tE) := by
    have : ab (vq p).1 * ab (vq q).1 ≤ M := h1
    exact Rat.le_trans e1 (by grind)
  have e2' : ab (r32 ((vq p).2 * (vq q).2)) ≤ M + (M * uE + tE) := by
    have : ab (vq p).2 * ab (vq q).2 ≤ M := h2
    exact Rat.le_trans e2 (by grind)
  obtain ⟨c1, c2⟩ := add32 a1 b1 (K := 2 * (M + (M * uE + tE))) (by grind) (by grind)
  refine ⟨_, c1, ?_⟩
  have d := ab_add (r32 ((vq p).1 * (vq q).1) - (vq p).1 * (vq q).1) (r32 ((vq p).2 * (vq q).2) - (vq p).2 * (vq q).2)
  rw [show r32 ((vq p).1 * (vq q).1) - (vq p).1 * (vq q).1 + (r32 ((vq p).2 * (vq q).2) - (vq p).2 * (vq q).2) = r32 ((vq p).1 * (vq q).1) + r32 ((vq p).2 * (vq q).2) - re (vq p) (vq q) by unfold re; grind] at d
  have f := ab_via c2 d
  have m2 : (M * uE + tE) * uE ≤ (M * uE + tE) * (1 / 1000) := Rat.mul_le_mul_of_nonneg_left k1 (by have := Rat.mul_nonneg hM0 (Rat.le_of_lt hu); grind)
  have m3 := Rat.mul_nonneg hM0 (Rat.le_of_lt hu)
  refine Rat.le_trans f ?_
  have a2' : ab (r32 ((vq p).1 * (vq q).1) - (vq p).1 * (vq q).1) ≤ M * uE + tE := a2
  have b2' : ab (r32 ((vq p).2 * (vq q).2) - (vq p).2 * (vq q).2) ≤ M * uE + tE := b2
  grind
theorem scaled {k l z : Nat} {s a b q A B e : Rat} (hk : Val .f32 k s) (hl : Val .f32 l a) (hz : Val .f32 z b) (hs : ab s * ab a ≤ A) (hA : A ≤ 2) (hq : ab q ≤ B) (he : ab (b - q) ≤ e) (hB : 4 * (B + e) + 4 ≤ most) :
    ∃ f, Val .f32 (fop .mul .f32 (fop .mul .f32 k l) z) f ∧ ab (f - s * a * q) ≤ (3 * A * B) * uE + 3 * e + 3 * (B * tE) + tE ∧ (0 ≤ s * a → 0 ≤ b → 0 ≤ f) := by
  have hA0 : 0 ≤ A := Rat.le_trans (Rat.mul_nonneg (ab_nonneg _) (ab_nonneg _)) hs
  have hB0 : 0 ≤ B := Rat.le_trans (ab_nonneg _) hq
  have he0 : 0 ≤ e := Rat.le_trans (ab_nonneg _) he
  have h2m : (2 : Rat) ≤ most := by decide +kernel
  obtain ⟨c1, c2⟩ := mul32 hk hl hs (by grind)
  have hu := uE_pos
  have ht := tE_pos
  have k1 : uE ≤ 1 / 1000 := by decide +kernel
  have k2 : tE ≤ 1 / 1000 := by decide +kernel
  have b1 := ab_tri he
  have d1 := ab_tri c2
  rw [ab_mul] at d1
  have hAu := Rat.mul_le_mul_of_nonneg_left k1 hA0
  have hd : ab (r32 (s * a)) ≤ A + (A * uE + tE) := by grind
  have hbB : ab b ≤ B + e := by grind
  have p1 := Rat.mul_le_mul_of_nonneg_right hd (ab_nonneg b)
  have p2 := Rat.mul_le_mul_of_nonneg_left hbB (show 0 ≤ A + (A * uE + tE) by have := Rat.mul_nonneg hA0 (Rat.le_of_lt hu); grind)
  have hAl : A + (A * uE + tE) ≤ 201 / 100 := by grind
  have p3 := Rat.mul_le_mul_of_nonneg_right hAl (show 0 ≤ B + e by grind)
  obtain ⟨f1, f2⟩ := mul32 c1 hz (K := (A + (A * uE + tE)) * (B + e)) (by grind) (by grind)
  refine ⟨_, f1, ?_, fun h1 h2 => rnd_nonneg (Rat.mul_nonneg (rnd_nonneg h1) h2)⟩
  have g1 : ab (r32 (s * a) * b - s * a * q) ≤ (A * uE + tE) * (B + e) + A * e := by
    have h1 := ab_add ((r32 (s * a) - s * a) * b) (s * a * (b - q))
    rw [show (r32 (s * a) - s * a) * b + s * a * (b - q) = r32 (s * a) * b - s * a * q by grind, ab_mul, ab_mul, ab_mul s a] at h1
    have h2 := Rat.mul_le_mul_of_nonneg_right c2 (ab_nonneg b)
    have h3 := Rat.mul_le_mul_of_nonneg_left hbB (show 0 ≤ A * uE + tE by have := Rat.mul_nonneg hA0 (Rat.le_of_lt hu); grind)
    have h4 := Rat.mul_le_mul_of_nonneg_right hs (ab_nonneg (b - q))
    have h5 := Rat.mul_le_mul_of_nonneg_left he hA0
    grind
  have g2 := ab_via f2 g1
  refine Rat.le_trans g2 ?_
  have hAB := Rat.mul_nonneg hA0 hB0
  have hAe := Rat.mul_nonneg hA0 he0
  have hAe2 : A * e ≤ 2 * e := Rat.mul_le_mul_of_nonneg_right hA he0
  have q1 : A * e * uE ≤ A * e * (1 / 1000) := Rat.mul_le_mul_of_nonneg_left k1 hAe
  have q2 : e * tE ≤ e * (1 / 1000) := Rat.mul_le_mul_of_nonneg_left k2 he0
  have q3 : A * B * uE * uE ≤ A * B * uE * (1 / 1000) := Rat.mul_le_mul_of_nonneg_left k1 (Rat.mul_nonneg hAB (Rat.le_of_lt hu))
  have q4 : A * e * uE * uE ≤ A * e * uE * (1 / 1000) := Rat.mul_le_mul_of_nonneg_left k1 (Rat.mul_nonneg hAe (Rat.le_of_lt hu))
  have q5 : B * tE * uE ≤ B * tE * (1 / 1000) := Rat.mul_le_mul_of_nonneg_left k1 (Rat.mul_nonneg hB0 (Rat.le_of_lt ht))
  have q6 : e * tE * uE ≤ e * tE * (1 / 1000) := Rat.mul_le_mul_of_nonneg_left k1 (Rat.mul_nonneg he0 (Rat.le_of_lt ht))
  have q7 := Rat.mul_nonneg hAB (Rat.le_of_lt hu)
  have q8 := Rat.mul_nonneg hB0 (Rat.le_of_lt ht)
  have q9 := Rat.mul_nonneg he0 (Rat.le_of_lt ht)
  clear g1 g2 f1 f2 p1 p2 p3 hbB hd d1 b1 c1 c2 hs hq he
  have e1 : (A + (A * uE + tE)) * (B + e) * uE + tE + ((A * uE + tE) * (B + e) + A * e) = 2 * (A * B * uE) + 2 * (A * e * uE) + A * B * uE * uE + A * e * uE * uE + B * tE * uE + e * tE * uE + B * tE + e * tE + A * e + tE := by grind
  rw [e1]
  grind
end Go.Fw.T1

/-
  What is lost, given and stored in a drawn circuit: as the law says.
-/
namespace Go.Fw.T1
open Go.Proofs
section
variable {n : Nat} {R G L : Nat → Nat} {W : Nat} {u v : Nat → Nat} {V : Rat}
noncomputable def PP (r : Nat → Rat) (x : Nat → CQ) : Rat := r 0 * sq (x 0) + r 1 * sq (x 1) + r 2 * sq (x 2)
noncomputable def QP (x : Nat → CQ) : Rat := sq (x 0) + sq (x 1) + sq (x 2)
noncomputable def VP (v x : Nat → CQ) : Rat := re (v 0) (x 0) + re (v 1) (x 1) + re (v 2) (x 2)
theorem xP_at {j : Nat} (hj : j < n) : xP n R G L W u v j = vq (xq n R G L W u v j) := by unfold xP; rw [if_pos hj]
theorem sq_at (hn : n = 1 ∨ n = 2 ∨ n = 3) {j : Nat} (hj : j < n) : sq (vq (xq n R G L W u v j)) ≤ QP (xP n R G L W u v) := by
  have h0 := sq_nonneg (xP n R G L W u v 0)
  have h1 := sq_nonneg (xP n R G L W u v 1)
  have h2 := sq_nonneg (xP n R G L W u v 2)
  rw [← xP_at hj]
  unfold QP
  have : j = 0 ∨ j = 1 ∨ j = 2 := by omega
  rcases this with rfl | rfl | rfl <;> grind
theorem len_le (hn : n = 1 ∨ n = 2 ∨ n = 3) : (((List.range n).length : Nat) : Rat) ≤ 3 := by
  rw [List.length_range]
  rcases hn with rfl | rfl | rfl <;> decide
theorem sumL (hn : n = 1 ∨ n = 2 ∨ n = 3) : sumQ (fun i => 1 / 2 * wv (R i) * sq (vq (xq n R G L W u v i))) (List.range n) = 1 / 2 * PP (rP n R) (xP n R G L W u v) := by
  have z : sq (0, 0) = 0 := by decide +kernel
  rcases hn with rfl | rfl | rfl
  · show 1 / 2 * wv (R 0) * sq (vq (xq 1 R G L W u v 0)) + 0 = 1 / 2 * (wv (R 0) * sq (vq (xq 1 R G L W u v 0)) + 1 / 4 * sq (0, 0) + 1 / 4 * sq (0, 0))
    rw [z]; grind
  · show 1 / 2 * wv (R 0) * sq (vq (xq 2 R G L W u v 0)) + (1 / 2 * wv (R 1) * sq (vq (xq 2 R G L W u v 1)) + 0) = 1 / 2 * (wv (R 0) * sq (vq (xq 2 R G L W u v 0)) + wv (R 1) * sq (vq (xq 2 R G L W u v 1)) + 1 / 4 * sq (0, 0))
    rw [z]; grind
  · show 1 / 2 * wv (R 0) * sq (vq (xq 3 R G L W u v 0)) + (1 / 2 * wv (R 1) * sq (vq (xq 3 R G L W u v 1)) + (1 / 2 * wv (R 2) * sq (vq (xq 3 R G L W u v 2)) + 0)) = 1 / 2 * (wv (R 0) * sq (vq (xq 3 R G L W u v 0)) + wv (R 1) * sq (vq (xq 3 R G L W u v 1)) + wv (R 2) * sq (vq (xq 3 R G L W u v 2)))
    grind
theorem sumG (hn : n = 1 ∨ n = 2 ∨ n = 3) : sumQ (fun i => 1 / 2 * re (vq (u i, v i)) (vq (xq n R G L W u v i))) (List.range n) = 1 / 2 * VP (vP n u v) (xP n R G L W u v) := by
  have z : re (0, 0) (0, 0) = 0 := by decide +kernel
  rcases hn with rfl | rfl | rfl
  · show 1 / 2 * re (vq (u 0, v 0)) (vq (xq 1 R G L W u v 0)) + 0 = 1 / 2 * (re (vq (u 0, v 0)) (vq (xq 1 R G L W u v 0)) + re (0, 0) (0, 0) + re (0, 0) (0, 0))
    rw [z]; grind
  · show 1 / 2 * re (vq (u 0, v 0)) (vq (xq 2 R G L W u v 0)) + (1 / 2 * re (vq (u 1, v 1)) (vq (xq 2 R G L W u v 1)) + 0) = 1 / 2 * (re (vq (u 0, v 0)) (vq (xq 2 R G L W u v 0)) + re (vq (u 1, v 1)) (vq (xq 2 R G L W u v 1)) + re (0, 0) (0, 0))
    rw [z]; grind
  · show 1 / 2 * re (vq (u 0, v 0)) (vq (xq 3 R G L W u v 0)) + (1 / 2 * re (vq (u 1, v 1)) (vq (xq 3 R G L W u v 1)) + (1 / 2 * re (vq (u 2, v 2)) (vq (xq 3 R G L W u v 2)) + 0)) = 1 / 2 * (re (vq (u 0, v 0)) (vq (xq 3 R G L W u v 0)) + re (vq (u 1, v 1)) (vq (xq 3 R G L W u v 1)) + re (vq (u 2, v 2)) (vq (xq 3 R G L W u v 2)))
    grind
theorem big396 : (396 : Rat) ≤ big := by decide +kernel
theorem lost_val (h : Dr n R G L W) (hn : n = 1 ∨ n = 2 ∨ n = 3) (hc : Cur n R G L W u v 2) :
    ∃ f, Val .f32 (loss n R (cuX n R G L W u v) (cuY n R G L W u v)) f ∧ 0 ≤ f ∧ ab (f - 1 / 2 * PP (rP n R) (xP n R G L W u v)) ≤ 1 / 800 ∧ lossO (cuX n R G L W u v) (cuY n R G L W u v) (List.range n) = true := by
  have hQ : QP (xP n R G L W u v) ≤ 396 := hc.sol.size.2.2
  have hS : SP (xP n R G L W u v) ≤ 49 := hc.size
  have hu := uE_pos
  have ht := tE_pos
  have hN : ∀ i, i < n → N (vq (xq n R G L W u v i)) ≤ big := fun i hi => by
    have := Cur.at (R := R) (G := G) (L := L) (W := W) (u := u) (v := v) hn hi
    have := big396; grind
  have term : ∀ i, i ∈ List.range n → ∃ f, Val .f32 (fop .mul .f32 (fop .mul .f32 (can .f32 1056964608) (R i)) (cpw (cuX n R G L W u v i, cuY n R G L W u v i))) f ∧ ab (f - 1 / 2 * wv (R i) * sq (vq (xq n R G L W u v i))) ≤ 1 / 5000 ∧ 0 ≤ f := fun i hi => by
    have hi := List.mem_range.1 hi
    obtain ⟨hr, r0, r1⟩ := h.rv hi
    have hx := hc.fq i
    have hsq := Rat.le_trans (sq_at (R := R) (G := G) (L := L) (W := W) (u := u) (v := v) hn hi) hQ
    obtain ⟨p1, p2⟩ := pw_val hx (hN i hi)
    have pe := pw_err (vq (xq n R G L W u v i))
    have s0 := sq_nonneg (vq (xq n R G L W u v i))
    have pe2 : ab (pwQ (vq (xq n R G L W u v i)) - sq (vq (xq n R G L W u v i))) ≤ 396 * uE + tE * (1 / 2) := by
      have := Rat.mul_le_mul_of_nonneg_right hsq (Rat.le_of_lt hu); grind
    have hab : ab (1 / 2) * ab (wv (R i)) ≤ 1 := by
      rw [ab_pos_eq (show (0 : Rat) ≤ 1 / 2 by decide +kernel), ab_pos_eq (show 0 ≤ wv (R i) by grind)]
      grind
    obtain ⟨f, f1, f2, f3⟩ := scaled can_half hr p1 hab (by decide) (show ab (sq (vq (xq n R G L W u v i))) ≤ 396 by rw [ab_pos_eq s0]; exact hsq) pe2 (by decide +kernel)
    refine ⟨f, f1, Rat.le_trans f2 (by decide +kernel), f3 ?_ (pwQ_nonneg _)⟩
    exact Rat.mul_nonneg (by decide +kernel) (by grind)
  have hlen := len_le hn
  obtain ⟨f, f1, f2, f3⟩ := sum_near (ε := 1 / 5000) (B := 400) (D := 1 / 5000) (K := 2000) (tq := fun i => 1 / 2 * wv (R i) * sq (vq (xq n R G L W u v i))) (by decide +kernel) (by decide +kernel) (by decide +kernel) (by decide +kernel) (by decide +kernel) (List.range n) (fun i hi => by
    obtain ⟨f, f1, f2, _⟩ := term i hi
    refine ⟨f, f1, f2, ?_⟩
    have hi := List.mem_range.1 hi
    obtain ⟨hr, r0, r1⟩ := h.rv hi
    have hsq := Rat.le_trans (sq_at (R := R) (G := G) (L := L) (W := W) (u := u) (v := v) hn hi) hQ
    have s0 := sq_nonneg (vq (xq n R G L W u v i))
    rw [ab_pos_eq (Rat.mul_nonneg (Rat.mul_nonneg (by decide +kernel) (by grind)) s0)]
    have := Rat.mul_le_mul_of_nonneg_right r1 s0
    grind) (can .f32 0) 0 0 0 can0v (by rw [show (0 : Rat) - 0 = 0 by grind, ab_zero]; exact Rat.le_refl) (by rw [ab_zero]; grind)
  rw [sumL hn] at f2
  refine ⟨f, ?_, f3 Rat.le_refl fun i hi w hw => ?_, ?_, lossO_all _ fun i hi => ?_⟩
  · unfold loss; rw [lossG_eq]; exact f1
  · obtain ⟨g, g1, _, g3⟩ := term i hi
    rw [hw.unique g1]; exact g3
  · rw [show (0 : Rat) + 1 / 2 * PP (rP n R) (xP n R G L W u v) = 1 / 2 * PP (rP n R) (xP n R G L W u v) by grind] at f2
    grind
  · have hi := List.mem_range.1 hi
    exact (pw_val (hc.fq i) (hN i hi)).2
theorem giv_val (hn : n = 1 ∨ n = 2 ∨ n = 3) (hc : Cur n R G L W u v 2) (hv : Vok n u v 2) :
    ∃ f, Val .f32 (giv n u v (cuX n R G L W u v) (cuY n R G L W u v)) f ∧ ab (f - 1 / 2 * VP (vP n u v) (xP n R G L W u v)) ≤ 1 / 800 := by
  have hS : SP (xP n R G L W u v) ≤ 49 := hc.size
  have hN : ∀ i, i < n → N (vq (xq n R G L W u v i)) ≤ 49 := fun i hi => Rat.le_trans (Cur.at (R := R) (G := G) (L := L) (W := W) (u := u) (v := v) hn hi) hS
  have hlen := len_le hn
  obtain ⟨f, f1, f2, _⟩ := sum_near (ε := 1 / 5000) (B := 400) (D := 1 / 5000) (K := 2000) (tw := fun i => fop .mul .f32 (can .f32 1056964608) (bothW (u i, v i) (cuX n R G L W u v i, cuY n R G L W u v i))) (tq := fun i => 1 / 2 * re (vq (u i, v i)) (vq (xq n R G L W u v i))) (by decide +kernel) (by decide +kernel) (by decide +kernel) (by decide +kernel) (by decide +kernel) (List.range n) (fun i hi => by
    have hi := List.mem_range.1 hi
    obtain ⟨v0, v1, v2⟩ := hv i hi
    obtain ⟨x1, x2⟩ := part_le (hN i hi)
    have b1 : ab (vq (u i, v i)).1 * ab (vq (xq n R G L W u v i)).1 ≤ 98 := by
      have h1 := Rat.mul_le_mul_of_nonneg_right v1 (ab_nonneg (vq (xq n R G L W u v i)).1)
      have : ab (vq (u i, v i)).1 * ab (vq (xq n R G L W u v i)).1 ≤ 2 * ab (vq (xq n R G L W u v i)).1 := h1
      grind
    have b2 : ab (vq (u i, v i)).2 * ab (vq (xq n R G L W u v i)).2 ≤ 98 := by
      have h1 := Rat.mul_le_mul_of_nonneg_right v2 (ab_nonneg (vq (xq n R G L W u v i)).2)
      have : ab (vq (u i, v i)).2 * ab (vq (xq n R G L W u v i)).2 ≤ 2 * ab (vq (xq n R G L W u v i)).2 := h1
      grind
    obtain ⟨z, z1, z2⟩ := both_val v0 (hc.fq i) b1 b2 (by decide +kernel)
    have hre := hv.re hi (vq (xq n R G L W u v i))
    have h98 : ab (re (vq (u i, v i)) (vq (xq n R G L W u v i))) ≤ 98 := by have := hN i hi; grind
    have kz : 5 * (98 * uE) + 4 * tE ≤ 1 / 20000 := by decide +kernel
    have hz : ab z ≤ 99 := by have := ab_tri z2; grind
    have hhalf : ab (1 / 2) = 1 / 2 := ab_pos_eq (by decide +kernel)
    obtain ⟨f1, f2⟩ := mul32 can_half z1 (K := 50) (by rw [hhalf]; grind) (by decide +kernel)
    refine ⟨_, f1, ?_, ?_⟩
    · have e : ab (1 / 2 * z - 1 / 2 * re (vq (u i, v i)) (vq (xq n R G L W u v i))) ≤ 1 / 2 * (1 / 20000) := by
        rw [show 1 / 2 * z - 1 / 2 * re (vq (u i, v i)) (vq (xq n R G L W u v i)) = 1 / 2 * (z - re (vq (u i, v i)) (vq (xq n R G L W u v i))) by grind, ab_mul, hhalf]
        exact Rat.mul_le_mul_of_nonneg_left (Rat.le_trans z2 kz) (by decide +kernel)
      exact Rat.le_trans (ab_via f2 e) (by decide +kernel)
    · show ab (1 / 2 * re (vq (u i, v i)) (vq (xq n R G L W u v i))) ≤ 400
      rw [ab_mul, hhalf]
      grind) (can .f32 0) 0 0 0 can0v (by rw [show (0 : Rat) - 0 = 0 by grind, ab_zero]; exact Rat.le_refl) (by rw [ab_zero]; grind)
  rw [sumG hn] at f2
  refine ⟨f, ?_, ?_⟩
  · unfold giv; rw [givG_eq]; exact f1
  · rw [show (0 : Rat) + 1 / 2 * VP (vP n u v) (xP n R G L W u v) = 1 / 2 * VP (vP n u v) (xP n R G L W u v) by grind] at f2
    grind
end
end Go.Fw.T1

/-
  What is lost is what is given, nearly; what is stored is not less than nothing, nearly.
-/
namespace Go.Fw.T1
open Go.Proofs
theorem one64 : Val .f64 (can .f64 4607182418800017408) 1 := Val.of_vof (by decide +kernel)
theorem r64_ge {q : Rat} (h : 0 ≤ q) : q - (q * eE + sE) ≤ r64 q := by
  have h1 := r64_err q
  rw [ab_pos_eq h] at h1
  have h3 := ab_near (r64 q - q)
  unfold Near at h3
  grind
theorem gap_core {l g P S T : Rat} (hl : ab (l - 1 / 2 * P) ≤ 1 / 800) (hg : ab (g - 1 / 2 * T) ≤ 1 / 800) (hd : ab (P - T) ≤ cE * (1 + S) * S) (hP : S * S ≤ 24 * P) (hS : S ≤ 49) (hS0 : 0 ≤ S) : ab (l - g) ≤ 99 / 10000 * (1 + l) := by
  have h1 := ab_via hl (show ab (1 / 2 * P - 1 / 2 * T) ≤ 1 / 2 * (cE * (1 + S) * S) by
    rw [show 1 / 2 * P - 1 / 2 * T = 1 / 2 * (P - T) by grind, ab_mul, ab_pos_eq (show (0 : Rat) ≤ 1 / 2 by decide +kernel)]
    exact Rat.mul_le_mul_of_nonneg_left hd (by decide +kernel))
  have h2 := ab_via h1 (show ab (1 / 2 * T - g) ≤ 1 / 800 by rw [← ab_neg, show -(1 / 2 * T - g) = g - 1 / 2 * T by grind]; exact hg)
  have h3 := ab_near (l - 1 / 2 * P)
  unfold Near at h3
  have hc : cE = 3 / 32000 := rfl
  generalize cE = c at *
  subst hc
  have := sqn S
  grind
theorem nt_f {b : Bool} (h : (!b) = true) : b = false := by cases b <;> simp_all
theorem gap_law {a b : Nat} {l g : Rat} (ha : Val .f32 a l) (hb : Val .f32 b g) (h : ab (l - g) ≤ 99 / 10000 * (1 + l)) (hl0 : 0 ≤ l) (hl : l ≤ 1000) :
    (forder .f64 (gap (fcvt .f32 .f64 a) (fcvt .f32 .f64 b)) (fop .mul .f64 (can .f64 4576918229304087675) (fop .add .f64 (can .f64 4607182418800017408) (fcvt .f32 .f64 a))) == some .gt) = false := by
  have k1000 : (1000 : Rat) * 2 ≤ most := by decide +kernel
  have hm : 99 / 10000 * (1 + l) ≤ most := by grind
  have g1 := gap_val ha.widen hb.widen (Rat.le_trans h hm)
  have he := eE_pos
  have hs := sE_pos
  have ke : eE ≤ 1 / 1000000 := by decide +kernel
  have ks : sE ≤ 1 / 1000000 := by decide +kernel
  have p1 : ab (1 + l) ≤ most := by rw [ab_pos_eq (by grind)]; grind
  have a1 : Val .f64 (fop .add .f64 (can .f64 4607182418800017408) (fcvt .f32 .f64 a)) (r64 (1 + l)) := one64.addR ha.widen (near_ab p1) Rat.le_refl
  have q1 := r64_ge (show 0 ≤ 1 + l by grind)
  have q2 := r64_le (d := 1 + l) (show ab (1 + l) ≤ 1 + l by rw [ab_pos_eq (by grind)]; exact Rat.le_refl)
  have hle := Rat.mul_le_mul_of_nonneg_left ke (show 0 ≤ 1 + l by grind)
  generalize hM : r64 (1 + l) = M at *
  have kc : ab (5764607523034235 / 2 ^ 59) = 5764607523034235 / 2 ^ 59 := ab_pos_eq (by decide +kernel)
  have kc2 : (99999 : Rat) / 10000000 ≤ 5764607523034235 / 2 ^ 59 := by decide +kernel
  have kc3 : (5764607523034235 : Rat) / 2 ^ 59 ≤ 1 / 50 := by decide +kernel
  have c001 := can_001
  generalize (5764607523034235 : Rat) / 2 ^ 59 = cc at *
  have hM0 : 0 ≤ M := by grind
  have r1 := Rat.mul_le_mul_of_nonneg_right kc2 hM0
  have r2 := Rat.mul_le_mul_of_nonneg_right kc3 hM0
  have hcM : ab (cc * M) = cc * M := ab_pos_eq (Rat.mul_nonneg (by grind) hM0)
  have a2 : Val .f64 (fop .mul .f64 (can .f64 4576918229304087675) (fop .add .f64 (can .f64 4607182418800017408) (fcvt .f32 .f64 a))) (r64 (cc * M)) := c001.mulR a1 (near_ab (show ab (cc * M) ≤ most by rw [hcM]; grind)) Rat.le_refl
  have q3 := r64_ge (show 0 ≤ cc * M by rw [← hcM]; exact ab_nonneg _)
  have q4 : r64 (ab (l - g)) ≤ 99 / 10000 * (1 + l) + (99 / 10000 * (1 + l) * eE + sE) := r64_le (by rw [ab_pos_eq (ab_nonneg _)]; exact h)
  have q5 : cc * M * eE ≤ cc * M * (1 / 1000000) := Rat.mul_le_mul_of_nonneg_left ke (by rw [← hcM]; exact ab_nonneg _)
  have q6 : 99 / 10000 * (1 + l) * eE ≤ 99 / 10000 * (1 + l) * (1 / 1000000) := Rat.mul_le_mul_of_nonneg_left ke (by grind)
  refine nt_f (ngt_val g1 a2 ?_)
  clear g1 a2 a1 c001 hcM ha hb h hm
  grind
section
variable {n : Nat} {R G L : Nat → Nat} {W : Nat} {u v : Nat → Nat} {V : Rat}
theorem Dr.lv (h : Dr n R G L W) {i : Nat} (hi : i < n) : Val .f32 (L (i * n + i)) (wv (L (i * n + i))) ∧ 2 ≤ wv (L (i * n + i)) ∧ wv (L (i * n + i)) ≤ 11 / 2 := by
  obtain ⟨p, hp, e⟩ := h.d i hi
  have hv := dL_val hp
  rw [← e] at hv
  refine ⟨wv_val hv, ?_, ?_⟩ <;> rw [wv_eq hv]
  · have : (0 : Rat) ≤ (p : Rat) := Rat.natCast_nonneg
    grind
  · have : (p : Rat) ≤ 7 := Rat.natCast_le_natCast.2 (show p ≤ 7 by omega)
    grind
theorem Dr.lo (h : Dr n R G L W) {i j : Nat} (hi : i < n) (hj : j < n) (hij : i ≠ j) : Val .f32 (L (i * n + j)) (wv (L (i * n + j))) ∧ ab (wv (L (i * n + j))) ≤ 3 / 4 := by
  obtain ⟨p, hp, e⟩ := h.o i j hi hj hij
  have hv := dO_val hp
  rw [← e] at hv
  refine ⟨wv_val hv, ?_⟩
  rw [wv_eq hv]
  have h0 : (0 : Rat) ≤ (p : Rat) := Rat.natCast_nonneg
  have h1 : (p : Rat) ≤ 6 := Rat.natCast_le_natCast.2 (show p ≤ 6 by omega)
  exact ab_le (by unfold Near; constructor <;> grind)
theorem Dr.la (h : Dr n R G L W) {i j : Nat} (hi : i < n) (hj : j < n) : Val .f32 (L (i * n + j)) (wv (L (i * n + j))) ∧ ab (wv (L (i * n + j))) ≤ 11 / 2 := by
  by_cases hij : i = j
  · subst hij
    obtain ⟨h1, h2, h3⟩ := h.lv hi
    exact ⟨h1, by rw [ab_pos_eq (by grind)]; exact h3⟩
  · obtain ⟨h1, h2⟩ := h.lo hi hj hij
    exact ⟨h1, by grind⟩
theorem two_sq (hn : n = 1 ∨ n = 2 ∨ n = 3) {i j : Nat} (hi : i < n) (hj : j < n) : sq (vq (xq n R G L W u v i)) + sq (vq (xq n R G L W u v j)) ≤ 2 * QP (xP n R G L W u v) := by
  have h1 := sq_at (R := R) (G := G) (L := L) (W := W) (u := u) (v := v) hn hi
  have h2 := sq_at (R := R) (G := G) (L := L) (W := W) (u := u) (v := v) hn hj
  grind
theorem ab_two (a b : Rat) : ab a * ab b * 2 ≤ a * a + b * b := by
  have h := sqn (ab a - ab b)
  rw [← ab_sq a, ← ab_sq b]
  grind
noncomputable def tqS (n : Nat) (L : Nat → Nat) (x : Nat → CQ) (p : Nat × Nat) : Rat := 1 / 4 * wv (L (p.1 * n + p.2)) * re (x p.1) (x p.2)
theorem sumS1 (h : Dr 1 R G L W) (x : Nat → CQ) : 1 / 8 * sq (x 0) ≤ sumQ (tqS 1 L x) (prs 1) := by
  have e : sumQ (tqS 1 L x) (prs 1) = 1 / 4 * wv (L (0 * 1 + 0)) * re (x 0) (x 0) + 0 := rfl
  rw [e]
  have := dia_le (x := x 0) (h.lv (i := 0) (by omega)).2.1
  have := sq_nonneg (x 0)
  grind
theorem ab0 : ab 0 ≤ 3 / 4 := by rw [ab_zero]; decide +kernel
theorem sumS2 (h : Dr 2 R G L W) (x : Nat → CQ) : 1 / 8 * (sq (x 0) + sq (x 1)) ≤ sumQ (tqS 2 L x) (prs 2) := by
  have e : sumQ (tqS 2 L x) (prs 2) = 1 / 4 * wv (L (0 * 2 + 0)) * re (x 0) (x 0) + (1 / 4 * wv (L (0 * 2 + 1)) * re (x 0) (x 1) + (1 / 4 * wv (L (1 * 2 + 0)) * re (x 1) (x 0) + (1 / 4 * wv (L (1 * 2 + 1)) * re (x 1) (x 1) + 0))) := rfl
  rw [e]
  have := stored3 (x0 := x 0) (x1 := x 1) (x2 := (0, 0)) (l02 := 0) (l12 := 0) (l20 := 0) (l21 := 0) (l22 := 2) (h.lv (i := 0) (by omega)).2.1 (h.lv (i := 1) (by omega)).2.1 (by decide +kernel) (h.lo (i := 0) (j := 1) (by omega) (by omega) (by omega)).2 ab0 (h.lo (i := 1) (j := 0) (by omega) (by omega) (by omega)).2 ab0 ab0 ab0
  have z : sq (0, 0) = 0 := by decide +kernel
  have z2 : re (0, 0) (0, 0) = 0 := by decide +kernel
  rw [z, z2] at this
  grind
theorem sumS3 (h : Dr 3 R G L W) (x : Nat → CQ) : 1 / 8 * (sq (x 0) + sq (x 1) + sq (x 2)) ≤ sumQ (tqS 3 L x) (prs 3) := by
  have e : sumQ (tqS 3 L x) (prs 3) = 1 / 4 * wv (L (0 * 3 + 0)) * re (x 0) (x 0) + (1 / 4 * wv (L (0 * 3 + 1)) * re (x 0) (x 1) + (1 / 4 * wv (L (0 * 3 + 2)) * re (x 0) (x 2) + (1 / 4 * wv (L (1 * 3 + 0)) * re (x 1) (x 0) + (1 / 4 * wv (L (1 * 3 + 1)) * re (x 1) (x 1) + (1 / 4 * wv (L (1 * 3 + 2)) * re (x 1) (x 2) + (1 / 4 * wv (L (2 * 3 + 0)) * re (x 2) (x 0) + (1 / 4 * wv (L (2 * 3 + 1)) * re (x 2) (x 1) + (1 / 4 * wv (L (2 * 3 + 2)) * re (x 2) (x 2) + 0)))))))) := rfl
  rw [e]
  have := stored3 (x0 := x 0) (x1 := x 1) (x2 := x 2) (h.lv (i := 0) (by omega)).2.1 (h.lv (i := 1) (by omega)).2.1 (h.lv (i := 2) (by omega)).2.1 (h.lo (i := 0) (j := 1) (by omega) (by omega) (by omega)).2 (h.lo (i := 0) (j := 2) (by omega) (by omega) (by omega)).2 (h.lo (i := 1) (j := 0) (by omega) (by omega) (by omega)).2 (h.lo (i := 1) (j := 2) (by omega) (by omega) (by omega)).2 (h.lo (i := 2) (j := 0) (by omega) (by omega) (by omega)).2 (h.lo (i := 2) (j := 1) (by omega) (by omega) (by omega)).2
  grind
theorem sumS (h : Dr n R G L W) (hn : n = 1 ∨ n = 2 ∨ n = 3) : 1 / 8 * QP (xP n R G L W u v) ≤ sumQ (tqS n L fun i => vq (xq n R G L W u v i)) (prs n) := by
  have z : sq (0, 0) = 0 := by decide +kernel
  rcases hn with rfl | rfl | rfl
  · have e : QP (xP 1 R G L W u v) = sq (vq (xq 1 R G L W u v 0)) + sq (0, 0) + sq (0, 0) := rfl
    rw [e, z]
    have := sumS1 h fun i => vq (xq 1 R G L W u v i)
    grind
  · have e : QP (xP 2 R G L W u v) = sq (vq (xq 2 R G L W u v 0)) + sq (vq (xq 2 R G L W u v 1)) + sq (0, 0) := rfl
    rw [e, z]
    have := sumS2 h fun i => vq (xq 2 R G L W u v i)
    grind
  · exact sumS3 h fun i => vq (xq 3 R G L W u v i)
theorem can_n001 : Val .f32 (can .f32 3129152111) (-(8589935 / 2 ^ 33)) := Val.of_vof (by decide +kernel)
theorem prs_len (hn : n = 1 ∨ n = 2 ∨ n = 3) : (((prs n).length : Nat) : Rat) ≤ 9 := by
  rcases hn with rfl | rfl | rfl <;> decide
theorem sto_ok (h : Dr n R G L W) (hn : n = 1 ∨ n = 2 ∨ n = 3) (hc : Cur n R G L W u v 2) : (forder .f32 (sto n L (cuX n R G L W u v) (cuY n R G L W u v)) (can .f32 3129152111) == some .lt) = false := by
  have hQ : QP (xP n R G L W u v) ≤ 396 := hc.sol.size.2.2
  have hQ0 : 0 ≤ QP (xP n R G L W u v) := by
    unfold QP
    have := sq_nonneg (xP n R G L W u v 0)
    have := sq_nonneg (xP n R G L W u v 1)
    have := sq_nonneg (xP n R G L W u v 2)
    grind
  have h2 : ∀ i j, i < n → j < n → sq (vq (xq n R G L W u v i)) + sq (vq (xq n R G L W u v j)) ≤ 2 * QP (xP n R G L W u v) := fun i j hi hj => two_sq hn hi hj
  have hs := sumS (u := u) (v := v) h hn
  have hlen := prs_len hn
  have hl0 : (0 : Rat) ≤ ((prs n).length : Rat) := Rat.natCast_nonneg
  generalize QP (xP n R G L W u v) = Q at *
  have hu := uE_pos
  have ht := tE_pos
  have ku : uE ≤ 1 / 10000000 := by decide +kernel
  have kt : tE ≤ 1 / 1000000000000 := by decide +kernel
  have hQu := Rat.mul_le_mul_of_nonneg_left ku hQ0
  have hQu0 := Rat.mul_nonneg hQ0 (Rat.le_of_lt hu)
  have hQt : Q * tE ≤ 396 * tE := Rat.mul_le_mul_of_nonneg_right hQ (Rat.le_of_lt ht)
  have hQt0 := Rat.mul_nonneg hQ0 (Rat.le_of_lt ht)
  have most1 : (1000000 : Rat) ≤ most := by decide +kernel
  have tut : tE * uE ≤ tE * (1 / 10000000) := Rat.mul_le_mul_of_nonneg_left ku (Rat.le_of_lt ht)
  obtain ⟨f, f1, f2, _⟩ := sum_near (ε := 20 * (Q * uE) + 1300 * tE) (B := 11 / 8 * Q) (D := 14 * (Q * uE) + 2 * tE) (K := 14 * Q + 100000 * tE) (tw := fun p => fop .mul .f32 (fop .mul .f32 (can .f32 1048576000) (L (p.1 * n + p.2))) (bothW (cuX n R G L W u v p.1, cuY n R G L W u v p.1) (cuX n R G L W u v p.2, cuY n R G L W u v p.2))) (tq := tqS n L fun i => vq (xq n R G L W u v i)) (by grind) (by grind) (by grind) (by grind) (by grind) (prs n) (fun p hp => by
    obtain ⟨hi, hj⟩ := prs_mem hp
    have s2 := h2 p.1 p.2 hi hj
    have hx := hc.fq p.1
    have hy := hc.fq p.2
    obtain ⟨l1, l2⟩ := h.la hi hj
    have r2 := re_half (vq (xq n R G L W u v p.1)) (vq (xq n R G L W u v p.2))
    have b1 : ab (vq (xq n R G L W u v p.1)).1 * ab (vq (xq n R G L W u v p.2)).1 ≤ Q := by
      have := ab_two (vq (xq n R G L W u v p.1)).1 (vq (xq n R G L W u v p.2)).1
      have := sqn (vq (xq n R G L W u v p.1)).2
      have := sqn (vq (xq n R G L W u v p.2)).2
      unfold sq at s2
      grind
    have b2 : ab (vq (xq n R G L W u v p.1)).2 * ab (vq (xq n R G L W u v p.2)).2 ≤ Q := by
      have := ab_two (vq (xq n R G L W u v p.1)).2 (vq (xq n R G L W u v p.2)).2
      have := sqn (vq (xq n R G L W u v p.1)).1
      have := sqn (vq (xq n R G L W u v p.2)).1
      unfold sq at s2
      grind
    have hre : ab (re (vq (xq n R G L W u v p.1)) (vq (xq n R G L W u v p.2))) ≤ Q := by grind
    obtain ⟨z, z1, z2⟩ := both_val hx hy b1 b2 (by grind)
    have hl : ab (1 / 4) * ab (wv (L (p.1 * n + p.2))) ≤ 11 / 8 := by
      rw [ab_pos_eq (show (0 : Rat) ≤ 1 / 4 by decide +kernel)]; grind
    obtain ⟨f, f1, f2, _⟩ := scaled can_quart l1 z1 hl (by decide +kernel) hre z2 (by grind)
    refine ⟨f, f1, Rat.le_trans f2 (by grind), ?_⟩
    unfold tqS
    rw [ab_mul, ab_mul]
    have := Rat.mul_le_mul_of_nonneg_right hl (ab_nonneg (re (vq (xq n R G L W u v p.1)) (vq (xq n R G L W u v p.2))))
    have := Rat.mul_le_mul_of_nonneg_left hre (show (0 : Rat) ≤ 11 / 8 by decide +kernel)
    grind) (can .f32 0) 0 0 0 can0v (by rw [show (0 : Rat) - 0 = 0 by grind, ab_zero]; exact Rat.le_refl) (by
      rw [ab_zero]
      have := Rat.mul_le_mul_of_nonneg_right hlen (show 0 ≤ 11 / 8 * Q + (20 * (Q * uE) + 1300 * tE + (14 * (Q * uE) + 2 * tE)) by grind)
      grind)
  have e : sto n L (cuX n R G L W u v) (cuY n R G L W u v) = sumW (fun p => fop .mul .f32 (fop .mul .f32 (can .f32 1048576000) (L (p.1 * n + p.2))) (bothW (cuX n R G L W u v p.1, cuY n R G L W u v p.1) (cuX n R G L W u v p.2, cuY n R G L W u v p.2))) (prs n) (can .f32 0) := by
    unfold sto; rw [stoG_eq]
  rw [e]
  refine nlt_val f1 can_n001 ?_
  have k := Rat.mul_le_mul_of_nonneg_right hlen (show 0 ≤ 20 * (Q * uE) + 1300 * tE + (14 * (Q * uE) + 2 * tE) by grind)
  have near := ab_near (f - (0 + sumQ (tqS n L fun i => vq (xq n R G L W u v i)) (prs n)))
  unfold Near at near
  have kk : -(8589935 / 2 ^ 33) ≤ (-(1 / 2000) : Rat) := by decide +kernel
  grind
end
end Go.Fw.T1

/-
  The transformer that is joined to a drawn circuit: its equations.
-/
namespace Go.Fw.T1
open Go.Proofs
abbrev tRw : Nat → Nat := trR (can .f32 1048576000) (can .f32 1056964608)
abbrev tGw : Nat → Nat := trR (can .f32 0) (can .f32 0)
abbrev tCw : Nat → Nat := trC (can .f32 1073741824) (can .f32 1077936128) (can .f32 1056964608)
set_option maxRecDepth 100000 in
theorem tr_valid : trOk (can .f32 1073741824) (can .f32 1077936128) (can .f32 1056964608) (can .f32 1048576000) (can .f32 1056964608) = true := by decide +kernel
def mW : Nat := fop .mul .f32 (can .f32 1056964608) (root32 (fop .mul .f32 (can .f32 1073741824) (can .f32 1077936128)))
set_option maxRecDepth 100000 in
theorem mW_eq : mW = 1067238513 := by decide +kernel
set_option maxRecDepth 100000 in
theorem t00_all : allUpTo (fun p => isV .f32 (vsub (vmul (vof .f32 (dR p)) (vof .f32 (can .f32 1073741824))) (vquo (vof .f32 (can .f32 0)) (vof .f32 (dR p)))) ((1 + (p : Rat)) / 2)) 12 = true := by decide +kernel
set_option maxRecDepth 100000 in
theorem t11_all : allUpTo (fun p => isV .f32 (vsub (vmul (vof .f32 (dR p)) (vof .f32 (can .f32 1077936128))) (vquo (vof .f32 (can .f32 0)) (vof .f32 (dR p)))) (3 * (1 + (p : Rat)) / 4)) 12 = true := by decide +kernel
set_option maxRecDepth 100000 in
theorem t01_all : allUpTo (fun p => fit (vmul (vof .f32 (dR p)) (vof .f32 1067238513)) (5 * (1 + p) * 2 ^ 145)) 12 = true := by decide +kernel
theorem t01_unit (p : Nat) : (((5 * (1 + p) * 2 ^ 145 : Nat)) : Rat) ≤ 5 * (1 + (p : Rat)) / 16 * unit .f32 := by
  have hu : unit .f32 = 2 ^ 149 := by decide +kernel
  rw [hu, Rat.natCast_mul, Rat.natCast_mul, Rat.natCast_add]
  have e : (((2 ^ 145 : Nat)) : Rat) * 16 = 2 ^ 149 := by decide +kernel
  rw [← e]
  generalize (((2 ^ 145 : Nat)) : Rat) = z
  rw [show ((5 : Nat) : Rat) = 5 from rfl, show ((1 : Nat) : Rat) = 1 from rfl]
  grind
section
variable {p : Nat}
theorem t00 (hp : p < 12) : CV (zR 2 tRw (0 * 2 + 0), zI 2 tGw tCw (dR p) (0 * 2 + 0)) (1 / 4, (1 + (p : Rat)) / 2) :=
  ⟨can_quart, .of_rep (rep_sub (rep_mul (rep_of _ _) (rep_of _ _)) (rep_quo (rep_of _ _) (rep_of _ _))) (allUpTo_iff.1 t00_all p hp)⟩
theorem t11 (hp : p < 12) : CV (zR 2 tRw (1 * 2 + 1), zI 2 tGw tCw (dR p) (1 * 2 + 1)) (1 / 2, 3 * (1 + (p : Rat)) / 4) :=
  ⟨can_half, .of_rep (rep_sub (rep_mul (rep_of _ _) (rep_of _ _)) (rep_quo (rep_of _ _) (rep_of _ _))) (allUpTo_iff.1 t11_all p hp)⟩
theorem tm_word (hp : p < 12) : ∃ b, Val .f32 (fop .mul .f32 (dR p) mW) b ∧ ab b ≤ 5 * (1 + (p : Rat)) / 16 := by
  rw [mW_eq]
  obtain ⟨b, h1, h2⟩ := fit_near (rep_mul (rep_of _ _) (rep_of _ _)) (allUpTo_iff.1 t01_all p hp) (t01_unit p)
  exact ⟨b, h1, ab_le h2⟩
theorem w01 (W : Nat) : (zR 2 tRw (0 * 2 + 1), zI 2 tGw tCw W (0 * 2 + 1)) = (can .f32 0, fop .mul .f32 W mW) := by kernel_rfl
theorem w10 (W : Nat) : (zR 2 tRw (1 * 2 + 0), zI 2 tGw tCw W (1 * 2 + 0)) = (can .f32 0, fop .mul .f32 W mW) := by kernel_rfl
noncomputable def rowsT (W : Nat) : List (List CQ) := (rowsW 2 (zR 2 tRw) (zI 2 tGw tCw W) (fun _ => 0) (fun _ => 0)).map vrow
theorem fq_00 : Fq ((0, 0) : C) := cv_fq cv_cz
theorem vq_00 : vq ((0, 0) : C) = (0, 0) := cv_eq cv_cz
theorem tr_entry (hp : p < 12) : ∃ b, ab b ≤ 5 * (1 + (p : Rat)) / 16 ∧ (∀ i j, i < 2 → j < 2 → Fq (zR 2 tRw (i * 2 + j), zI 2 tGw tCw (dR p) (i * 2 + j)) ∧ N (vq (zR 2 tRw (i * 2 + j), zI 2 tGw tCw (dR p) (i * 2 + j))) ≤ 19) ∧
    rowsT (dR p) = R2 (1 / 4) (1 / 2) ((1 + (p : Rat)) / 2) b (3 * (1 + (p : Rat)) / 4) (0, 0) (0, 0) := by
  obtain ⟨b, hb, hbn⟩ := tm_word hp
  have h00 := t00 hp
  have h11 := t11 hp
  have hm : CV (can .f32 0, fop .mul .f32 (dR p) mW) (0, b) := ⟨can0v, hb⟩
  have h01 : CV (zR 2 tRw (0 * 2 + 1), zI 2 tGw tCw (dR p) (0 * 2 + 1)) (0, b) := by
    rw [w01]; exact hm
  have h10 : CV (zR 2 tRw (1 * 2 + 0), zI 2 tGw tCw (dR p) (1 * 2 + 0)) (0, b) := by
    rw [w10]; exact hm
  have p0 : (0 : Rat) ≤ (p : Rat) := Rat.natCast_nonneg
  have p11 : (p : Rat) ≤ 11 := Rat.natCast_le_natCast.2 (show p ≤ 11 by omega)
  have nb : N ((0, b) : CQ) ≤ 19 := by show ab 0 + ab b ≤ 19; rw [ab_zero]; grind
  refine ⟨b, hbn, fun i j hi hj => ?_, ?_⟩
  · match i, j, hi, hj with
    | 0, 0, _, _ =>
      refine ⟨cv_fq h00, ?_⟩
      rw [cv_eq h00]
      show ab (1 / 4) + ab ((1 + (p : Rat)) / 2) ≤ 19
      rw [ab_pos_eq (show (0 : Rat) ≤ 1 / 4 by decide +kernel), ab_pos_eq (show (0 : Rat) ≤ (1 + (p : Rat)) / 2 by grind)]
      grind
    | 0, 1, _, _ => exact ⟨cv_fq h01, by rw [cv_eq h01]; exact nb⟩
    | 1, 0, _, _ => exact ⟨cv_fq h10, by rw [cv_eq h10]; exact nb⟩
    | 1, 1, _, _ =>
      refine ⟨cv_fq h11, ?_⟩
      rw [cv_eq h11]
      show ab (1 / 2) + ab (3 * (1 + (p : Rat)) / 4) ≤ 19
      rw [ab_pos_eq (show (0 : Rat) ≤ 1 / 2 by decide +kernel), ab_pos_eq (show (0 : Rat) ≤ 3 * (1 + (p : Rat)) / 4 by grind)]
      grind
  · have e : rowsT (dR p) = [[vq (zR 2 tRw (0 * 2 + 0), zI 2 tGw tCw (dR p) (0 * 2 + 0)), vq (zR 2 tRw (0 * 2 + 1), zI 2 tGw tCw (dR p) (0 * 2 + 1)), vq (0, 0)], [vq (zR 2 tRw (1 * 2 + 0), zI 2 tGw tCw (dR p) (1 * 2 + 0)), vq (zR 2 tRw (1 * 2 + 1), zI 2 tGw tCw (dR p) (1 * 2 + 1)), vq (0, 0)]] := rfl
    rw [e, cv_eq h00, cv_eq h01, cv_eq h10, cv_eq h11, vq_00]
    rfl
theorem zeros_ok (i : Nat) (_ : i < 2) : Fq ((fun _ => 0 : Nat → Nat) i, (fun _ => 0 : Nat → Nat) i) ∧ N (vq ((fun _ => 0 : Nat → Nat) i, (fun _ => 0 : Nat → Nat) i)) ≤ 4 := ⟨fq_00, by show N (vq (0, 0)) ≤ 4; rw [vq_00, N00]; decide⟩
theorem tr_rows (hp : p < 12) : (∀ z, z ∈ rowsT (dR p) → z.length = 2 + 1) ∧ (∀ z, z ∈ rowsT (dR p) → ∀ a, a ∈ z → Rp a) ∧ (∀ z, z ∈ rowsT (dR p) → ∀ a, a ∈ z → N a ≤ big) ∧ SafeQ 2 (rowsT (dR p)) ∧ (solQ 2 (rowsT (dR p))).length = 2 ∧
    (∀ x, x ∈ solQ 2 (rowsT (dR p)) → N x ≤ big) ∧ waysQ 2 (rowsT (dR p)) = [false] := by
  obtain ⟨b, hb, hen, hr⟩ := tr_entry hp
  obtain ⟨hF, hG⟩ := rows_good (n := 2) (x := zR 2 tRw) (y := zI 2 tGw tCw (dR p)) (u := fun _ => 0) (v := fun _ => 0) hen zeros_ok
  have hG : Good 2 19 (rowsT (dR p)) := hG
  have hlow : Low 2 8 (rowsT (dR p)) := by rw [hr]; exact low2 (by decide +kernel) (by decide +kernel)
  have S := sol_2 (by decide) (by decide) (by decide) (by decide) hG hlow
  have p0 : (0 : Rat) ≤ (p : Rat) := Rat.natCast_nonneg
  have p11 : (p : Rat) ≤ 11 := Rat.natCast_le_natCast.2 (show p ≤ 11 by omega)
  have kX : XB ≤ big := by decide +kernel
  have k19 : (19 : Rat) ≤ big := by decide +kernel
  refine ⟨hG.row, fun z hz a ha => ?_, fun z hz a ha => Rat.le_trans (hG.bd z hz a ha) k19, S.safe, S.len, fun x hx => Rat.le_trans (S.bd x hx) kX, ?_⟩
  · obtain ⟨q, hq, rfl⟩ := List.mem_map.1 hz
    obtain ⟨w, hw, rfl⟩ := List.mem_map.1 ha
    exact rp_cv (hF q hq w hw)
  · rw [hr]
    have e : waysQ 2 (R2 (1 / 4) (1 / 2) ((1 + (p : Rat)) / 2) b (3 * (1 + (p : Rat)) / 4) (0, 0) (0, 0)) = if pwQ (1 / 4, (1 + (p : Rat)) / 2) < pwQ (0, b) then [true] else [false] := by
      unfold R2
      simp only [waysQ, bitsQ, hdq]
      have key : ∀ X : List (List CQ), X.length = 1 → waysQ 1 X = [] := fun X hX => by
        match X, hX with
        | [q], _ => rfl
      have key2 : ∀ {l m : List Bool}, m = [] → l ++ m = l := fun h => by rw [h, List.append_nil]
      exact key2 (key _ (by rw [List.length_map, oth_lenW]; rfl))
    rw [e, if_neg]
    have h1 := pw_err (1 / 4, (1 + (p : Rat)) / 2)
    have h2 := pw_err (0, b)
    have n1 := ab_near (pwQ (1 / 4, (1 + (p : Rat)) / 2) - sq (1 / 4, (1 + (p : Rat)) / 2))
    have n2 := ab_near (pwQ (0, b) - sq (0, b))
    have s1 : sq (1 / 4, (1 + (p : Rat)) / 2) = 1 / 16 + (1 + (p : Rat)) / 2 * ((1 + (p : Rat)) / 2) := by unfold sq; dsimp only; grind
    have s2 : sq (0, b) = ab b * ab b := by unfold sq; dsimp only; rw [ab_sq]; grind
    have hb2 : ab b ≤ (1 + (p : Rat)) / 2 := by grind
    have hb0 := ab_nonneg b
    have m1 := Rat.mul_le_mul_of_nonneg_right hb2 hb0
    have m2 := Rat.mul_le_mul_of_nonneg_left hb2 (show 0 ≤ (1 + (p : Rat)) / 2 by grind)
    have m3 : (1 + (p : Rat)) / 2 * ((1 + (p : Rat)) / 2) ≤ 6 * 6 := Rat.le_trans (Rat.mul_le_mul_of_nonneg_right (show (1 + (p : Rat)) / 2 ≤ 6 by grind) (by grind)) (Rat.mul_le_mul_of_nonneg_left (by grind) (by decide))
    rw [s1] at h1 n1
    rw [s2] at h2 n2
    generalize (1 + (p : Rat)) / 2 * ((1 + (p : Rat)) / 2) = A at *
    have hu := uE_pos
    have ht := tE_pos
    have q1 : (1 / 16 + A) * uE ≤ 37 * uE := Rat.mul_le_mul_of_nonneg_right (by grind) (Rat.le_of_lt hu)
    have q2 : ab b * ab b * uE ≤ 37 * uE := Rat.mul_le_mul_of_nonneg_right (by grind) (Rat.le_of_lt hu)
    have k : 74 * uE + 2 * tE ≤ 1 / 100 := by decide +kernel
    unfold Near at n1 n2
    grind
end
end Go.Fw.T1
