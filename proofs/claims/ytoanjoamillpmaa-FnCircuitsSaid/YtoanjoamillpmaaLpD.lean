/-
  4 equations solved: the way tfffff.
-/
import Derived.Test.YtoanjoamillpmaaLpA

namespace Go.Fw.T1
open Go.Proofs
noncomputable def wS4tfffff (x y u v : Nat → Nat) : Option (Bool × A) := autoW cfgA4 own47 5 (fun _ => none) [false, true, true, true, true, false, true, true, true, true, true, true, false, true, false, false, false, true, true, true, true, false, true, true, true, true, false, true, true, true, true, false, true, true, true, true, false, true, false, false, false, true, true, true, false, true, true, true, false, true, true, true, true, false, false, false, true, true, false, true, true, true, false, false, false, true, false, true, true, false, true, true, true, false, true, true, true, true, false, false] Try.f47 [.ro 1 16 (.cpxs .f32 x y), .ro 1 4 (.cpxs .f32 u v)]
set_option maxHeartbeats 4000000 in
theorem walkT4tfffff (x y u v : Nat → Nat) : wS4tfffff x y u v = some ((lSolve 4 x y u v [true, false, false, false, false, false]).1, .tup [.ro 1 4 (.cpxs .f32 (pX (wS4tfffff x y u v)) (pY (wS4tfffff x y u v))), .bool true]) := by kernel_rfl
set_option maxHeartbeats 4000000 in
theorem valT4tfffff (x y u v : Nat → Nat) : (pX (wS4tfffff x y u v) 0, pY (wS4tfffff x y u v) 0) = ((lc (lSolve 4 x y u v [true, false, false, false, false, false]).2 0).1, (lc (lSolve 4 x y u v [true, false, false, false, false, false]).2 0).2) := by kernel_rfl
end Go.Fw.T1
