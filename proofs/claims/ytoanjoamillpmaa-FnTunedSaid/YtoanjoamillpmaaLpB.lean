/-
  The law of loops that are tuned: transformers that are valid.
-/
import Derived.Test.YtoanjoamillpmaaLpA

namespace Go.Fw.T1
open Go.Proofs
set_option maxRecDepth 100000 in
theorem wT_all : allUpTo (fun i => allUpTo (fun j => allUpTo (fun k => band (kD (vFt i) (vFt j) (vKt k)) (trOk (lF (Int.ofNat i)) (lF (Int.ofNat j)) (lK (Int.ofNat k)) (can .f32 1048576000) (can .f32 1056964608))) 8) 8) 8 = true := by decide +kernel
end Go.Fw.T1
