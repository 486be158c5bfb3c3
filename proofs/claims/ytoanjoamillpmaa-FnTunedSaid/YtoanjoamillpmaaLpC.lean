/-
  The law of loops that are tuned: transformers, frequencies 0 to 3.
-/
import Derived.Test.YtoanjoamillpmaaLpA

namespace Go.Fw.T1
open Go.Proofs
set_option maxRecDepth 100000 in
theorem kB_0 : allUpTo (fun h => allUpTo (fun i => allUpTo (fun j => allUpTo (fun k => kB (vWt (0 + h)) (vFt i) (vFt j) (vKt k)) 8) 8) 8) 4 = true := by decide +kernel
end Go.Fw.T1
