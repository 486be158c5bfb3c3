/-
  The law of loops that are tuned: transformers, frequencies 8 to 11.
-/
import Derived.Test.YtoanjoamillpmaaLpA

namespace Go.Fw.T1
open Go.Proofs
set_option maxRecDepth 100000 in
theorem kB_2 : allUpTo (fun h => allUpTo (fun i => allUpTo (fun j => allUpTo (fun k => kB (vWt (8 + h)) (vFt i) (vFt j) (vKt k)) 8) 8) 8) 4 = true := by decide +kernel
end Go.Fw.T1
