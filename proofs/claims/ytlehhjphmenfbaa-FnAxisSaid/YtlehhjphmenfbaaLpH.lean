/-
  Fields on the axes of rings: rows 19 to 24 of the table.
-/
import Derived.Test.YtlehhjphmenfbaaLpC

namespace Go.Fw.E1
open Go.Proofs
set_option maxRecDepth 100000 in
theorem rowAsd : allUpTo (fun i => rowA (19 + i)) 6 = true := by decide +kernel
end Go.Fw.E1
