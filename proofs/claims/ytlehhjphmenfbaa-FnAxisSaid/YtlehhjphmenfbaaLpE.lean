/-
  Fields on the axes of rings: rows 0 to 6 of the table.
-/
import Derived.Test.YtlehhjphmenfbaaLpC

namespace Go.Fw.E1
open Go.Proofs
set_option maxRecDepth 100000 in
theorem rowAsa : allUpTo (fun i => rowA (0 + i)) 7 = true := by decide +kernel
end Go.Fw.E1
