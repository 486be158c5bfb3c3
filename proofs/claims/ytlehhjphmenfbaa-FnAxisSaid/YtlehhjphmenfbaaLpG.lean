/-
  Fields on the axes of rings: rows 13 to 18 of the table.
-/
import Derived.Test.YtlehhjphmenfbaaLpC

namespace Go.Fw.E1
open Go.Proofs
set_option maxRecDepth 100000 in
theorem rowAsc : allUpTo (fun i => rowA (13 + i)) 6 = true := by decide +kernel
end Go.Fw.E1
