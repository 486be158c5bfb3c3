/-
  The field of a ring of eight points at quarters: rows 5 to 9 of the table.
-/
import Derived.Test.YtlehhjphmenfbaaLpB

namespace Go.Fw.E1
set_option maxRecDepth 100000 in
theorem vmRowsb : allUpTo (fun i => vmRow (5 + i)) 5 = true := by decide +kernel
end Go.Fw.E1
