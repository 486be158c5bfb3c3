/-
  The field of a ring of eight points at quarters: rows 10 to 14 of the table.
-/
import Derived.Test.YtlehhjphmenfbaaLpB

namespace Go.Fw.E1
set_option maxRecDepth 100000 in
theorem vmRowsc : allUpTo (fun i => vmRow (10 + i)) 5 = true := by decide +kernel
end Go.Fw.E1
