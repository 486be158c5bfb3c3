/-
  The field of a ring of eight points at quarters: rows 0 to 4 of the table.
-/
import Derived.Test.YtlehhjphmenfbaaLpB

namespace Go.Fw.E1
set_option maxRecDepth 100000 in
theorem vmRowsa : allUpTo (fun i => vmRow (0 + i)) 5 = true := by decide +kernel
end Go.Fw.E1
