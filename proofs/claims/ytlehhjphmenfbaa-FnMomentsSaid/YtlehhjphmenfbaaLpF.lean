/-
  The field of a ring of eight points at quarters: rows 15 to 18 of the table.
-/
import Derived.Test.YtlehhjphmenfbaaLpB

namespace Go.Fw.E1
set_option maxRecDepth 100000 in
theorem vmRowsd : allUpTo (fun i => vmRow (15 + i)) 4 = true := by decide +kernel
end Go.Fw.E1
