/-
  Fields of a square at eighths: rows 9 to 12 of the table.
-/
import Derived.Test.YtlehhjphmenfbaaLpC

namespace Go.Fw.E1
set_option maxRecDepth 100000 in
theorem lRowsc : allUpTo (fun i => lRow (9 + i)) 4 = true := by decide +kernel
end Go.Fw.E1
