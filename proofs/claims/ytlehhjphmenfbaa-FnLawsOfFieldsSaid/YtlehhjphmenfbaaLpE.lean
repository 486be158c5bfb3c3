/-
  Fields of a square at eighths: rows 5 to 8 of the table.
-/
import Derived.Test.YtlehhjphmenfbaaLpC

namespace Go.Fw.E1
set_option maxRecDepth 100000 in
theorem lRowsb : allUpTo (fun i => lRow (5 + i)) 4 = true := by decide +kernel
end Go.Fw.E1
