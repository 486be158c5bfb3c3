/-
  Fields of a square at eighths: rows 0 to 4 of the table.
-/
import Derived.Test.YtlehhjphmenfbaaLpC

namespace Go.Fw.E1
set_option maxRecDepth 100000 in
theorem lRowsa : allUpTo (fun i => lRow (0 + i)) 5 = true := by decide +kernel
end Go.Fw.E1
