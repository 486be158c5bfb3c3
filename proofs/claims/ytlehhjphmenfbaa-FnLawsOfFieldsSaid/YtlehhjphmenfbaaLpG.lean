/-
  Fields of a square at eighths: rows 13 to 16 of the table.
-/
import Derived.Test.YtlehhjphmenfbaaLpC

namespace Go.Fw.E1
set_option maxRecDepth 100000 in
theorem lRowsd : allUpTo (fun i => lRow (13 + i)) 4 = true := by decide +kernel
end Go.Fw.E1
