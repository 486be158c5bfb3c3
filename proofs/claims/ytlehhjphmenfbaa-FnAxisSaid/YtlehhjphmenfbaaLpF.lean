/-
  Fields on the axes of rings: rows 7 to 12 of the table.
-/
import Derived.Test.YtlehhjphmenfbaaLpC

namespace Go.Fw.E1
open Go.Proofs
set_option maxRecDepth 100000 in
theorem rowAsb : allUpTo (fun i => rowA (7 + i)) 6 = true := by decide +kernel
end Go.Fw.E1
