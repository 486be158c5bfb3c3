/-
  Far fields of a small ring: rows 9 to 12 of the table.
-/
import Derived.Test.YtlehhjphmenfbaaLpC

namespace Go.Fw.E1
open Go.Proofs
set_option maxRecDepth 100000 in
theorem rowBsc : allUpTo (fun i => rowB (9 + i)) 4 = true := by decide +kernel
end Go.Fw.E1
