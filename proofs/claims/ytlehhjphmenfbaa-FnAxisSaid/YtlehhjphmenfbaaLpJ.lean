/-
  Far fields of a small ring: rows 0 to 4 of the table.
-/
import Derived.Test.YtlehhjphmenfbaaLpC

namespace Go.Fw.E1
open Go.Proofs
set_option maxRecDepth 100000 in
theorem rowBsa : allUpTo (fun i => rowB (0 + i)) 5 = true := by decide +kernel
end Go.Fw.E1
