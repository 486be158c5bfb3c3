/-
  Far fields of a small ring: rows 5 to 8 of the table.
-/
import Derived.Test.YtlehhjphmenfbaaLpC

namespace Go.Fw.E1
open Go.Proofs
set_option maxRecDepth 100000 in
theorem rowBsb : allUpTo (fun i => rowB (5 + i)) 4 = true := by decide +kernel
end Go.Fw.E1
