/-
  Far fields of a small ring: rows 13 to 16 of the table.
-/
import Derived.Test.YtlehhjphmenfbaaLpC

namespace Go.Fw.E1
open Go.Proofs
set_option maxRecDepth 100000 in
theorem rowBsd : allUpTo (fun i => rowB (13 + i)) 4 = true := by decide +kernel
end Go.Fw.E1
