/-
  What the types of the laws' parameters read as. Condition: none.
-/
import Derived.Test.YtkgnhpilpmbheaaFwI
import Derived.Test.YtkgnhpilpmbheaaVcpuR
import Derived.Test.YtkgnhpilpmbheaaVcpuBF
namespace Go.Proofs.Ytkgnhpilpmbheaa
open Go Go.Fw Go.Hv



end Go.Proofs.Ytkgnhpilpmbheaa
