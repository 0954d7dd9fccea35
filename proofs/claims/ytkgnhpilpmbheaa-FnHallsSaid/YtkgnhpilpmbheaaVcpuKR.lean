/-
  What the types of the laws' parameters read as. Condition: none.
-/
import Derived.Test.YtkgnhpilpmbheaaFwI
import Derived.Test.YtkgnhpilpmbheaaVcpuR
import Derived.Test.YtkgnhpilpmbheaaVcpuBR
import Derived.Test.YtkgnhpilpmbheaaVcpuCR
import Derived.Test.YtkgnhpilpmbheaaVcpuGR
import Derived.Test.YtkgnhpilpmbheaaVcpuHR
import Derived.Test.YtkgnhpilpmbheaaVcpuKd
import Derived.Test.YtkgnhpilpmbheaaVcpuKF
namespace Go.Proofs.Ytkgnhpilpmbheaa
open Go Go.Fw Go.Hv



end Go.Proofs.Ytkgnhpilpmbheaa
