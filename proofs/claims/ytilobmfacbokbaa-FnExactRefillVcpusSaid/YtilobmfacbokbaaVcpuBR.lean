/-
  What the types of the laws' parameters read as. Condition: none.
-/
import Derived.Test.YtilobmfacbokbaaFwI
import Derived.Test.YtilobmfacbokbaaVcpuR
import Derived.Test.YtilobmfacbokbaaVcpuBF
namespace Go.Proofs.Ytilobmfacbokbaa
open Go Go.Fw Go.Hv



end Go.Proofs.Ytilobmfacbokbaa
