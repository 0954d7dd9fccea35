/-
  What the types of the laws' parameters read as. Condition: none.
-/
import Derived.Test.YtdlhpomgmlcfoaaFwI
import Derived.Test.YtdlhpomgmlcfoaaVcpuR
import Derived.Test.YtdlhpomgmlcfoaaVcpuBR
import Derived.Test.YtdlhpomgmlcfoaaVcpuCd
import Derived.Test.YtdlhpomgmlcfoaaVcpuCF
namespace Go.Proofs.Ytdlhpomgmlcfoaa
open Go Go.Fw Go.Hv



end Go.Proofs.Ytdlhpomgmlcfoaa
