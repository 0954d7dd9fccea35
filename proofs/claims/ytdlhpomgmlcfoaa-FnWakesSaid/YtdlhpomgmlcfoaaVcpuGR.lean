/-
  What the types of the laws' parameters read as. Condition: none.
-/
import Derived.Test.YtdlhpomgmlcfoaaFwI
import Derived.Test.YtdlhpomgmlcfoaaVcpuR
import Derived.Test.YtdlhpomgmlcfoaaVcpuBR
import Derived.Test.YtdlhpomgmlcfoaaVcpuCR
import Derived.Test.YtdlhpomgmlcfoaaVcpuGd
import Derived.Test.YtdlhpomgmlcfoaaVcpuGF
namespace Go.Proofs.Ytdlhpomgmlcfoaa
open Go Go.Fw Go.Hv



end Go.Proofs.Ytdlhpomgmlcfoaa
