/-
  What the types of the laws' parameters read as. Condition: none.
-/
import Derived.Test.YtdlhpomgmlcfoaaFwI
import Derived.Test.YtdlhpomgmlcfoaaVcpuF
namespace Go.Proofs.Ytdlhpomgmlcfoaa
open Go Go.Fw Go.Hv



end Go.Proofs.Ytdlhpomgmlcfoaa
