/-
  What the types of the laws' parameters read as. Condition: none.
-/
import Derived.Test.YtmdhojgkhbihaaaFwI
import Derived.Test.YtmdhojgkhbihaaaMailR
import Derived.Test.YtmdhojgkhbihaaaMailBR
import Derived.Test.YtmdhojgkhbihaaaMailCd
import Derived.Test.YtmdhojgkhbihaaaMailCF
namespace Go.Proofs.Ytmdhojgkhbihaaa
open Go Go.Fw Go.Hv



end Go.Proofs.Ytmdhojgkhbihaaa
