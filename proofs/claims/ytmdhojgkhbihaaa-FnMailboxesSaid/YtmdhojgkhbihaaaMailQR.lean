/-
  What the types of the laws' parameters read as. Condition: none.
-/
import Derived.Test.YtmdhojgkhbihaaaFwI
import Derived.Test.YtmdhojgkhbihaaaMailR
import Derived.Test.YtmdhojgkhbihaaaMailBR
import Derived.Test.YtmdhojgkhbihaaaMailCR
import Derived.Test.YtmdhojgkhbihaaaMailDR
import Derived.Test.YtmdhojgkhbihaaaMailER
import Derived.Test.YtmdhojgkhbihaaaMailPR
import Derived.Test.YtmdhojgkhbihaaaMailQd
import Derived.Test.YtmdhojgkhbihaaaMailQF
namespace Go.Proofs.Ytmdhojgkhbihaaa
open Go Go.Fw Go.Hv



end Go.Proofs.Ytmdhojgkhbihaaa
