/-
  What the types of the laws' parameters read as. Condition: none.
-/
import Derived.Test.YtmdhojgkhbihaaaFwI
import Derived.Test.YtmdhojgkhbihaaaMailF
namespace Go.Proofs.Ytmdhojgkhbihaaa
open Go Go.Fw Go.Hv



end Go.Proofs.Ytmdhojgkhbihaaa
