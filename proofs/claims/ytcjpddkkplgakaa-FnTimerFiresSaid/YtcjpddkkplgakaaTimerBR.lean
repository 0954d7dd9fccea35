/-
  What the types of the laws' parameters read as. Condition: none.
-/
import Derived.Test.YtcjpddkkplgakaaFwI
import Derived.Test.YtcjpddkkplgakaaTimerR
import Derived.Test.YtcjpddkkplgakaaTimerBd
import Derived.Test.YtcjpddkkplgakaaTimerBF
namespace Go.Proofs.Ytcjpddkkplgakaa
open Go Go.Fw Go.Hv



end Go.Proofs.Ytcjpddkkplgakaa
