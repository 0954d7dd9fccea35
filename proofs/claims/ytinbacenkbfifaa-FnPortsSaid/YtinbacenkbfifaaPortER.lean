/-
  What the types of the laws' parameters read as. Condition: none.
-/
import Derived.Test.YtinbacenkbfifaaFwI
import Derived.Test.YtinbacenkbfifaaPortR
import Derived.Test.YtinbacenkbfifaaPortCR
import Derived.Test.YtinbacenkbfifaaPortDR
import Derived.Test.YtinbacenkbfifaaPortEF
namespace Go.Proofs.Ytinbacenkbfifaa
open Go Go.Fw Go.Hv



end Go.Proofs.Ytinbacenkbfifaa
