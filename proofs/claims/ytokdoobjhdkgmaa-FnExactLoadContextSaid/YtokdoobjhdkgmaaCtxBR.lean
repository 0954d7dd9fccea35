/-
  What the types of the laws' parameters read as. Condition: none.
-/
import Derived.Test.YtokdoobjhdkgmaaFwI
import Derived.Test.YtokdoobjhdkgmaaCtxR
import Derived.Test.YtokdoobjhdkgmaaCtxBd
import Derived.Test.YtokdoobjhdkgmaaCtxBF
namespace Go.Proofs.Ytokdoobjhdkgmaa
open Go Go.Fw Go.Hv



end Go.Proofs.Ytokdoobjhdkgmaa
