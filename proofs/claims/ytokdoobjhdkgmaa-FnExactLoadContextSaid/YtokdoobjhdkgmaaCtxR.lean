/-
  What the types of the laws' parameters read as. Condition: none.
-/
import Derived.Test.YtokdoobjhdkgmaaFwI
import Derived.Test.YtokdoobjhdkgmaaCtxF
namespace Go.Proofs.Ytokdoobjhdkgmaa
open Go Go.Fw Go.Hv



end Go.Proofs.Ytokdoobjhdkgmaa
