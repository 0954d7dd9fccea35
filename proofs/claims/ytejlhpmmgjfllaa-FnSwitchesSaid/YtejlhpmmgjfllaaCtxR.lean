/-
  What the types of the laws' parameters read as. Condition: none.
-/
import Derived.Test.YtejlhpmmgjfllaaFwI
import Derived.Test.YtejlhpmmgjfllaaCtxF
namespace Go.Proofs.Ytejlhpmmgjfllaa
open Go Go.Fw Go.Hv



end Go.Proofs.Ytejlhpmmgjfllaa
