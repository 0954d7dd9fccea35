/-
  What the types of the laws' parameters read as. Condition: none.
-/
import Derived.Test.YtejlhpmmgjfllaaFwI
import Derived.Test.YtejlhpmmgjfllaaCtxR
import Derived.Test.YtejlhpmmgjfllaaCtxBR
import Derived.Test.YtejlhpmmgjfllaaCtxCR
import Derived.Test.YtejlhpmmgjfllaaCtxDd
import Derived.Test.YtejlhpmmgjfllaaCtxDF
namespace Go.Proofs.Ytejlhpmmgjfllaa
open Go Go.Fw Go.Hv



end Go.Proofs.Ytejlhpmmgjfllaa
