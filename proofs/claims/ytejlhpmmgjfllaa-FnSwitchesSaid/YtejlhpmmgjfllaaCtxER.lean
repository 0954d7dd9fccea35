/-
  What the types of the laws' parameters read as. Condition: none.
-/
import Derived.Test.YtejlhpmmgjfllaaFwI
import Derived.Test.YtejlhpmmgjfllaaCtxR
import Derived.Test.YtejlhpmmgjfllaaCtxBR
import Derived.Test.YtejlhpmmgjfllaaCtxCR
import Derived.Test.YtejlhpmmgjfllaaCtxDR
import Derived.Test.YtejlhpmmgjfllaaCtxEF
namespace Go.Proofs.Ytejlhpmmgjfllaa
open Go Go.Fw Go.Hv



end Go.Proofs.Ytejlhpmmgjfllaa
