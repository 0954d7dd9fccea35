/-
  What the types of the laws' parameters read as. Condition: none.
-/
import Derived.Test.YtlfbhpjdfdddcaaFwI
import Derived.Test.YtlfbhpjdfdddcaaMailR
import Derived.Test.YtlfbhpjdfdddcaaMailBR
import Derived.Test.YtlfbhpjdfdddcaaMailCR
import Derived.Test.YtlfbhpjdfdddcaaMailDF
namespace Go.Proofs.Ytlfbhpjdfdddcaa
open Go Go.Fw Go.Hv



end Go.Proofs.Ytlfbhpjdfdddcaa
