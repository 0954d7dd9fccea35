/-
  What the types of the laws' parameters read as. Condition: none.
-/
import Derived.Test.YtkgnhpilpmbheaaFwI
import Derived.Test.YtkgnhpilpmbheaaVcpuR
import Derived.Test.YtkgnhpilpmbheaaVcpuBR
import Derived.Test.YtkgnhpilpmbheaaVcpuCR
import Derived.Test.YtkgnhpilpmbheaaVcpuGR
import Derived.Test.YtkgnhpilpmbheaaVcpuHR
import Derived.Test.YtkgnhpilpmbheaaVcpuId
import Derived.Test.YtkgnhpilpmbheaaVcpuIF
namespace Go.Proofs.Ytkgnhpilpmbheaa
open Go Go.Fw Go.Hv

theorem rd_115 : Reads Try.prog 115 eHallOp okHallOp :=
  (reads_struct Try.underlying115 (readsF_cons (reads_int Try.underlying3) rfl cells_3 (fun _ => rfl) (readsF_cons (reads_int Try.underlying3) rfl cells_3 (fun _ => rfl) (readsF_nil _))) (fun _ => by rw [cells_115]; rfl)).map (fun p => ⟨p.1, p.2.1⟩) (fun _ => rfl) (fun _ h => h)

end Go.Proofs.Ytkgnhpilpmbheaa
