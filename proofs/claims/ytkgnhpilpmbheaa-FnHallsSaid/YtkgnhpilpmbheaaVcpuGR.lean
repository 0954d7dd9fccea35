/-
  What the types of the laws' parameters read as. Condition: none.
-/
import Derived.Test.YtkgnhpilpmbheaaFwI
import Derived.Test.YtkgnhpilpmbheaaVcpuR
import Derived.Test.YtkgnhpilpmbheaaVcpuBR
import Derived.Test.YtkgnhpilpmbheaaVcpuCR
import Derived.Test.YtkgnhpilpmbheaaVcpuGF
namespace Go.Proofs.Ytkgnhpilpmbheaa
open Go Go.Fw Go.Hv

theorem rd_56 : Reads Try.prog 56 eHall okHall :=
  (reads_struct Try.underlying56 (readsF_cons (reads_slice Try.underlying22 cells_95 (by decide) (fun _ => rfl) rd_95) rfl cells_22 (fun _ => rfl) (readsF_cons (reads_slice Try.underlying54 cells_4 (by decide) (fun _ => rfl) (reads_bool Try.underlying4)) rfl cells_54 (fun _ => rfl) (readsF_nil _))) (fun _ => by rw [cells_56]; rfl)).map (fun p => ⟨p.1, p.2.1⟩) (fun _ => rfl) (fun _ h => h)

end Go.Proofs.Ytkgnhpilpmbheaa
