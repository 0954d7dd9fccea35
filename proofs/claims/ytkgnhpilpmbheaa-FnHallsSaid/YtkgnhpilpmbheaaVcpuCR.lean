/-
  What the types of the laws' parameters read as. Condition: none.
-/
import Derived.Test.YtkgnhpilpmbheaaFwI
import Derived.Test.YtkgnhpilpmbheaaVcpuR
import Derived.Test.YtkgnhpilpmbheaaVcpuBR
import Derived.Test.YtkgnhpilpmbheaaVcpuCF
namespace Go.Proofs.Ytkgnhpilpmbheaa
open Go Go.Fw Go.Hv

theorem rd_95 : Reads Try.prog 95 eVcpu okVcpu :=
  (reads_struct Try.underlying95 (readsF_cons (reads_int Try.underlying3) rfl cells_3 (fun _ => rfl) (readsF_cons (reads_int Try.underlying3) rfl cells_3 (fun _ => rfl) (readsF_cons (reads_int Try.underlying3) rfl cells_3 (fun _ => rfl) (readsF_cons (reads_bool Try.underlying4) rfl cells_4 (fun _ => rfl) (readsF_cons (reads_bool Try.underlying4) rfl cells_4 (fun _ => rfl) (readsF_nil _)))))) (fun _ => by rw [cells_95]; rfl)).map (fun p => ⟨p.1, p.2.1, p.2.2.1, p.2.2.2.1, p.2.2.2.2.1⟩) (fun _ => rfl) (fun _ h => h)

end Go.Proofs.Ytkgnhpilpmbheaa
