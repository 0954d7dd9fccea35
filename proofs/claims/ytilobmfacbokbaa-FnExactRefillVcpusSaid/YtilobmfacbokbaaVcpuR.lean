/-
  What the types of the laws' parameters read as. Condition: none.
-/
import Derived.Test.YtilobmfacbokbaaFwI
import Derived.Test.YtilobmfacbokbaaVcpuF
namespace Go.Proofs.Ytilobmfacbokbaa
open Go Go.Fw Go.Hv

theorem rd_93 : Reads Try.prog 93 eVcpu okVcpu :=
  (reads_struct Try.underlying93 (readsF_cons (reads_int Try.underlying3) rfl cells_3 (fun _ => rfl) (readsF_cons (reads_int Try.underlying3) rfl cells_3 (fun _ => rfl) (readsF_cons (reads_int Try.underlying3) rfl cells_3 (fun _ => rfl) (readsF_cons (reads_bool Try.underlying4) rfl cells_4 (fun _ => rfl) (readsF_cons (reads_bool Try.underlying4) rfl cells_4 (fun _ => rfl) (readsF_nil _)))))) (fun _ => by rw [cells_93]; rfl)).map (fun p => ⟨p.1, p.2.1, p.2.2.1, p.2.2.2.1, p.2.2.2.2.1⟩) (fun _ => rfl) (fun _ h => h)

theorem rd_56 : Reads Try.prog 56 eHall okHall :=
  (reads_struct Try.underlying56 (readsF_cons (reads_slice Try.underlying22 cells_93 (by decide) (fun _ => rfl) rd_93) rfl cells_22 (fun _ => rfl) (readsF_cons (reads_slice Try.underlying54 cells_4 (by decide) (fun _ => rfl) (reads_bool Try.underlying4)) rfl cells_54 (fun _ => rfl) (readsF_nil _))) (fun _ => by rw [cells_56]; rfl)).map (fun p => ⟨p.1, p.2.1⟩) (fun _ => rfl) (fun _ h => h)

end Go.Proofs.Ytilobmfacbokbaa
