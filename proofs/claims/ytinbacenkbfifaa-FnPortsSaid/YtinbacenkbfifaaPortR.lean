/-
  What the types of the laws' parameters read as. Condition: none.
-/
import Derived.Test.YtinbacenkbfifaaFwI
import Derived.Test.YtinbacenkbfifaaPortF
namespace Go.Proofs.Ytinbacenkbfifaa
open Go Go.Fw Go.Hv

theorem rd_38 : Reads Try.prog 38 ePort okPort :=
  (reads_struct Try.underlying38 (readsF_cons (reads_slice Try.underlying36 cells_3 (by decide) (fun _ => rfl) (reads_int Try.underlying3)) rfl cells_36 (fun _ => rfl) (readsF_cons (reads_slice Try.underlying36 cells_3 (by decide) (fun _ => rfl) (reads_int Try.underlying3)) rfl cells_36 (fun _ => rfl) (readsF_cons (reads_int Try.underlying3) rfl cells_3 (fun _ => rfl) (readsF_cons (reads_bool Try.underlying4) rfl cells_4 (fun _ => rfl) (readsF_nil _))))) (fun _ => by rw [cells_38]; rfl)).map (fun p => ⟨p.1, p.2.1, p.2.2.1, p.2.2.2.1⟩) (fun _ => rfl) (fun _ h => h)

end Go.Proofs.Ytinbacenkbfifaa
