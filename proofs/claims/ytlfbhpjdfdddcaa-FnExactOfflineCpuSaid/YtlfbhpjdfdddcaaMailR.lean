/-
  What the types of the laws' parameters read as. Condition: none.
-/
import Derived.Test.YtlfbhpjdfdddcaaFwI
import Derived.Test.YtlfbhpjdfdddcaaMailF
namespace Go.Proofs.Ytlfbhpjdfdddcaa
open Go Go.Fw Go.Hv

theorem rd_23 : Reads Try.prog 23 eMail okMail :=
  (reads_struct Try.underlying23 (readsF_cons (reads_int Try.underlying3) rfl cells_3 (fun _ => rfl) (readsF_cons (reads_int Try.underlying3) rfl cells_3 (fun _ => rfl) (readsF_cons (reads_int Try.underlying3) rfl cells_3 (fun _ => rfl) (readsF_nil _)))) (fun _ => by rw [cells_23]; rfl)).map (fun p => ⟨p.1, p.2.1, p.2.2.1⟩) (fun _ => rfl) (fun _ h => h)

end Go.Proofs.Ytlfbhpjdfdddcaa
