/-
  What the types of the laws' parameters read as. Condition: none.
-/
import Derived.Test.YtmdhojgkhbihaaaFwI
import Derived.Test.YtmdhojgkhbihaaaMailR
import Derived.Test.YtmdhojgkhbihaaaMailBR
import Derived.Test.YtmdhojgkhbihaaaMailCR
import Derived.Test.YtmdhojgkhbihaaaMailDR
import Derived.Test.YtmdhojgkhbihaaaMailER
import Derived.Test.YtmdhojgkhbihaaaMailPd
import Derived.Test.YtmdhojgkhbihaaaMailPF
namespace Go.Proofs.Ytmdhojgkhbihaaa
open Go Go.Fw Go.Hv

theorem rd_83 : Reads Try.prog 83 eMail okMail :=
  (reads_struct Try.underlying83 (readsF_cons (reads_int Try.underlying3) rfl cells_3 (fun _ => rfl) (readsF_cons (reads_int Try.underlying3) rfl cells_3 (fun _ => rfl) (readsF_cons (reads_int Try.underlying3) rfl cells_3 (fun _ => rfl) (readsF_nil _)))) (fun _ => by rw [cells_83]; rfl)).map (fun p => ⟨p.1, p.2.1, p.2.2.1⟩) (fun _ => rfl) (fun _ h => h)

end Go.Proofs.Ytmdhojgkhbihaaa
