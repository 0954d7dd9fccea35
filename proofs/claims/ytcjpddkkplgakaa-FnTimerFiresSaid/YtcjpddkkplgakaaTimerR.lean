/-
  What the types of the laws' parameters read as. Condition: none.
-/
import Derived.Test.YtcjpddkkplgakaaFwI
import Derived.Test.YtcjpddkkplgakaaTimerF
namespace Go.Proofs.Ytcjpddkkplgakaa
open Go Go.Fw Go.Hv

theorem rd_62 : Reads Try.prog 62 eTimer okTimer :=
  (reads_struct Try.underlying62 (readsF_cons (reads_bool Try.underlying4) rfl cells_4 (fun _ => rfl) (readsF_cons (reads_int Try.underlying3) rfl cells_3 (fun _ => rfl) (readsF_cons (reads_int Try.underlying3) rfl cells_3 (fun _ => rfl) (readsF_cons (reads_int Try.underlying3) rfl cells_3 (fun _ => rfl) (readsF_nil _))))) (fun _ => by rw [cells_62]; rfl)).map (fun p => ⟨p.1, p.2.1, p.2.2.1, p.2.2.2.1⟩) (fun _ => rfl) (fun _ h => h)

end Go.Proofs.Ytcjpddkkplgakaa
