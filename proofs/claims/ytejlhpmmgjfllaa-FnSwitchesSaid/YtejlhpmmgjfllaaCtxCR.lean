/-
  What the types of the laws' parameters read as. Condition: none.
-/
import Derived.Test.YtejlhpmmgjfllaaFwI
import Derived.Test.YtejlhpmmgjfllaaCtxR
import Derived.Test.YtejlhpmmgjfllaaCtxBR
import Derived.Test.YtejlhpmmgjfllaaCtxCd
import Derived.Test.YtejlhpmmgjfllaaCtxCF
namespace Go.Proofs.Ytejlhpmmgjfllaa
open Go Go.Fw Go.Hv

theorem rd_24 : Reads Try.prog 24 eRegisters okRegisters :=
  (reads_struct Try.underlying24 (readsF_cons (reads_slice Try.underlying22 cells_3 (by decide) (fun _ => rfl) (reads_int Try.underlying3)) rfl cells_22 (fun _ => rfl) (readsF_cons (reads_int Try.underlying3) rfl cells_3 (fun _ => rfl) (readsF_cons (reads_bool Try.underlying4) rfl cells_4 (fun _ => rfl) (readsF_cons (reads_bool Try.underlying4) rfl cells_4 (fun _ => rfl) (readsF_nil _))))) (fun _ => by rw [cells_24]; rfl)).map (fun p => ⟨p.1, p.2.1, p.2.2.1, p.2.2.2.1⟩) (fun _ => rfl) (fun _ h => h)

theorem rd_26 : Reads Try.prog 26 eContext okContext :=
  (reads_struct Try.underlying26 (readsF_cons (reads_int Try.underlying3) rfl cells_3 (fun _ => rfl) (readsF_cons rd_24 rfl cells_24 (fun _ => rfl) (readsF_cons (reads_int Try.underlying3) rfl cells_3 (fun _ => rfl) (readsF_cons (reads_int Try.underlying3) rfl cells_3 (fun _ => rfl) (readsF_nil _))))) (fun _ => by rw [cells_26]; rfl)).map (fun p => ⟨p.1, p.2.1, p.2.2.1, p.2.2.2.1⟩) (fun _ => rfl) (fun _ h => h)

end Go.Proofs.Ytejlhpmmgjfllaa
