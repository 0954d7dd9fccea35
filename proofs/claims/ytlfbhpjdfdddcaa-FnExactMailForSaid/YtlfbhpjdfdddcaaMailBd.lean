/-
  Mails: marking; what a processor gets. No condition.
-/
import Derived.Test.YtlfbhpjdfdddcaaFwL
import Derived.Test.YtlfbhpjdfdddcaaMail
namespace Go.Hv
open Go Go.Fw

def mkI (k : Int) (j : Nat) : Int := k + 1 * j
def mkM (k : Int) (j : Nat) : Mail := ⟨k + 3 * j, k + 3 * j + 1, k + 3 * j + 1 + 1⟩
def forTo (xs : List Mail) (c : Int) : Nat → List Int
  | 0 => [0, 0, 0, 0]
  | i + 1 => if (xs.getD i zMail).dst = c then (forTo xs c i).set (xs.getD i zMail).irq.toNat (bits .or .i64 ((forTo xs c i).getD (xs.getD i zMail).irq.toNat 0) (shl1 (xs.getD i zMail).src)) else forTo xs c i
theorem forTo_len (xs : List Mail) (c : Int) : ∀ i, (forTo xs c i).length = 4
  | 0 => rfl
  | i + 1 => by
    unfold forTo
    split
    · rw [List.length_set]; exact forTo_len xs c i
    · exact forTo_len xs c i
theorem u64_id {n : Int} (h0 : 0 ≤ n) (h1 : n ≤ 3) : IntKind.u64.wrap n = n := by
  rcases (by omega : n = 0 ∨ n = 1 ∨ n = 2 ∨ n = 3) with rfl | rfl | rfl | rfl <;> decide
def GoodFor (xs : List Mail) (c : Int) : Prop := IsBox xs ∧ 0 ≤ c ∧ c ≤ 3
instance (xs : List Mail) (c : Int) : Decidable (GoodFor xs c) := by unfold GoodFor; infer_instance
def mailFor (xs : List Mail) (c : Int) : List Int × Bool := if GoodFor xs c then (forTo xs c xs.length, true) else ([], false)

end Go.Hv
