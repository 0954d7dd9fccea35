/-
  Mails: marking; what a processor gets. No condition.
-/
import Derived.Test.YtmdhojgkhbihaaaFwL
import Derived.Test.YtmdhojgkhbihaaaMail
namespace Go.Hv
open Go Go.Fw

def mkI (k : Int) (j : Nat) : Int := k + 1 * j
def mkM (k : Int) (j : Nat) : Mail := ⟨k + 3 * j, k + 3 * j + 1, k + 3 * j + 1 + 1⟩
def forTo (xs : List Mail) (c : Int) : Nat → List Int
  | 0 => [0, 0, 0, 0]
  | i + 1 => if (xs.getD i zMail).dst = c then (forTo xs c i).set (xs.getD i zMail).irq.toNat (bits .or .i64 ((forTo xs c i).getD (xs.getD i zMail).irq.toNat 0) (shl1 (xs.getD i zMail).src)) else forTo xs c i
theorem forTo_len (xs : List Mail) (c : Int) : ∀ i, (forTo xs c i).length = 4
  | 0 => rfl
  | i + 1 => by
    unfold forTo
    split
    · rw [List.length_set]; exact forTo_len xs c i
    · exact forTo_len xs c i
theorem u64_id {n : Int} (h0 : 0 ≤ n) (h1 : n ≤ 3) : IntKind.u64.wrap n = n := by
  rcases (by omega : n = 0 ∨ n = 1 ∨ n = 2 ∨ n = 3) with rfl | rfl | rfl | rfl <;> decide
def GoodFor (xs : List Mail) (c : Int) : Prop := IsBox xs ∧ 0 ≤ c ∧ c ≤ 3
instance (xs : List Mail) (c : Int) : Decidable (GoodFor xs c) := by unfold GoodFor; infer_instance
def mailFor (xs : List Mail) (c : Int) : List Int × Bool := if GoodFor xs c then (forTo xs c xs.length, true) else ([], false)

/-! ### Sending -/
def sendOne (xs : List Mail) (m : Mail) : List Mail := if Has xs m then xs else xs ++ [m]
def allTo (xs ms : List Mail) : Nat → List Mail
  | 0 => xs
  | i + 1 => sendOne (allTo xs ms i) (ms.getD i zMail)
theorem sendOne_len (xs : List Mail) (m : Mail) : xs.length ≤ (sendOne xs m).length ∧ (sendOne xs m).length ≤ xs.length + 1 := by
  unfold sendOne; split <;> simp
theorem allTo_len (xs ms : List Mail) : ∀ i, xs.length ≤ (allTo xs ms i).length ∧ (allTo xs ms i).length ≤ xs.length + i
  | 0 => ⟨Nat.le_refl _, by simp [allTo]⟩
  | i + 1 => by
    have h1 := allTo_len xs ms i
    have h2 := sendOne_len (allTo xs ms i) (ms.getD i zMail)
    rw [allTo]; omega
theorem idx_mem {xs : List Mail} {m : Mail} (h : Has xs m) : ∃ i, i < xs.length ∧ xs.getD i zMail = m := by
  rcases first_spec (fun j => decide (m = xs.getD j zMail)) xs.length with ⟨h1, _⟩ | ⟨i, h1, _, h3, _⟩
  · unfold Has idx at h; omega
  · exact ⟨i, h1, (of_decide_eq_true h3).symm⟩
theorem isBox_send {xs : List Mail} {m : Mail} (h : IsBox xs) : IsBox (sendOne xs m) ↔ IsMail m ∧ (sendOne xs m).length ≤ 20 := by
  by_cases hm : Has xs m
  · obtain ⟨i, h1, h2⟩ := idx_mem hm
    have h3 : sendOne xs m = xs := if_pos hm
    rw [h3]
    exact ⟨fun _ => ⟨h2 ▸ (h.1 i h1).1, h.2⟩, fun _ => h⟩
  · have h3 : sendOne xs m = xs ++ [m] := if_neg hm
    rw [h3]
    have low : ∀ j, j < xs.length → GoodAt (xs ++ [m]) j = GoodAt xs j := fun j hj => by
      unfold GoodAt
      rw [List.take_append_of_le_length (by omega), show (xs ++ [m]).getD j zMail = xs.getD j zMail by simp [List.getD_eq_getElem?_getD, List.getElem?_append_left hj]]
    have top : GoodAt (xs ++ [m]) xs.length = (IsMail m ∧ ¬ Has xs m) := by
      unfold GoodAt
      rw [show (xs ++ [m]).getD xs.length zMail = m by simp [List.getD_eq_getElem?_getD], show (xs ++ [m]).take xs.length = xs by simp]
    constructor
    · intro q
      have := q.1 xs.length (by simp)
      rw [top] at this
      exact ⟨this.1, q.2⟩
    · rintro ⟨q1, q2⟩
      refine ⟨fun j hj => ?_, q2⟩
      rcases Nat.lt_or_ge j xs.length with hj' | hj'
      · rw [low j hj']; exact h.1 j hj'
      · have : j = xs.length := by simp at hj; omega
        subst this
        rw [top]; exact ⟨q1, hm⟩
def GoodSend (xs : List Mail) (m : Mail) : Prop := IsBox xs ∧ IsMail m ∧ (sendOne xs m).length ≤ 20
instance (xs : List Mail) (m : Mail) : Decidable (GoodSend xs m) := by unfold GoodSend; infer_instance

end Go.Hv
