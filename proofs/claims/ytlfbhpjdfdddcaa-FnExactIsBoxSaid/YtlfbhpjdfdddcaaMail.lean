/-
  Mails: the data and the plain functions of the chapter. No condition.
-/
import Derived.Test.YtlfbhpjdfdddcaaFwK
namespace Go.Hv
open Go Go.Fw

structure Mail where
  src : Int
  dst : Int
  irq : Int
def eMail (c : Mail) : List AV := [.int .i64 c.src, .int .i64 c.dst, .int .i64 c.irq]
def okMail (c : Mail) : Prop := InI c.src ∧ InI c.dst ∧ InI c.irq ∧ True
def zMail : Mail := ⟨0, 0, 0⟩
theorem cl_eMail : ∀ x, ∀ c ∈ eMail x, Closed c := fun _ => all_cons' (closed_int _ _) (all_cons' (closed_int _ _) (all_cons' (closed_int _ _) all_nil'))
theorem mail_ext {a b : Mail} (h0 : a.src = b.src) (h1 : a.dst = b.dst) (h2 : a.irq = b.irq) : a = b := by
  cases a; cases b; simp_all
instance (a b : Mail) : Decidable (a = b) :=
  if h : a.src = b.src ∧ a.dst = b.dst ∧ a.irq = b.irq then .isTrue (mail_ext h.1 h.2.1 h.2.2) else .isFalse (fun e => h (e ▸ ⟨rfl, rfl, rfl⟩))
theorem eqC_mail (a b : Mail) : eqC [true, true, true] (eMail a) (eMail b) = some (decide (a = b)) := by
  simp only [eMail, eqC, if_true, Option.map_some]
  congr 1
  rw [Bool.eq_iff_iff]
  simp only [Bool.and_eq_true, decide_eq_true_eq, and_true]
  exact ⟨fun h => mail_ext h.1 h.2.1 h.2.2, fun h => h ▸ ⟨rfl, rfl, rfl⟩⟩

def IsMail (m : Mail) : Prop := (0 ≤ m.src ∧ m.src ≤ 3) ∧ (0 ≤ m.dst ∧ m.dst ≤ 3) ∧ (0 ≤ m.irq ∧ m.irq ≤ 3)
instance (m : Mail) : Decidable (IsMail m) := by unfold IsMail; infer_instance
def idx (xs : List Mail) (m : Mail) : Int := first (fun j => decide (m = xs.getD j zMail)) xs.length
def Has (xs : List Mail) (m : Mail) : Prop := 0 ≤ idx xs m
instance (xs : List Mail) (m : Mail) : Decidable (Has xs m) := by unfold Has; infer_instance
theorem has_at {xs : List Mail} {m : Mail} {i : Nat} (h : i < xs.length) (h1 : ∀ j, j < i → decide (m = xs.getD j zMail) = false) (h2 : xs.getD i zMail = m) : Has xs m := by
  unfold Has idx
  rw [first_at h h1 (decide_eq_true h2.symm)]
  omega
theorem has_none {xs : List Mail} {m : Mail} (h1 : ∀ j, j < xs.length → decide (m = xs.getD j zMail) = false) : ¬ Has xs m := by
  unfold Has idx
  rw [first_none h1]
  omega
def GoodAt (xs : List Mail) (j : Nat) : Prop := IsMail (xs.getD j zMail) ∧ ¬ Has (xs.take j) (xs.getD j zMail)
instance (xs : List Mail) (j : Nat) : Decidable (GoodAt xs j) := by unfold GoodAt; infer_instance
def IsBox (xs : List Mail) : Prop := (∀ j, j < xs.length → GoodAt xs j) ∧ xs.length ≤ 20
instance (xs : List Mail) : Decidable (IsBox xs) := by unfold IsBox; infer_instance

def Sooner (a b : Mail) : Prop := a.irq < b.irq ∨ (a.irq = b.irq ∧ a.src < b.src)
instance (a b : Mail) : Decidable (Sooner a b) := by unfold Sooner; infer_instance
def Next1 (xs : List Mail) (c : Int) (i : Nat) (m : Int) : Prop := (xs.getD i zMail).dst = c ∧ (m < 0 ∨ Sooner (xs.getD i zMail) (xs.getD m.toNat zMail))
instance (xs : List Mail) (c : Int) (i : Nat) (m : Int) : Decidable (Next1 xs c i m) := by unfold Next1; infer_instance
def nextTo (xs : List Mail) (c : Int) : Nat → Int
  | 0 => -1
  | i + 1 => if Next1 xs c i (nextTo xs c i) then (i : Int) else nextTo xs c i
theorem nextTo_lt (xs : List Mail) (c : Int) : ∀ i : Nat, -1 ≤ nextTo xs c i ∧ nextTo xs c i < i
  | 0 => ⟨by simp [nextTo], by simp [nextTo]⟩
  | i + 1 => by
    have := nextTo_lt xs c i
    unfold nextTo
    split <;> omega
theorem nextTo_neg (xs : List Mail) (c : Int) : ∀ i : Nat, nextTo xs c i < 0 ↔ ∀ j, j < i → (xs.getD j zMail).dst ≠ c
  | 0 => ⟨fun _ j hj => by omega, fun _ => by simp [nextTo]⟩
  | i + 1 => by
    have ih := nextTo_neg xs c i
    by_cases h : Next1 xs c i (nextTo xs c i)
    · rw [nextTo, if_pos h]
      exact ⟨fun h1 => by omega, fun h1 => absurd h.1 (h1 i (by omega))⟩
    · rw [nextTo, if_neg h, ih]
      constructor
      · intro h1 j hj
        rcases Nat.lt_succ_iff_lt_or_eq.1 hj with h' | h'
        · exact h1 j h'
        · subst h'
          exact fun e => h ⟨e, .inl (ih.2 h1)⟩
      · exact fun h1 j hj => h1 j (by omega)

end Go.Hv
