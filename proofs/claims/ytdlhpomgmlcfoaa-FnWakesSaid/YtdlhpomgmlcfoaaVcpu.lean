/-
  Virtual processors: the data and the plain functions of the chapters. No condition.
-/
import Derived.Test.YtdlhpomgmlcfoaaFwJ
namespace Go.Hv
open Go Go.Fw

structure Vcpu where
  id : Int
  weight : Int
  credit : Int
  blocked : Bool
  event : Bool
def eVcpu (c : Vcpu) : List AV := [.int .i64 c.id, .int .i64 c.weight, .int .i64 c.credit, .bool c.blocked, .bool c.event]
def okVcpu (c : Vcpu) : Prop := InI c.id ∧ InI c.weight ∧ InI c.credit ∧ True ∧ True ∧ True
def zVcpu : Vcpu := ⟨0, 0, 0, false, false⟩
theorem cl_eVcpu : ∀ x, ∀ c ∈ eVcpu x, Closed c := fun _ => all_cons' (closed_int _ _) (all_cons' (closed_int _ _) (all_cons' (closed_int _ _) (all_cons' (closed_bool _) (all_cons' (closed_bool _) all_nil'))))

def GoodAt (xs : List Vcpu) (j : Nat) : Prop := ((1 ≤ (xs.getD j zVcpu).id ∧ (xs.getD j zVcpu).id ≤ 99) ∧ (1 ≤ (xs.getD j zVcpu).weight ∧ (xs.getD j zVcpu).weight ≤ 10) ∧ (-100 ≤ (xs.getD j zVcpu).credit ∧ (xs.getD j zVcpu).credit ≤ 200) ∧ ((xs.getD j zVcpu).blocked = false ∨ (xs.getD j zVcpu).event = false)) ∧ (0 < j → (xs.getD (j - 1) zVcpu).id < (xs.getD j zVcpu).id)
instance (xs : List Vcpu) (j : Nat) : Decidable (GoodAt xs j) := by unfold GoodAt; infer_instance
def AreVcpus (xs : List Vcpu) : Prop := (∀ j, j < xs.length → GoodAt xs j) ∧ 1 ≤ xs.length ∧ xs.length ≤ 5
instance (xs : List Vcpu) : Decidable (AreVcpus xs) := by unfold AreVcpus; infer_instance

def creditTo (xs : List Vcpu) : Nat → Int
  | 0 => 0
  | i + 1 => IntKind.i64.wrap (creditTo xs i + (xs.getD i zVcpu).credit)
def totalCredit (xs : List Vcpu) : Int × Bool := if AreVcpus xs then (creditTo xs xs.length, true) else (0, false)

def Better (v u : Vcpu) : Prop := (v.event = true ∧ u.event = false) ∨ (v.event = u.event ∧ u.credit < v.credit)
instance (v u : Vcpu) : Decidable (Better v u) := by unfold Better; infer_instance
def Picks1 (xs : List Vcpu) (i : Nat) (m : Int) : Prop := (xs.getD i zVcpu).blocked = false ∧ (m < 0 ∨ Better (xs.getD i zVcpu) (xs.getD m.toNat zVcpu))
instance (xs : List Vcpu) (i : Nat) (m : Int) : Decidable (Picks1 xs i m) := by unfold Picks1; infer_instance
def pickTo (xs : List Vcpu) : Nat → Int
  | 0 => -1
  | i + 1 => if Picks1 xs i (pickTo xs i) then (i : Int) else pickTo xs i
theorem pickTo_lt (xs : List Vcpu) : ∀ i : Nat, -1 ≤ pickTo xs i ∧ pickTo xs i < i
  | 0 => ⟨by simp [pickTo], by simp [pickTo]⟩
  | i + 1 => by
    have := pickTo_lt xs i
    unfold pickTo
    split <;> omega
def pickVcpu (xs : List Vcpu) : Int × Bool := if AreVcpus xs ∧ 0 ≤ pickTo xs xs.length then ((xs.getD (pickTo xs xs.length).toNat zVcpu).id, true) else (0, false)

theorem ids_lt {xs : List Vcpu} (h : AreVcpus xs) {j : Nat} : ∀ {k : Nat}, j < k → k < xs.length → (xs.getD j zVcpu).id < (xs.getD k zVcpu).id
  | 0, hj, _ => by omega
  | k + 1, hj, hk => by
    have h1 := (h.1 (k + 1) hk).2 (by omega)
    rcases Nat.lt_succ_iff_lt_or_eq.1 hj with h' | h'
    · have := ids_lt h h' (by omega)
      simp only [Nat.add_sub_cancel] at h1
      omega
    · subst h'; simpa using h1

def cmpI (a b : Int) : Int := if a < b then -1 else if b < a then 1 else 0
def orI (a b : Int) : Int := if a ≠ 0 then a else b
def cmpV (v u : Vcpu) : Int := if v.event = u.event then orI (cmpI u.credit v.credit) (cmpI v.id u.id) else if v.event = true then -1 else 1
theorem cmpV_neg {v u : Vcpu} (h : u.id < v.id) : cmpV v u < 0 ↔ Better v u := by
  unfold cmpV Better orI cmpI
  by_cases he : v.event = u.event
  · simp only [he, if_true]
    constructor
    · intro h1
      right
      refine ⟨trivial, ?_⟩
      split at h1
      · split at h1
        · omega
        · split at h1 <;> omega
      · split at h1
        · omega
        · split at h1 <;> omega
    · rintro (⟨h1, h2⟩ | ⟨_, h2⟩)
      · simp [h1] at h2
      · simp [h2]
  · rw [if_neg he]
    cases hv : v.event <;> cases hu : u.event <;> simp_all

structure Hall where
  list : List Vcpu
  events : List Bool
def eHall (h : Hall) : List AV := [.sl (h.list.map eVcpu), .sl (h.events.map eBool)]
def okHall (h : Hall) : Prop := ((∀ x ∈ h.list, okVcpu x) ∧ h.list.length ≤ maxLen) ∧ ((∀ x ∈ h.events, True) ∧ h.events.length ≤ maxLen) ∧ True
def SmallHall (h : Hall) : Prop := h.list.length ≤ 1048576 ∧ h.events.length ≤ 1048576
def szHall (h : Hall) (left : Int) : Int := if szv h.list.length left < 0 then -1 else if szv h.events.length (szv h.list.length left) < 0 then -1 else szv h.events.length (szv h.list.length left)
theorem szHall_le {h : Hall} {left : Int} (hl : left ≤ 1048576) (h0 : 0 ≤ left) (hs : ¬ szHall h left < 0) : SmallHall h := by
  have h3 := szv_b (n := h.list.length) h0
  unfold szHall at hs
  by_cases c1 : szv h.list.length left < 0
  · rw [if_pos c1] at hs; omega
  · rw [if_neg c1] at hs
    have h1 := szv_le c1
    by_cases c2 : szv h.events.length (szv h.list.length left) < 0
    · rw [if_pos c2] at hs; omega
    · have h2 := szv_le c2
      exact ⟨by omega, by omega⟩
def HallAt (h : Hall) (j : Nat) : Prop := (h.list.getD j zVcpu).blocked = false ∨ h.events.getD j false = false
instance (h : Hall) (j : Nat) : Decidable (HallAt h j) := by unfold HallAt; infer_instance
def IsHall (h : Hall) : Prop := (AreVcpus h.list ∧ h.events.length = h.list.length) ∧ ∀ j, j < h.list.length → HallAt h j
instance (h : Hall) : Decidable (IsHall h) := by unfold IsHall; infer_instance

end Go.Hv
