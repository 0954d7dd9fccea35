/-
  Halls: signals, waits, ticks, ids. No condition.
-/
import Derived.Test.YtdlhpomgmlcfoaaFwN
import Derived.Test.YtdlhpomgmlcfoaaVcpuEd
namespace Go.Hv
open Go Go.Fw
set_option linter.unusedSimpArgs false
set_option linter.unusedVariables false

def mkB (k : Int) (j : Nat) : Bool := decide ((k + 1 * j) % 3 = 0)
def isId (xs : List Vcpu) (id : Int) (j : Nat) : Bool := decide ((xs.getD j zVcpu).id = id)
def findI (xs : List Vcpu) (id : Int) : Int := first (isId xs id) xs.length
theorem findI_lt (xs : List Vcpu) (id : Int) : -1 ≤ findI xs id ∧ findI xs id < xs.length := by
  unfold findI
  rcases first_spec (isId xs id) xs.length with ⟨h1, _⟩ | ⟨i, h1, h2, _, _⟩
  · omega
  · omega
theorem findI_id {xs : List Vcpu} {id : Int} (h : 0 ≤ findI xs id) : (xs.getD (findI xs id).toNat zVcpu).id = id := by
  rcases first_spec (isId xs id) xs.length with ⟨h1, _⟩ | ⟨i, h1, h2, h3, _⟩
  · unfold findI at h; omega
  · have e : (findI xs id).toNat = i := by unfold findI; omega
    rw [e]; simpa [isId] using h3
theorem findI_same {xs ys : List Vcpu} (h : Same xs ys) (id : Int) : findI ys id = findI xs id := by
  unfold findI
  rw [h.1]
  rcases first_spec (isId xs id) xs.length with ⟨h1, h2⟩ | ⟨i, h1, h2, h3, h4⟩
  · rw [h1]
    exact first_none (fun j hj => by have := h2 j hj; unfold isId at *; rw [(h.2 j hj).1]; exact this)
  · rw [h2]
    exact first_at h1 (fun j hj => by have := h4 j hj; unfold isId at *; rw [(h.2 j (by omega)).1]; exact this) (by unfold isId at *; rw [(h.2 i h1).1]; exact h3)

/-! ### Ids that are chosen -/
def idsOf (xs : List Vcpu) (p : Nat → Bool) : Nat → List Int
  | 0 => []
  | i + 1 => if p i = true then idsOf xs p i ++ [(xs.getD i zVcpu).id] else idsOf xs p i
theorem idsOf_len (xs : List Vcpu) (p : Nat → Bool) : ∀ i, (idsOf xs p i).length ≤ i
  | 0 => Nat.le_refl _
  | i + 1 => by
    have := idsOf_len xs p i
    unfold idsOf; split
    · rw [List.length_append]; simp; omega
    · omega
def blk (h : Hall) (j : Nat) : Bool := (h.list.getD j zVcpu).blocked
def evt (h : Hall) (j : Nat) : Bool := h.events.getD j false
def blkIds (h : Hall) : List Int := idsOf h.list (blk h) h.list.length
def evtIds (h : Hall) : List Int := idsOf h.list (evt h) h.list.length

/-! ### Signals and waits -/
def wake (v : Vcpu) : Vcpu := ⟨v.id, v.weight, v.credit, false, true⟩
def halt (v : Vcpu) : Vcpu := ⟨v.id, v.weight, v.credit, true, false⟩
def signalH (h : Hall) (i : Nat) : Hall := if (h.list.getD i zVcpu).blocked = true then ⟨h.list.set i (wake (h.list.getD i zVcpu)), h.events⟩ else ⟨h.list, h.events.set i true⟩
def waitH (h : Hall) (i : Nat) : Hall := if h.events.getD i false = true then ⟨h.list, h.events.set i false⟩ else ⟨h.list.set i (halt (h.list.getD i zVcpu)), h.events⟩
theorem signalH_t {h : Hall} {i : Nat} (e : (h.list.getD i zVcpu).blocked = true) : signalH h i = ⟨h.list.set i (wake (h.list.getD i zVcpu)), h.events⟩ := if_pos e
theorem signalH_f {h : Hall} {i : Nat} (e : (h.list.getD i zVcpu).blocked = false) : signalH h i = ⟨h.list, h.events.set i true⟩ := if_neg (by rw [e]; decide)
theorem waitH_t {h : Hall} {i : Nat} (e : h.events.getD i false = true) : waitH h i = ⟨h.list, h.events.set i false⟩ := if_pos e
theorem waitH_f {h : Hall} {i : Nat} (e : h.events.getD i false = false) : waitH h i = ⟨h.list.set i (halt (h.list.getD i zVcpu)), h.events⟩ := if_neg (by rw [e]; decide)
theorem signalH_len (h : Hall) (i : Nat) : (signalH h i).list.length = h.list.length ∧ (signalH h i).events.length = h.events.length := by
  unfold signalH; split <;> simp
theorem waitH_len (h : Hall) (i : Nat) : (waitH h i).list.length = h.list.length ∧ (waitH h i).events.length = h.events.length := by
  unfold waitH; split <;> simp
def tickH (h : Hall) : Hall × Int := if Runs h.list then (⟨tickL h.list, h.events⟩, tickId h.list) else (h, 0)
theorem tickH_t {h : Hall} (e : Runs h.list) : tickH h = (⟨tickL h.list, h.events⟩, tickId h.list) := if_pos e
theorem tickH_f {h : Hall} (e : ¬ Runs h.list) : tickH h = (h, 0) := if_neg e
theorem tickH_len (h : Hall) : (tickH h).1.list.length = h.list.length ∧ (tickH h).1.events.length = h.events.length := by
  unfold tickH; split
  · exact ⟨tickL_len _, rfl⟩
  · exact ⟨rfl, rfl⟩
def hI (h : Hall) (id : Int) : Nat := (findI h.list id).toNat
def GoodSig (h : Hall) (id : Int) : Prop := IsHall h ∧ 0 ≤ findI h.list id
instance (h : Hall) (id : Int) : Decidable (GoodSig h id) := by unfold GoodSig; infer_instance
def GoodHalt (h : Hall) (id : Int) : Prop := IsHall h ∧ 0 ≤ findI h.list id ∧ (h.list.getD (hI h id) zVcpu).blocked = false
instance (h : Hall) (id : Int) : Decidable (GoodHalt h id) := by unfold GoodHalt; infer_instance
theorem IsHall.small {h : Hall} (k : IsHall h) : h.list.length ≤ 5 ∧ h.events.length = h.list.length := ⟨k.1.1.2.2, k.1.2⟩
theorem small_of {h g : Hall} (k : IsHall h) (e : g.list.length = h.list.length ∧ g.events.length = h.events.length) : SmallHall g := by
  have := k.small
  exact ⟨by omega, by omega⟩
theorem szHall_ub {h : Hall} {left : Int} (hl : left ≤ 1048576) : szHall h left ≤ 1048576 := by
  unfold szHall szv
  (repeat' split) <;> omega

end Go.Hv
