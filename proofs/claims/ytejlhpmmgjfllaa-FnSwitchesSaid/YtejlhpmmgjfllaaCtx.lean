/-
  Contexts: the data and the plain functions of the chapter. No condition.
-/
import Derived.Test.YtejlhpmmgjfllaaFwK
namespace Go.Hv
open Go Go.Fw

structure Registers where
  words : List Int
  pc : Int
  f : Bool
  g : Bool
def eRegisters (r : Registers) : List AV := [.sl (r.words.map eInt), .int .i64 r.pc, .bool r.f, .bool r.g]
def okRegisters (r : Registers) : Prop := ((∀ x ∈ r.words, InI x) ∧ r.words.length ≤ maxLen) ∧ InI r.pc ∧ True ∧ True ∧ True
structure Context where
  id : Int
  regs : Registers
  wait : Int
  pend : Int
def eContext (c : Context) : List AV := [.int .i64 c.id, .sl (c.regs.words.map eInt), .int .i64 c.regs.pc, .bool c.regs.f, .bool c.regs.g, .int .i64 c.wait, .int .i64 c.pend]
def okContext (c : Context) : Prop := InI c.id ∧ okRegisters c.regs ∧ InI c.wait ∧ InI c.pend ∧ True
def zContext : Context := ⟨0, ⟨[], 0, false, false⟩, 0, 0⟩
def oContext : Option Context → List AV
  | none => [.int .i64 0, .nil, .int .i64 0, .bool false, .bool false, .int .i64 0, .int .i64 0]
  | some c => eContext c
theorem oContext_len (c : Option Context) : (oContext c).length = 7 := by cases c <;> rfl
def SmallR (r : Registers) : Prop := r.words.length ≤ 1048576
def SmallC (c : Context) : Prop := c.regs.words.length ≤ 1048576
theorem szv_m1 {n : Nat} {left : Int} (h0 : 0 ≤ left) (h : szv n left < 0) : szv n left = -1 := by
  have := szv_b (n := n) h0
  omega

def NotWord (xs : List Int) (j : Nat) : Bool := !decide (0 ≤ xs.getD j 0 ∧ xs.getD j 0 ≤ 65535)
def AreWords (xs : List Int) : Prop := xs.length = 4 ∧ first (NotWord xs) xs.length < 0
instance (xs : List Int) : Decidable (AreWords xs) := by unfold AreWords; infer_instance
theorem areWords_of {xs : List Int} (h : ∀ j, j < xs.length → NotWord xs j = false) : first (NotWord xs) xs.length < 0 := by rw [first_none h]; omega
theorem areWords_not {xs : List Int} {i : Nat} (hi : i < xs.length) (h : ∀ j, j < i → NotWord xs j = false) (h1 : NotWord xs i = true) : ¬ AreWords xs := by
  rintro ⟨_, h2⟩
  rw [first_at hi h h1] at h2
  omega
def IsContext (c : Context) : Prop := (1 ≤ c.id ∧ c.id ≤ 4) ∧ AreWords c.regs.words ∧ (0 ≤ c.regs.pc ∧ c.regs.pc ≤ 15) ∧ (0 ≤ c.wait ∧ c.wait ≤ 15) ∧ (0 ≤ c.pend ∧ c.pend ≤ 255)
instance (c : Context) : Decidable (IsContext c) := by unfold IsContext; infer_instance
def GoodAt (xs : List Context) (j : Nat) : Prop := IsContext (xs.getD j zContext) ∧ (0 < j → (xs.getD (j - 1) zContext).id < (xs.getD j zContext).id)
instance (xs : List Context) (j : Nat) : Decidable (GoodAt xs j) := by unfold GoodAt; infer_instance
def AreContexts (xs : List Context) : Prop := (∀ j, j < xs.length → GoodAt xs j) ∧ xs.length ≤ 6
instance (xs : List Context) : Decidable (AreContexts xs) := by unfold AreContexts; infer_instance
def SmallL (xs : List Context) : Prop := xs.length ≤ 1048576 ∧ ∀ j, j < xs.length → SmallC (xs.getD j zContext)

end Go.Hv
