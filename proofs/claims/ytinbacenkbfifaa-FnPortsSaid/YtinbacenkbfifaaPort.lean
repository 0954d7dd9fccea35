/-
  Ports: the data and the plain functions of the chapter. No condition.
-/
import Derived.Test.YtinbacenkbfifaaFwJ
namespace Go.Hv
open Go Go.Fw

structure Port where
  rx : List Int
  tx : List Int
  depth : Int
  flag : Bool
def ePort (p : Port) : List AV := [.sl (p.rx.map eInt), .sl (p.tx.map eInt), .int .i64 p.depth, .bool p.flag]
def okPort (p : Port) : Prop := ((∀ x ∈ p.rx, InI x) ∧ p.rx.length ≤ maxLen) ∧ ((∀ x ∈ p.tx, InI x) ∧ p.tx.length ≤ maxLen) ∧ InI p.depth ∧ True ∧ True
def SmallPort (p : Port) : Prop := p.rx.length ≤ 1048576 ∧ p.tx.length ≤ 1048576
def szPort (p : Port) (left : Int) : Int := if szv p.rx.length left < 0 then -1 else if szv p.tx.length (szv p.rx.length left) < 0 then -1 else szv p.tx.length (szv p.rx.length left)
theorem szPort_le {p : Port} {left : Int} (hl : left ≤ 1048576) (h0 : 0 ≤ left) (hs : ¬ szPort p left < 0) : SmallPort p := by
  have h3 := szv_b (n := p.rx.length) h0
  unfold szPort at hs
  by_cases c1 : szv p.rx.length left < 0
  · rw [if_pos c1] at hs; omega
  · rw [if_neg c1] at hs
    have h1 := szv_le c1
    by_cases c2 : szv p.tx.length (szv p.rx.length left) < 0
    · rw [if_pos c2] at hs; omega
    · have h2 := szv_le c2
      exact ⟨by omega, by omega⟩

def NotByte (xs : List Int) (j : Nat) : Bool := !decide (0 ≤ xs.getD j 0 ∧ xs.getD j 0 ≤ 255)
def AreBytes (xs : List Int) : Prop := xs.length ≤ 16 ∧ first (NotByte xs) xs.length < 0
instance (xs : List Int) : Decidable (AreBytes xs) := by unfold AreBytes; infer_instance
theorem areBytes_of {xs : List Int} (h : ∀ j, j < xs.length → NotByte xs j = false) : first (NotByte xs) xs.length < 0 := by rw [first_none h]; omega
theorem areBytes_not {xs : List Int} {i : Nat} (hi : i < xs.length) (h : ∀ j, j < i → NotByte xs j = false) (h1 : NotByte xs i = true) : ¬ AreBytes xs := by
  rintro ⟨_, h2⟩
  rw [first_at hi h h1] at h2
  omega
def IsPort (p : Port) : Prop := AreBytes p.rx ∧ AreBytes p.tx ∧ (1 ≤ p.depth ∧ p.depth ≤ 16) ∧ (p.flag == decide (p.depth ≤ (p.rx.length : Int))) = true
instance (p : Port) : Decidable (IsPort p) := by unfold IsPort; infer_instance
theorem isPort_last {p : Port} (h1 : AreBytes p.rx) (h2 : AreBytes p.tx) (h3 : 1 ≤ p.depth ∧ p.depth ≤ 16) : (p.flag == decide (p.depth ≤ (p.rx.length : Int))) = decide (IsPort p) := by
  by_cases h : (p.flag == decide (p.depth ≤ (p.rx.length : Int))) = true
  · rw [h, decide_eq_true (show IsPort p from ⟨h1, h2, h3, h⟩)]
  · rw [decide_eq_false (show ¬ IsPort p from fun q => h q.2.2.2)]
    simpa using h

end Go.Hv
