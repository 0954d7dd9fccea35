/-
  Mails to sets of processors. No condition.
-/
import Derived.Test.YtmdhojgkhbihaaaMailBd
namespace Go.Hv
open Go Go.Fw
set_option linter.unusedSimpArgs false
set_option linter.unusedVariables false

def shrV (s n : Int) : Int := s.fdiv (2 ^ (min n.toNat IntKind.i64.bits))
def bitAt (s n : Int) : Prop := bits .and .i64 (shrV s n) 1 = 1
instance (s n : Int) : Decidable (bitAt s n) := by unfold bitAt; infer_instance
def setMails (f s q : Int) : Nat → List Mail
  | 0 => []
  | i + 1 => if bitAt s (i : Int) then setMails f s q i ++ [⟨f, (i : Int), q⟩] else setMails f s q i
def ssTo (xs : List Mail) (f s q : Int) : Nat → List Mail
  | 0 => xs
  | i + 1 => if bitAt s (i : Int) then sendOne (ssTo xs f s q i) ⟨f, (i : Int), q⟩ else ssTo xs f s q i
theorem setMails_len (f s q : Int) : ∀ i, (setMails f s q i).length ≤ i
  | 0 => Nat.le_refl _
  | i + 1 => by
    have := setMails_len f s q i
    unfold setMails; split
    · rw [List.length_append]; simp; omega
    · omega
theorem ssTo_len (xs : List Mail) (f s q : Int) : ∀ i, xs.length ≤ (ssTo xs f s q i).length ∧ (ssTo xs f s q i).length ≤ xs.length + i
  | 0 => ⟨Nat.le_refl _, by simp [ssTo]⟩
  | i + 1 => by
    have h1 := ssTo_len xs f s q i
    have h2 := sendOne_len (ssTo xs f s q i) ⟨f, (i : Int), q⟩
    unfold ssTo; split <;> omega
theorem allTo_pre (xs ms ns : List Mail) : ∀ i, i ≤ ms.length → allTo xs (ms ++ ns) i = allTo xs ms i
  | 0, _ => rfl
  | i + 1, h => by
    rw [allTo, allTo, allTo_pre xs ms ns i (by omega)]
    congr 1
    simp [List.getD_eq_getElem?_getD, List.getElem?_append_left (show i < ms.length by omega)]
theorem allTo_set (xs : List Mail) (f s q : Int) : ∀ i, allTo xs (setMails f s q i) (setMails f s q i).length = ssTo xs f s q i
  | 0 => rfl
  | i + 1 => by
    have ih := allTo_set xs f s q i
    by_cases h : bitAt s (i : Int)
    · rw [setMails, if_pos h, ssTo, if_pos h, List.length_append, List.length_singleton, allTo, allTo_pre _ _ _ _ (Nat.le_refl _), ih]
      congr 1
      simp [List.getD_eq_getElem?_getD]
    · rw [setMails, if_neg h, ssTo, if_neg h, ih]
theorem isBox_ssTo {xs : List Mail} {f s q : Int} (h : IsBox xs) (hf : 0 ≤ f ∧ f ≤ 3) (hq : 0 ≤ q ∧ q ≤ 3) : ∀ i : Nat, i ≤ 4 → (ssTo xs f s q i).length ≤ 20 → IsBox (ssTo xs f s q i)
  | 0, _, _ => h
  | i + 1, hi, hl => by
    have h1 := isBox_ssTo (s := s) h hf hq i (by omega)
    by_cases hb : bitAt s (i : Int)
    · rw [ssTo, if_pos hb] at hl ⊢
      have := sendOne_len (ssTo xs f s q i) ⟨f, (i : Int), q⟩
      exact (isBox_send (h1 (by omega))).2 ⟨⟨hf, ⟨by show (0 : Int) ≤ (i : Int); omega, by show (i : Int) ≤ 3; omega⟩, hq⟩, hl⟩
    · rw [ssTo, if_neg hb] at hl ⊢
      exact h1 hl
def GoodSet (xs : List Mail) (f s q : Int) : Prop := IsBox xs ∧ (0 ≤ f ∧ f ≤ 3) ∧ (0 ≤ s ∧ s ≤ 15) ∧ (0 ≤ q ∧ q ≤ 3) ∧ (ssTo xs f s q 4).length ≤ 20
instance (xs : List Mail) (f s q : Int) : Decidable (GoodSet xs f s q) := by unfold GoodSet; infer_instance
theorem goodSet_of {xs : List Mail} {f s q : Int} (h1 : IsBox xs) (h2 : IsMail ⟨f, 0, q⟩) (h3 : 0 ≤ s ∧ s ≤ 15) (h4 : IsBox (ssTo xs f s q 4)) : GoodSet xs f s q := ⟨h1, h2.1, h3, h2.2.2, h4.2⟩
theorem GoodSet.box {xs : List Mail} {f s q : Int} (h : GoodSet xs f s q) : IsBox (ssTo xs f s q 4) := isBox_ssTo h.1 h.2.1 h.2.2.2.1 4 (Nat.le_refl _) h.2.2.2.2
theorem GoodSet.mail {xs : List Mail} {f s q : Int} (h : GoodSet xs f s q) : IsMail ⟨f, 0, q⟩ := ⟨h.2.1, ⟨by show (0 : Int) ≤ 0; decide, by show (0 : Int) ≤ 3; decide⟩, h.2.2.2.1⟩
def setCount (xs : List Mail) (f s q : Int) : Int := ((ssTo xs f s q 4).length : Int) - (xs.length : Int)

def oth (f : Int) : Int := 15 - shl1 f
def GoodOth (xs : List Mail) (f q : Int) : Prop := IsBox xs ∧ (0 ≤ f ∧ f ≤ 3) ∧ (0 ≤ q ∧ q ≤ 3) ∧ (ssTo xs f (oth f) q 4).length ≤ 20
instance (xs : List Mail) (f q : Int) : Decidable (GoodOth xs f q) := by unfold GoodOth; infer_instance
theorem oth_is {f : Int} (h : 0 ≤ f ∧ f ≤ 3) : bits .andNot .i64 15 (shl1 f) = oth f ∧ 0 ≤ oth f ∧ oth f ≤ 15 ∧ 1 ≤ shl1 f ∧ shl1 f ≤ 8 ∧ IntKind.u64.wrap f = f := by
  rcases (by omega : f = 0 ∨ f = 1 ∨ f = 2 ∨ f = 3) with rfl | rfl | rfl | rfl <;> decide
theorem GoodOth.set {xs : List Mail} {f q : Int} (h : GoodOth xs f q) : GoodSet xs f (oth f) q := ⟨h.1, h.2.1, ⟨(oth_is h.2.1).2.1, (oth_is h.2.1).2.2.1⟩, h.2.2.1, h.2.2.2⟩
theorem GoodOth.of {xs : List Mail} {f q : Int} (h : GoodSet xs f (oth f) q) : GoodOth xs f q := ⟨h.1, h.2.1, h.2.2.2.1, h.2.2.2.2⟩

end Go.Hv
