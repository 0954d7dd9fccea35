/-
  Contexts: images that are saved. No condition.
-/
import Derived.Test.YtejlhpmmgjfllaaFwP
import Derived.Test.YtejlhpmmgjfllaaCtxBd
namespace Go.Hv
open Go Go.Fw
set_option linter.unusedSimpArgs false
set_option linter.unusedVariables false

/-! ### Lists one behind the other -/
def lenT (xss : List (List Int)) : Nat → Int
  | 0 => 0
  | i + 1 => lenT xss i + ((xss.getD i []).length : Int)
def flatT (xss : List (List Int)) : Nat → List Int
  | 0 => []
  | i + 1 => flatT xss i ++ xss.getD i []
theorem flatT_len (xss : List (List Int)) : ∀ i, ((flatT xss i).length : Int) = lenT xss i
  | 0 => rfl
  | i + 1 => by rw [flatT, lenT, List.length_append, ← flatT_len xss i]; omega

/-! ### Images -/
def flagsV (c : Context) : Int := (if c.regs.f = true then 1 else 0) + (if c.regs.g = true then 2 else 0)
def wordsV (c : Context) : List Int := ([2, c.id] ++ c.regs.words) ++ [c.regs.pc, flagsV c, c.wait, c.pend]
def imageV (c : Context) : List Int := wordsV c ++ [chk (wordsV c)]
theorem words_fl (c : Context) (fl : Int) (h : fl = flagsV c) : ([2, c.id] ++ c.regs.words) ++ [c.regs.pc, fl, c.wait, c.pend] = wordsV c := by rw [h]; rfl
theorem flat_fl (c : Context) (fl : Int) (h : fl = flagsV c) : flatT [[2, c.id], c.regs.words, [c.regs.pc, fl, c.wait, c.pend]] 3 = wordsV c := by
  rw [← words_fl c fl h]
  simp [flatT]
theorem flags_rng (c : Context) : 0 ≤ flagsV c ∧ flagsV c ≤ 3 := by
  unfold flagsV
  split <;> split <;> omega
theorem words_four {c : Context} (h : IsContext c) : ∃ w0 w1 w2 w3, c.regs.words = [w0, w1, w2, w3] ∧ (0 ≤ w0 ∧ w0 ≤ 65535) ∧ (0 ≤ w1 ∧ w1 ≤ 65535) ∧ (0 ≤ w2 ∧ w2 ≤ 65535) ∧ (0 ≤ w3 ∧ w3 ≤ 65535) := by
  obtain ⟨h1, h2⟩ := h.2.1
  have hw := words_of h2
  rw [h1] at hw
  have h0 := word_b hw (j := 0) (by omega)
  have h3 := word_b hw (j := 1) (by omega)
  have h4 := word_b hw (j := 2) (by omega)
  have h5 := word_b hw (j := 3) (by omega)
  generalize c.regs.words = l at h1 h0 h3 h4 h5
  match l, h1 with
  | [a, b, c', d], _ => exact ⟨a, b, c', d, rfl, h0, h3, h4, h5⟩
theorem words_len {c : Context} (h : IsContext c) : (wordsV c).length = 10 := by
  have := h.2.1.1
  unfold wordsV
  simp only [List.length_append, List.length_cons, List.length_nil, this]
theorem words_ok {c : Context} (h : IsContext c) : ∀ j, j < (wordsV c).length → NotWord (wordsV c) j = false := by
  intro j hj
  rw [words_len h] at hj
  obtain ⟨w0, w1, w2, w3, e, b0, b1, b2, b3⟩ := words_four h
  obtain ⟨g1, _, g3, g4, g5⟩ := h
  have gf := flags_rng c
  unfold NotWord
  rw [Bool.not_eq_false', decide_eq_true_eq]
  unfold wordsV
  rw [e]
  have : j = 0 ∨ j = 1 ∨ j = 2 ∨ j = 3 ∨ j = 4 ∨ j = 5 ∨ j = 6 ∨ j = 7 ∨ j = 8 ∨ j = 9 := by omega
  rcases this with q | q | q | q | q | q | q | q | q | q <;> subst q
  · show 0 ≤ (2 : Int) ∧ (2 : Int) ≤ 65535; omega
  · show 0 ≤ c.id ∧ c.id ≤ 65535; omega
  · exact b0
  · exact b1
  · exact b2
  · exact b3
  · show 0 ≤ c.regs.pc ∧ c.regs.pc ≤ 65535; omega
  · show 0 ≤ flagsV c ∧ flagsV c ≤ 65535; omega
  · show 0 ≤ c.wait ∧ c.wait ≤ 65535; omega
  · show 0 ≤ c.pend ∧ c.pend ≤ 65535; omega
theorem image_len {c : Context} (h : IsContext c) : (imageV c).length = 11 := by
  unfold imageV
  rw [List.length_append, words_len h]; rfl
theorem image_at {c : Context} (h : IsContext c) {j : Nat} (hj : j < 10) : (imageV c).getD j 0 = (wordsV c).getD j 0 := by
  unfold imageV
  rw [List.getD_eq_getElem?_getD, List.getElem?_append_left (by rw [words_len h]; exact hj), ← List.getD_eq_getElem?_getD]
theorem image_take {c : Context} (h : IsContext c) : (imageV c).take 10 = wordsV c := by
  unfold imageV
  rw [List.take_append_of_le_length (by rw [words_len h]; omega), List.take_of_length_le (by rw [words_len h]; omega)]

/-! ### What has changed -/
def chgTo (a b : Context) : Nat → List Int
  | 0 => []
  | i + 1 => if (wordsV a).getD i 0 ≠ (wordsV b).getD i 0 then chgTo a b i ++ [(i : Int)] else chgTo a b i
theorem chgTo_len (a b : Context) : ∀ i, (chgTo a b i).length ≤ i
  | 0 => Nat.le_refl _
  | i + 1 => by
    have := chgTo_len a b i
    rw [chgTo]; split
    · rw [List.length_append]; simp; omega
    · omega
def chgL (a b : Context) : List Int := chgTo a b 10
def GoodTwo (a b : Context) : Prop := IsContext a ∧ IsContext b
instance (a b : Context) : Decidable (GoodTwo a b) := by unfold GoodTwo; infer_instance

end Go.Hv
