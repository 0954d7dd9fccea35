/-
  Contexts: images that are loaded. No condition.
-/
import Derived.Test.YtejlhpmmgjfllaaFwN
import Derived.Test.YtejlhpmmgjfllaaCtx
namespace Go.Hv
open Go Go.Fw

def mkI (k : Int) (j : Nat) : Int := k + 1 * j
def mkL (k : Int) (n : Nat) : List (List AV) := ((List.range n).map (mkI k)).map eInt
theorem words_of {xs : List Int} {n : Nat} (h : first (NotWord xs) n < 0) : ∀ j, j < n → NotWord xs j = false := by
  rcases first_spec (NotWord xs) n with ⟨_, h2⟩ | ⟨i, _, h2, _, _⟩
  · exact h2
  · omega
theorem word_b {xs : List Int} {n : Nat} (h : ∀ j, j < n → NotWord xs j = false) {j : Nat} (hj : j < n) : 0 ≤ xs.getD j 0 ∧ xs.getD j 0 ≤ 65535 := by
  have := h j hj
  simpa [NotWord] using this
theorem words_take {xs : List Int} {n k : Nat} (h : ∀ j, j < n → NotWord xs j = false) (hk : k ≤ n) : ∀ j, j < k → NotWord (xs.take k) j = false := by
  intro j hj
  have := h j (by omega)
  unfold NotWord at this ⊢
  rw [List.getD_eq_getElem?_getD, List.getElem?_take_of_lt hj, ← List.getD_eq_getElem?_getD]
  exact this
def sumTo (xs : List Int) : Nat → Int
  | 0 => 0
  | i + 1 => sumTo xs i + xs.getD i 0 * (i + 1)
def chk (xs : List Int) : Int := sumTo xs xs.length % 65521
theorem mul_b {a w : Int} (h : 0 ≤ w ∧ w ≤ 65535) (h0 : 0 ≤ a) (h1 : a ≤ 11) : 0 ≤ w * a ∧ w * a ≤ 720885 := by
  refine ⟨Int.mul_nonneg h.1 h0, ?_⟩
  have h2 : w * a ≤ 65535 * a := Int.mul_le_mul_of_nonneg_right h.2 h0
  omega
theorem sumTo_b {xs : List Int} {n : Nat} (h : ∀ j, j < n → NotWord xs j = false) (hn : n ≤ 11) : ∀ i, i ≤ n → 0 ≤ sumTo xs i ∧ sumTo xs i ≤ 720885 * i
  | 0, _ => ⟨Int.le_refl _, by simp [sumTo]⟩
  | i + 1, hi => by
    have h1 := sumTo_b h hn i (by omega)
    have h2 := mul_b (a := (i : Int) + 1) (word_b h (show i < n by omega)) (by omega) (by omega)
    rw [sumTo]; omega
def ctxOf (xs : List Int) : Context := ⟨xs.getD 1 0, ⟨(xs.take 6).drop 2, xs.getD 6 0, decide (xs.getD 7 0 % 2 = 1), decide (xs.getD 7 0 / 2 = 1)⟩, xs.getD 8 0, xs.getD 9 0⟩
def ctxI (xs : List Int) : Context := ⟨xs.getD 1 0, ⟨(xs.take 6).drop 2, xs.getD 6 0, decide (bits .and .i64 (xs.getD 7 0) 1 = 1), decide (bits .and .i64 (xs.getD 7 0) 2 = 2)⟩, xs.getD 8 0, xs.getD 9 0⟩
theorem flags_eq {x : Int} (h0 : 0 ≤ x) (h3 : x ≤ 3) : decide (bits .and .i64 x 1 = 1) = decide (x % 2 = 1) ∧ decide (bits .and .i64 x 2 = 2) = decide (x / 2 = 1) := by
  have : x = 0 ∨ x = 1 ∨ x = 2 ∨ x = 3 := by omega
  rcases this with rfl | rfl | rfl | rfl <;> decide
@[simp] theorem ctxI_words (xs : List Int) : (ctxI xs).regs.words = (xs.take 6).drop 2 := rfl
@[simp] theorem ctxOf_words (xs : List Int) : (ctxOf xs).regs.words = (xs.take 6).drop 2 := rfl
theorem dec_ctxI (xs : List Int) : decide (IsContext (ctxI xs)) = decide (IsContext (ctxOf xs)) := decide_eq_decide.2 Iff.rfl
theorem small_ctxOf (xs : List Int) : SmallC (ctxOf xs) := by
  show ((xs.take 6).drop 2).length ≤ 1048576
  rw [List.length_drop, List.length_take]; omega
def WordsOk (xs : List Int) : Prop := xs.length = 11 ∧ first (NotWord xs) xs.length < 0
instance (xs : List Int) : Decidable (WordsOk xs) := by unfold WordsOk; infer_instance
def GoodLoad (xs : List Int) : Prop := WordsOk xs ∧ xs.getD 0 0 = 2 ∧ xs.getD 10 0 = chk (xs.take 10) ∧ IsContext (ctxOf xs) ∧ xs.getD 7 0 ≤ 3
instance (xs : List Int) : Decidable (GoodLoad xs) := by unfold GoodLoad; infer_instance
def codeL (xs : List Int) : Int := if ¬ WordsOk xs then 1 else if xs.getD 0 0 ≠ 2 then 2 else if xs.getD 10 0 ≠ chk (xs.take 10) then 3 else 4
theorem code1 {xs : List Int} (h : ¬ WordsOk xs) : codeL xs = 1 := if_pos h
theorem code2 {xs : List Int} (h : WordsOk xs) (h2 : xs.getD 0 0 ≠ 2) : codeL xs = 2 := by unfold codeL; rw [if_neg (not_not_intro h), if_pos h2]
theorem code3 {xs : List Int} (h : WordsOk xs) (h2 : xs.getD 0 0 = 2) (h3 : xs.getD 10 0 ≠ chk (xs.take 10)) : codeL xs = 3 := by unfold codeL; rw [if_neg (not_not_intro h), if_neg (not_not_intro h2), if_pos h3]
theorem code4 {xs : List Int} (h : WordsOk xs) (h2 : xs.getD 0 0 = 2) (h3 : xs.getD 10 0 = chk (xs.take 10)) : codeL xs = 4 := by unfold codeL; rw [if_neg (not_not_intro h), if_neg (not_not_intro h2), if_neg (not_not_intro h3)]
theorem wordsOk_of {xs : List Int} {n : Nat} (h1 : xs.length = 11) (h : ∀ j, j < n → NotWord xs j = false) (hn : 11 ≤ n) : WordsOk xs := ⟨h1, by rw [first_none (fun j hj => h j (by omega))]; omega⟩
theorem wordsOk_not {xs : List Int} {i : Nat} (hi : i < 11) (h : ∀ j, j < i → NotWord xs j = false) (h1 : NotWord xs i = true) : ¬ WordsOk xs := by
  rintro ⟨h0, h2⟩
  rw [first_at (i := i) (by omega) h h1] at h2
  omega

end Go.Hv
