/-
  Marking a slice of the caller's own. No condition.
-/
import Derived.Test.YtejlhpmmgjfllaaFwJ
namespace Go.Fw
open Go

/-- The list, its first i elements being marked. -/
def putTo {α : Type} (g : Nat → α) (xs : List α) (i : Nat) : List α := (List.range i).map g ++ xs.drop i
theorem putTo_zero {α : Type} (g : Nat → α) (xs : List α) : putTo g xs 0 = xs := by simp [putTo]
theorem putTo_len {α : Type} (g : Nat → α) (xs : List α) {i : Nat} (h : ¬ i < xs.length) (hi : i ≤ xs.length) : putTo g xs i = (List.range xs.length).map g := by
  have : i = xs.length := by omega
  subst this
  simp [putTo]
theorem putTo_length {α : Type} (g : Nat → α) (xs : List α) {i : Nat} (h : i ≤ xs.length) : (putTo g xs i).length = xs.length := by
  simp [putTo]; omega
theorem putTo_set {α : Type} (g : Nat → α) (xs : List α) {i : Nat} (h : i < xs.length) : (putTo g xs i).set i (g i) = putTo g xs (i + 1) := by
  apply List.ext_getElem?
  intro j
  simp only [putTo, List.getElem?_set, List.getElem?_append, List.length_append, List.length_map, List.length_range, List.getElem?_map, List.getElem?_drop, List.length_drop]
  rcases Nat.lt_trichotomy j i with hj | hj | hj
  · simp [show ¬ i = j by omega, hj, show j < i + 1 by omega]
  · subst hj
    simp [show j + (xs.length - j) = xs.length by omega, h]
  · simp [show ¬ i = j by omega, show ¬ j < i by omega, show ¬ j < i + 1 by omega, show i + (j - i) = i + 1 + (j - (i + 1)) by omega]
theorem rowG {α : Type} (f : α → List AV) (g : Nat → α) (n : Nat) {j : Nat} (h : j < n) : (((List.range n).map g).map f)[j]? = some (f (g j)) := by
  simp [h]

theorem rowP {α : Type} (f : α → List AV) (g : Nat → α) (xs : List α) (z : α) {i : Nat} (h : i < xs.length) : ((putTo g xs i).map f)[i]? = some (f (xs.getD i z)) := by
  have e : (putTo g xs i)[i]? = some (xs.getD i z) := by
    rw [putTo, List.getElem?_append_right (by simp)]
    simp [List.getD_eq_getElem?_getD, h]
  rw [List.getElem?_map, e]; rfl
theorem ap_step {α : Type} {g : Nat → α} {i : Nat} {v : α} (h : g i = v) : (List.range i).map g ++ [v] = (List.range (i + 1)).map g := by
  rw [List.range_succ, List.map_append, ← h]; rfl
theorem RetOwn.len {α : Type} {t s : Nat} {f : α → List AV} {xs : List α} {r : AV} {st : Store} (h : RetOwn t s (xs.map f) r st) : ∃ b, r = .own s b 0 xs.length ∧ st = [(b, .arr t s (xs.map f))] := by
  obtain ⟨b, rfl, rfl⟩ := h
  exact ⟨b, by rw [List.length_map], rfl⟩
theorem seg_set {α : Type} {f : α → List AV} {l : List α} {i off : Nat} {v1 : α} {cs row : List AV} (h : i < (l.set i v1).length) (hr : segSet (f v1) off cs = row) : segSet (f ((l.set i v1)[i])) off cs = row := by
  rw [List.getElem_set_self]; exact hr

end Go.Fw
