/-
  Mails: taking one out; a processor that goes off. No condition.
-/
import Derived.Test.YtmdhojgkhbihaaaFwM
import Derived.Test.YtmdhojgkhbihaaaMailCd
namespace Go.Hv
open Go Go.Fw
set_option linter.unusedSimpArgs false
set_option linter.unusedVariables false

def cmpI (a b : Int) : Int := if a < b then -1 else if b < a then 1 else 0
def orI (a b : Int) : Int := if a ≠ 0 then a else b
theorem cmpM_neg {a b : Mail} : orI (cmpI a.irq b.irq) (cmpI a.src b.src) < 0 ↔ Sooner a b := by
  unfold Sooner orI cmpI
  (repeat' split) <;> omega

/-! ### One element out -/
def without (xs : List Mail) (i : Nat) : List Mail := xs.take i ++ xs.drop (i + 1)
theorem without_len {xs : List Mail} {i : Nat} (h : i < xs.length) : (without xs i).length = i + (xs.drop (i + 1)).length := by
  unfold without; rw [List.length_append, List.length_take]; omega
theorem without_lt {xs : List Mail} {i : Nat} (h : i < xs.length) : (without xs i).length + 1 = xs.length := by
  rw [without_len h, List.length_drop]; omega
theorem del_take {xs : List Mail} {i : Nat} (h : i < xs.length) (ys : List Mail) : (xs.take i ++ xs.drop (i + 1) ++ ys).take (0 + (i + (xs.drop (i + 1)).length)) = without xs i := by
  rw [List.take_append_of_le_length (by simp; omega), List.take_of_length_le (by simp; omega)]; rfl
theorem rowsFrom {α : Type} {f : α → List AV} {st : Store} {t s b off k len : Nat} {xs : List α} (h : (b, Entry.arr t s (xs.map f)) ∈ st) (h0 : off = k) (h1 : k ≤ xs.length) (h2 : len = xs.length - k) : Go.Fw.Rows st (.own s b off len) ((xs.drop k).map f) := by
  subst h0
  have := rowsAt (off := off) (len := len) h (by omega)
  rwa [List.take_of_length_le (by rw [List.length_drop]; omega)] at this
theorem rowsNone {α : Type} {f : α → List AV} {st : Store} {xs : List α} {off : Nat} (h : xs.length ≤ off) : Go.Fw.Rows st (.sl []) ((xs.drop off).map f) := by
  rw [List.drop_eq_nil_of_le h]; exact .sl []
def takeI (xs : List Mail) (c : Int) : Int := nextTo xs c xs.length
def GoodTake (xs : List Mail) (c : Int) : Prop := IsBox xs ∧ (0 ≤ c ∧ c ≤ 3) ∧ 0 ≤ takeI xs c
instance (xs : List Mail) (c : Int) : Decidable (GoodTake xs c) := by unfold GoodTake; infer_instance
def takeL (xs : List Mail) (c : Int) : List Mail := without xs (takeI xs c).toNat
def takeM (xs : List Mail) (c : Int) : Mail := xs.getD (takeI xs c).toNat zMail
theorem takeI_lt (xs : List Mail) (c : Int) : -1 ≤ takeI xs c ∧ takeI xs c < xs.length := nextTo_lt xs c xs.length
theorem takeL_len (xs : List Mail) (c : Int) : (takeL xs c).length ≤ xs.length := by
  unfold takeL without; simp; omega

/-! ### A processor goes off -/
def keepM (c : Int) (m : Mail) : Prop := m.dst ≠ c
def isTo (xs : List Mail) (c : Int) (j : Nat) : Bool := decide ((xs.getD j zMail).dst = c)
def offTo (xs : List Mail) (c : Int) : Nat → List Mail
  | 0 => []
  | i + 1 => if (xs.getD i zMail).dst ≠ c then offTo xs c i ++ [xs.getD i zMail] else offTo xs c i
theorem offTo_len (xs : List Mail) (c : Int) : ∀ i, (offTo xs c i).length ≤ i
  | 0 => Nat.le_refl _
  | i + 1 => by
    have := offTo_len xs c i
    unfold offTo; split
    · rw [List.length_append]; simp; omega
    · omega
def offL (xs : List Mail) (c : Int) : List Mail := offTo xs c xs.length
def offCount (xs : List Mail) (c : Int) : Int := (xs.length : Int) - ((offL xs c).length : Int)
theorem offTo_all {xs : List Mail} {c : Int} {n : Nat} (hn : n ≤ xs.length) (h : ∀ j, j < n → isTo xs c j = false) : ∀ i, i ≤ n → offTo xs c i = xs.take i
  | 0, _ => by simp [offTo]
  | i + 1, hi => by
    have h1 := h i (by omega)
    have h2 : i < xs.length := by omega
    rw [offTo, if_pos (by simpa [isTo] using h1), offTo_all hn h i (by omega), List.take_add_one]
    simp [List.getD_eq_getElem?_getD, h2]
structure DelInv (xs : List Mail) (c : Int) (j i : Nat) (l : List Mail) : Prop where
  len : l.length = xs.length
  lt : i < j
  le : j ≤ xs.length
  same : ∀ k, j ≤ k → l[k]? = xs[k]?
  took : l.take i = offTo xs c j
theorem DelInv.get {xs l : List Mail} {c : Int} {j i : Nat} (h : DelInv xs c j i l) : l.getD j zMail = xs.getD j zMail := by
  rw [List.getD_eq_getElem?_getD, List.getD_eq_getElem?_getD, h.same j (Nat.le_refl _)]
theorem DelInv.init {xs : List Mail} {c : Int} {i : Nat} (hi : i < xs.length) (h : ∀ j, j < i → isTo xs c j = false) (h1 : isTo xs c i = true) : DelInv xs c (i + 1) i xs :=
  ⟨rfl, by omega, by omega, fun _ _ => rfl, by
    rw [offTo, if_neg (by simpa [isTo] using h1), offTo_all (by omega) h i (Nat.le_refl _)]⟩
theorem DelInv.keep {xs l : List Mail} {c : Int} {j i : Nat} (h : DelInv xs c j i l) (hj : j < xs.length) (hk : ¬ (l.getD j zMail).dst = c) : DelInv xs c (j + 1) (i + 1) (l.set i (l.getD j zMail)) :=
  ⟨by rw [List.length_set, h.len], by have := h.lt; omega, by omega, fun k hk => by
    rw [List.getElem?_set_ne (by have := h.lt; omega)]; exact h.same k (by omega), by
    have hl := h.lt; have hn := h.len
    rw [offTo, if_pos (by rw [← h.get]; exact hk), ← h.took, ← h.get, List.set_eq_take_append_cons_drop, if_pos (by omega), List.take_append]
    have e : (l.take i).length = i := by rw [List.length_take]; omega
    rw [e, show i + 1 - i = 1 by omega, List.take_of_length_le (by omega)]
    rfl⟩
theorem DelInv.drop {xs l : List Mail} {c : Int} {j i : Nat} (h : DelInv xs c j i l) (hj : j < xs.length) (hk : (l.getD j zMail).dst = c) : DelInv xs c (j + 1) i l :=
  ⟨h.len, by have := h.lt; omega, by omega, fun k hk => h.same k (by omega), by
    rw [offTo, if_neg (by rw [← h.get]; exact fun q => q hk), h.took]⟩
theorem DelInv.end' {xs l : List Mail} {c : Int} {j i : Nat} (h : DelInv xs c j i l) (hj : ¬ j < xs.length) : l.take (0 + i) = offL xs c ∧ i = (offL xs c).length := by
  have hl := h.le
  have e : j = xs.length := by omega
  subst e
  have h1 := h.took
  have h2 := h.lt
  have h3 := h.len
  refine ⟨by rw [Nat.zero_add]; exact h1, ?_⟩
  rw [offL, ← h1, List.length_take]; omega
theorem offL_none {xs : List Mail} {c : Int} (h : ∀ j, j < xs.length → isTo xs c j = false) : offL xs c = xs := by
  rw [offL, offTo_all (Nat.le_refl _) h _ (Nat.le_refl _), List.take_of_length_le (Nat.le_refl _)]

end Go.Hv
