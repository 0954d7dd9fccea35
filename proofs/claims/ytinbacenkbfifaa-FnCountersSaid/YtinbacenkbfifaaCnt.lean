/-
  Counters: what the laws ask that draw. No condition.
-/
import Derived.Test.YtinbacenkbfifaaFwN
import Derived.Test.YtinbacenkbfifaaFwK
import Derived.Test.YtinbacenkbfifaaDev
namespace Go.Hv
open Go Go.Fw
set_option linter.unusedSimpArgs false
set_option linter.unusedVariables false

theorem counter_ext {a b : Counter} (h0 : a.value = b.value) (h1 : a.limit = b.limit) (h2 : a.step = b.step) (h3 : a.irq = b.irq) : a = b := by
  cases a; cases b; simp_all
instance (a b : Counter) : Decidable (a = b) :=
  if h : a.value = b.value ∧ a.limit = b.limit ∧ a.step = b.step ∧ a.irq = b.irq then .isTrue (counter_ext h.1 h.2.1 h.2.2.1 h.2.2.2) else .isFalse (fun e => h (e ▸ ⟨rfl, rfl, rfl, rfl⟩))
theorem eqC_counter (a b : Counter) : eqC [true, true, true, false] (eCounter a) (eCounter b) = some (decide (a = b)) := by
  simp only [eCounter, eqC, if_true, Option.map_some]
  congr 1
  rw [Bool.eq_iff_iff]
  simp only [Bool.and_eq_true, decide_eq_true_eq, and_true, beq_iff_eq]
  exact ⟨fun h => counter_ext h.1 h.2.1 h.2.2.1 h.2.2.2, fun h => h ▸ ⟨rfl, rfl, rfl, rfl⟩⟩
/-- A counter that was drawn. -/
def Drawn (c : Counter) : Prop := (-2000000 ≤ c.value ∧ c.value ≤ 2000000) ∧ (-2000000 ≤ c.limit ∧ c.limit ≤ 2000000) ∧ (-2000000 ≤ c.step ∧ c.step ≤ 2000000)

theorem steps_ok {c : Counter} {n : Int} (h : (countSteps c n).2.2 = true) : IsCounter c ∧ 0 ≤ n ∧ n ≤ 1000 := by
  unfold countSteps at h
  split at h
  · assumption
  · cases h
theorem steps_is {c : Counter} {n : Int} (h : IsCounter c ∧ 0 ≤ n ∧ n ≤ 1000) : countSteps c n = (⟨(c.value + n * c.step) % c.limit, c.limit, c.step, c.irq || decide (c.limit ≤ c.value + n * c.step)⟩, (c.value + n * c.step) / c.limit, true) := if_pos h
theorem steps_counter {c : Counter} {n : Int} (h : IsCounter c ∧ 0 ≤ n ∧ n ≤ 1000) : IsCounter (countSteps c n).1 := by
  rw [steps_is h]
  obtain ⟨⟨h1, h2⟩, ⟨h3, h4⟩, h5, h6⟩ := isC h.1
  have e1 := Int.emod_nonneg (c.value + n * c.step) (show c.limit ≠ 0 by omega)
  have e2 := Int.emod_lt_of_pos (c.value + n * c.step) (show 0 < c.limit by omega)
  exact ⟨⟨h1, h2⟩, ⟨e1, by dsimp only; omega⟩, h5, h6⟩
theorem div_mod_add (a b d : Int) (hd : 0 < d) : (a % d + b) / d + a / d = (a + b) / d ∧ (a % d + b) % d = (a + b) % d := by
  have h := Int.emod_add_mul_ediv a d
  constructor
  · have e : a + b = (a % d + b) + (a / d) * d := by rw [Int.mul_comm]; omega
    rw [e, Int.add_mul_ediv_right _ _ (by omega)]
  · rw [Int.emod_add_emod]
theorem steps_twice {c : Counter} {n m : Int} (h : IsCounter c ∧ 0 ≤ n ∧ n ≤ 1000) (h0 : 0 ≤ m) (h1 : m ≤ n) :
    (countSteps (countSteps c m).1 (n - m)).2.2 = true ∧ (countSteps c m).2.2 = true ∧ (countSteps (countSteps c m).1 (n - m)).1 = (countSteps c n).1 ∧ (countSteps c m).2.1 + (countSteps (countSteps c m).1 (n - m)).2.1 = (countSteps c n).2.1 := by
  have hm : IsCounter c ∧ 0 ≤ m ∧ m ≤ 1000 := ⟨h.1, h0, by omega⟩
  have hc := steps_counter hm
  obtain ⟨⟨h1', h2⟩, ⟨h3, h4⟩, h5, h6⟩ := isC h.1
  rw [steps_is (c := (countSteps c m).1) (n := n - m) ⟨hc, by omega, by omega⟩, steps_is h, steps_is hm]
  dsimp only
  have e : c.value + m * c.step + (n - m) * c.step = c.value + n * c.step := by rw [Int.sub_mul]; omega
  obtain ⟨d1, d2⟩ := div_mod_add (c.value + m * c.step) ((n - m) * c.step) c.limit (by omega)
  rw [e] at d1 d2
  refine ⟨rfl, rfl, counter_ext d2 rfl rfl ?_, by omega⟩
  dsimp only
  rw [Bool.or_assoc]
  congr 1
  rw [Bool.eq_iff_iff]
  simp only [Bool.or_eq_true, decide_eq_true_eq]
  have hp : 0 ≤ m * c.step := Int.mul_nonneg h0 (by omega)
  have hq : 0 ≤ (n - m) * c.step := Int.mul_nonneg (by omega) (by omega)
  have hle : (c.value + m * c.step) % c.limit ≤ c.value + m * c.step := by
    have h7 := Int.emod_add_mul_ediv (c.value + m * c.step) c.limit
    have h8 : 0 ≤ c.limit * ((c.value + m * c.step) / c.limit) := Int.mul_nonneg (by omega) (Int.ediv_nonneg (by omega) (by omega))
    omega
  constructor
  · rintro (q | q) <;> omega
  · intro q
    by_cases hl : c.limit ≤ c.value + m * c.step
    · exact .inl hl
    · right
      rw [Int.emod_eq_of_lt (by omega) (by omega)]; omega
theorem steps_sum {c : Counter} {n : Int} (h : IsCounter c ∧ 0 ≤ n ∧ n ≤ 1000) : (countSteps c n).1.value + (countSteps c n).2.1 * c.limit = c.value + n * c.step := by
  rw [steps_is h]
  have := Int.emod_add_mul_ediv (c.value + n * c.step) c.limit
  dsimp only
  rw [Int.mul_comm ((c.value + n * c.step) / c.limit)]
  exact this
theorem steps_bound {c : Counter} {n : Int} (h : IsCounter c ∧ 0 ≤ n ∧ n ≤ 1000) : 0 ≤ (countSteps c n).2.1 ∧ (countSteps c n).2.1 ≤ 2000000 ∧ 0 ≤ (countSteps c n).2.1 * c.limit ∧ (countSteps c n).2.1 * c.limit ≤ 2000000 ∧ 0 ≤ n * c.step ∧ n * c.step ≤ 1000000 := by
  have hs := steps_sum h
  obtain ⟨⟨h1, h2⟩, ⟨h3, h4⟩, h5, h6⟩ := isC h.1
  obtain ⟨b1, b2⟩ := mul_bound h.2.1 h.2.2 h5 h6
  have hc := isC (steps_counter h)
  have e1 : (countSteps c n).1.limit = c.limit := by rw [steps_is h]
  have e2 : 0 ≤ (countSteps c n).2.1 := by rw [steps_is h]; exact Int.ediv_nonneg (by omega) (by omega)
  have e3 : (countSteps c n).2.1 ≤ (countSteps c n).2.1 * c.limit := by
    have := Int.mul_le_mul_of_nonneg_left (show 1 ≤ c.limit by omega) e2
    rwa [Int.mul_one] at this
  have := hc.2.1.1
  omega
theorem irq_ok {c : Counter} (h : (stepsToIrq c).2 = true) : IsCounter c := by
  unfold stepsToIrq at h
  split at h
  · assumption
  · cases h
theorem irq_nn {c : Counter} (h : IsCounter c) : 0 ≤ (stepsToIrq c).1 := by
  obtain ⟨⟨h1, h2⟩, ⟨h3, h4⟩, h5, h6⟩ := isC h
  unfold stepsToIrq
  rw [if_pos h]
  split
  · exact Int.le_refl _
  · exact Int.ediv_nonneg (by omega) (by omega)
theorem irq_hits {c : Counter} (h : IsCounter c) (hs : (stepsToIrq c).1 ≤ 1000) : (countSteps c (stepsToIrq c).1).2.2 = true ∧ (countSteps c (stepsToIrq c).1).1.irq = true := by
  have h0 := irq_nn h
  rw [steps_is ⟨h, h0, hs⟩]
  refine ⟨rfl, ?_⟩
  obtain ⟨⟨h1, h2⟩, ⟨h3, h4⟩, h5, h6⟩ := isC h
  dsimp only
  cases hi : c.irq with
  | true => rfl
  | false =>
    rw [Bool.false_or]
    have e : (stepsToIrq c).1 = (c.limit - c.value + c.step - 1) / c.step := by unfold stepsToIrq; rw [if_pos h, if_neg (by rw [hi]; decide)]
    rw [e]
    have h7 := Int.emod_add_mul_ediv (c.limit - c.value + c.step - 1) c.step
    have h8 := Int.emod_lt_of_pos (c.limit - c.value + c.step - 1) (show 0 < c.step by omega)
    rw [Int.mul_comm] at h7
    exact decide_eq_true (by omega)
theorem irq_before {c : Counter} (h : IsCounter c) (hs : (stepsToIrq c).1 ≤ 1000) : ¬ ((countSteps c ((stepsToIrq c).1 - 1)).2.2 = true ∧ (countSteps c ((stepsToIrq c).1 - 1)).1.irq = true) := by
  rintro ⟨q1, q2⟩
  have hk := steps_ok q1
  rw [steps_is hk] at q2
  obtain ⟨⟨h1, h2⟩, ⟨h3, h4⟩, h5, h6⟩ := isC h
  dsimp only at q2
  cases hi : c.irq with
  | true =>
    have e : (stepsToIrq c).1 = 0 := by unfold stepsToIrq; rw [if_pos h, if_pos hi]
    omega
  | false =>
    rw [hi, Bool.false_or, decide_eq_true_eq] at q2
    have e : (stepsToIrq c).1 = (c.limit - c.value + c.step - 1) / c.step := by unfold stepsToIrq; rw [if_pos h, if_neg (by rw [hi]; decide)]
    rw [e, Int.sub_mul, Int.one_mul] at q2
    have h7 := Int.emod_add_mul_ediv (c.limit - c.value + c.step - 1) c.step
    have h8 := Int.emod_nonneg (c.limit - c.value + c.step - 1) (show c.step ≠ 0 by omega)
    rw [Int.mul_comm] at h7
    omega
theorem clear_irq (c : Counter) : (clearCounter c).1.irq = false := by
  unfold clearCounter; split <;> rfl

end Go.Hv
