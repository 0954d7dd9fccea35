/-
  Devices: the data and the plain functions of the chapter. No condition.
-/
import Derived.Test.YtinbacenkbfifaaFwH
namespace Go.Hv
open Go Go.Fw

structure Counter where
  value : Int
  limit : Int
  step : Int
  irq : Bool
def eCounter (c : Counter) : List AV := [.int .i64 c.value, .int .i64 c.limit, .int .i64 c.step, .bool c.irq]

def okCounter (c : Counter) : Prop := InI c.value ∧ InI c.limit ∧ InI c.step ∧ True ∧ True

def IsCounter (c : Counter) : Prop := (1 ≤ c.limit ∧ c.limit ≤ 65535) ∧ (0 ≤ c.value ∧ c.value ≤ c.limit - 1) ∧ (1 ≤ c.step ∧ c.step ≤ 1000)

instance (c : Counter) : Decidable (IsCounter c) := by unfold IsCounter; infer_instance
theorem isC {c : Counter} (h : IsCounter c) : (1 ≤ c.limit ∧ c.limit ≤ 65535) ∧ (0 ≤ c.value ∧ c.value ≤ c.limit - 1) ∧ (1 ≤ c.step ∧ c.step ≤ 1000) := h

def zCounter : Counter := ⟨0, 0, 0, false⟩
def stepsToIrq (c : Counter) : Int × Bool := if IsCounter c then (if c.irq = true then (0, true) else ((c.limit - c.value + c.step - 1) / c.step, true)) else (0, false)
def clearCounter (c : Counter) : Counter × Bool := if IsCounter c then (⟨c.value, c.limit, c.step, false⟩, c.irq) else (zCounter, false)
def countSteps (c : Counter) (n : Int) : Counter × Int × Bool :=
  if IsCounter c ∧ 0 ≤ n ∧ n ≤ 1000 then (⟨(c.value + n * c.step) % c.limit, c.limit, c.step, c.irq || decide (c.limit ≤ c.value + n * c.step)⟩, (c.value + n * c.step) / c.limit, true) else (zCounter, 0, false)

theorem mul_bound {n s : Int} (h1 : 0 ≤ n) (h2 : n ≤ 1000) (h3 : 1 ≤ s) (h4 : s ≤ 1000) : 0 ≤ n * s ∧ n * s ≤ 1000000 :=
  ⟨Int.mul_nonneg h1 (by omega), by
    have : n * s ≤ 1000 * 1000 := Int.mul_le_mul h2 h4 (by omega) (by omega)
    omega⟩

theorem div_pos_iff {a b : Int} (hb : 0 < b) : 0 < a / b ↔ b ≤ a := by
  constructor
  · intro h
    have := (Int.le_ediv_iff_mul_le hb (a := 1) (b := a)).1 (by omega)
    omega
  · intro h
    have := (Int.le_ediv_iff_mul_le hb (a := 1) (b := a)).2 (by omega)
    omega

end Go.Hv
