/-
  Devices: the data and the plain functions of the chapter. No condition.
-/
import Derived.Test.YtinbacenkbfifaaFwH
namespace Go.Hv
open Go Go.Fw

structure Counter where
  value : Int
  limit : Int
  step : Int
  irq : Bool
def eCounter (c : Counter) : List AV := [.int .i64 c.value, .int .i64 c.limit, .int .i64 c.step, .bool c.irq]

def okCounter (c : Counter) : Prop := InI c.value ∧ InI c.limit ∧ InI c.step ∧ True ∧ True

abbrev IsCounter (c : Counter) : Prop := (1 ≤ c.limit ∧ c.limit ≤ 65535) ∧ (0 ≤ c.value ∧ c.value ≤ c.limit - 1) ∧ (1 ≤ c.step ∧ c.step ≤ 1000)

end Go.Hv
