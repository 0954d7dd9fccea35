/-
  Virtual processors: marking, refilling. No condition.
-/
import Derived.Test.YtdlhpomgmlcfoaaFwL
import Derived.Test.YtdlhpomgmlcfoaaVcpu
namespace Go.Hv
open Go Go.Fw

def markV (k : Int) (j : Nat) : Vcpu := ⟨k + 5 * j, k + 5 * j + 1, k + 5 * j + 1 + 1, decide ((k + 5 * j + 1 + 1 + 1) % 3 = 0), decide ((k + 5 * j + 1 + 1 + 1 + 1) % 3 = 0)⟩

def more (v : Vcpu) : Int := IntKind.i64.wrap (v.credit + IntKind.i64.wrap (10 * v.weight))
def refill1 (v : Vcpu) : Vcpu := if v.blocked = false then ⟨v.id, v.weight, if 200 < more v then 200 else more v, v.blocked, v.event⟩ else v
def gR (xs : List Vcpu) (j : Nat) : Vcpu := refill1 (xs.getD j zVcpu)
def refillL (xs : List Vcpu) : List Vcpu := (List.range xs.length).map (gR xs)
theorem refillL_len (xs : List Vcpu) : (refillL xs).length = xs.length := by simp [refillL]
def refillVcpus (xs : List Vcpu) : List Vcpu × Bool := if AreVcpus xs then (refillL xs, true) else ([], false)
theorem gR_t {xs : List Vcpu} {i : Nat} (h : (xs.getD i zVcpu).blocked = false) : gR xs i = ⟨(xs.getD i zVcpu).id, (xs.getD i zVcpu).weight, if 200 < more (xs.getD i zVcpu) then 200 else more (xs.getD i zVcpu), (xs.getD i zVcpu).blocked, (xs.getD i zVcpu).event⟩ := if_pos h
theorem gR_f {xs : List Vcpu} {i : Nat} (h : (xs.getD i zVcpu).blocked = true) : gR xs i = xs.getD i zVcpu := if_neg (by rw [h]; decide)

end Go.Hv
