/-
  Ports: marking. No condition.
-/
import Derived.Test.YtinbacenkbfifaaFwL
import Derived.Test.YtinbacenkbfifaaPort
namespace Go.Hv
open Go Go.Fw

def mkI (k : Int) (j : Nat) : Int := k + 1 * j
def mkL (k : Int) (n : Nat) : List (List AV) := ((List.range n).map (mkI k)).map eInt

def withP (p : Port) (rx tx : List Int) : Port := ⟨rx, tx, p.depth, decide (p.depth ≤ (rx.length : Int))⟩
def GoodRead (p : Port) : Prop := IsPort p ∧ 0 < p.rx.length
instance (p : Port) : Decidable (GoodRead p) := by unfold GoodRead; infer_instance
def readP (p : Port) : Port := withP p (p.rx.drop 1) p.tx

end Go.Hv
