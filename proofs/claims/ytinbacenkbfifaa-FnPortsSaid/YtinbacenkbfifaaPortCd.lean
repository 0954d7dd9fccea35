/-
  Ports: bytes that come, that are written, that are sent; the loop. No condition.
-/
import Derived.Test.YtinbacenkbfifaaPortBd
namespace Go.Hv
open Go Go.Fw

def recvP (p : Port) (b : Int) : Port := withP p (p.rx ++ [b]) p.tx
def GoodRecv (p : Port) (b : Int) : Prop := IsPort p ∧ (0 ≤ b ∧ b ≤ 255) ∧ p.rx.length ≠ 16
instance (p : Port) (b : Int) : Decidable (GoodRecv p b) := by unfold GoodRecv; infer_instance
def writeP (p : Port) (b : Int) : Port := withP p p.rx (p.tx ++ [b])
def GoodWrite (p : Port) (b : Int) : Prop := IsPort p ∧ (0 ≤ b ∧ b ≤ 255) ∧ p.tx.length ≠ 16
instance (p : Port) (b : Int) : Decidable (GoodWrite p b) := by unfold GoodWrite; infer_instance
def kP (p : Port) (n : Int) : Nat := min n.toNat p.tx.length
def sentP (p : Port) (n : Int) : List Int := p.tx.take (kP p n)
def sendP (p : Port) (n : Int) : Port := withP p p.rx (p.tx.drop (kP p n))
def GoodBytes (p : Port) (n : Int) : Prop := IsPort p ∧ (0 ≤ n ∧ n ≤ 16)
instance (p : Port) (n : Int) : Decidable (GoodBytes p n) := by unfold GoodBytes; infer_instance
def kL (a b : Port) : Nat := min a.tx.length (16 - b.rx.length)
def loopP (a b : Port) : Port := withP a (a.rx ++ b.tx.take (kL b a)) (a.tx.drop (kL a b))
def GoodLoop (a b : Port) : Prop := IsPort a ∧ IsPort b
instance (a b : Port) : Decidable (GoodLoop a b) := by unfold GoodLoop; infer_instance
theorem IsPort.rx {p : Port} (h : IsPort p) : p.rx.length ≤ 16 := h.1.1
theorem IsPort.tx {p : Port} (h : IsPort p) : p.tx.length ≤ 16 := h.2.1.1
theorem small_recv {p : Port} {b : Int} (h : GoodRecv p b) : SmallPort (recvP p b) := by
  have h1 := h.1.rx; have h2 := h.1.tx
  exact ⟨by simp [recvP, withP]; omega, by simp [recvP, withP]; omega⟩
theorem small_write {p : Port} {b : Int} (h : GoodWrite p b) : SmallPort (writeP p b) := by
  have h1 := h.1.rx; have h2 := h.1.tx
  exact ⟨by simp [writeP, withP]; omega, by simp [writeP, withP]; omega⟩
theorem small_send {p : Port} {n : Int} (h : GoodBytes p n) : SmallPort (sendP p n) := by
  have h1 := h.1.rx; have h2 := h.1.tx
  exact ⟨by simp [sendP, withP]; omega, by simp [sendP, withP]; omega⟩
theorem small_sent {p : Port} {n : Int} (h : GoodBytes p n) : (sentP p n).length ≤ 1048576 := by
  have h2 := h.1.tx
  simp [sentP]; omega
theorem small_loop {a b : Port} (h : IsPort a) (k : IsPort b) : SmallPort (loopP a b) := by
  have h1 := h.rx; have h2 := h.tx; have h3 := k.rx; have h4 := k.tx
  exact ⟨by simp [loopP, withP, kL]; omega, by simp [loopP, withP, kL]; omega⟩
theorem szPort_ub {p : Port} {left : Int} (h : left ≤ 1048576) : szPort p left ≤ 1048576 := by
  unfold szPort szv
  (repeat' split) <;> omega

end Go.Hv
