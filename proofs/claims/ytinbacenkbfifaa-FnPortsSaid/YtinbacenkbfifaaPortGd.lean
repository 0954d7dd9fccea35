/-
  Ports: what is drawn, and the law on ports. No condition.
-/
import Derived.Test.YtinbacenkbfifaaFwN
import Derived.Test.YtinbacenkbfifaaPortCd
namespace Go.Hv
open Go Go.Fw

def DrawnP (p : Port) : Prop := p.rx.length ≤ 17 ∧ p.tx.length ≤ 17
theorem DrawnP.small {p : Port} (h : DrawnP p) : SmallPort p := ⟨by have := h.1; omega, by have := h.2; omega⟩
def zPort : Port := ⟨[], [], 0, false⟩
theorem small_zPort : SmallPort zPort := ⟨Nat.zero_le _, Nat.zero_le _⟩
theorem small_read {p : Port} (h : GoodRead p) : SmallPort (readP p) := by
  have h1 := h.1.rx; have h2 := h.1.tx
  exact ⟨by simp [readP, withP]; omega, by simp [readP, withP]; omega⟩
theorem areBytes_iff (xs : List Int) : AreBytes xs ↔ xs.length ≤ 16 ∧ ∀ x ∈ xs, 0 ≤ x ∧ x ≤ 255 := by
  have hn : ∀ j, NotByte xs j = false ↔ (0 ≤ xs.getD j 0 ∧ xs.getD j 0 ≤ 255) := fun j => by simp [NotByte]
  constructor
  · rintro ⟨h1, h2⟩
    refine ⟨h1, fun x hx => ?_⟩
    obtain ⟨i, hi, rfl⟩ := List.getElem_of_mem hx
    rcases first_spec (NotByte xs) xs.length with ⟨_, h3⟩ | ⟨j, _, h3, _, _⟩
    · have := (hn i).1 (h3 i hi)
      rwa [List.getD_eq_getElem?_getD, List.getElem?_eq_getElem hi] at this
    · omega
  · rintro ⟨h1, h2⟩
    refine ⟨h1, ?_⟩
    rw [first_none (fun j hj => (hn j).2 ?_)]
    · omega
    · rw [List.getD_eq_getElem?_getD, List.getElem?_eq_getElem hj]
      exact h2 _ (List.getElem_mem hj)
theorem bytes_app {xs ys : List Int} (h1 : AreBytes xs) (h2 : ∀ y ∈ ys, 0 ≤ y ∧ y ≤ 255) (h3 : (xs ++ ys).length ≤ 16) : AreBytes (xs ++ ys) :=
  (areBytes_iff _).2 ⟨h3, fun x hx => (List.mem_append.1 hx).elim (((areBytes_iff _).1 h1).2 x) (h2 x)⟩
theorem bytes_drop {xs : List Int} (k : Nat) (h1 : AreBytes xs) : AreBytes (xs.drop k) :=
  (areBytes_iff _).2 ⟨by have := h1.1; rw [List.length_drop]; omega, fun x hx => ((areBytes_iff _).1 h1).2 x (List.mem_of_mem_drop hx)⟩
theorem isPort_with {p : Port} {rx tx : List Int} (h : IsPort p) (h1 : AreBytes rx) (h2 : AreBytes tx) : IsPort (withP p rx tx) := by
  obtain ⟨_, _, h3, h4⟩ := h
  exact ⟨h1, h2, h3, beq_self_eq_true _⟩
theorem recv_ok {p : Port} {b : Int} (h : GoodRecv p b) : IsPort (recvP p b) := by
  obtain ⟨h1, h2, h3⟩ := h
  have := h1.rx
  exact isPort_with h1 (bytes_app h1.1 (by intro y hy; rw [List.mem_singleton] at hy; subst hy; exact h2) (by simp; omega)) h1.2.1
theorem recv_read {p : Port} {b : Int} (h : GoodRecv p b) : GoodRead (recvP p b) := ⟨recv_ok h, by simp [recvP, withP]⟩
theorem recv_first0 (p : Port) (b : Int) (h : p.rx.length = 0) : (recvP p b).rx.getD 0 0 = b := by
  have : p.rx = [] := List.eq_nil_of_length_eq_zero h
  simp [recvP, withP, this]
theorem recv_first1 (p : Port) (b : Int) (h : 0 < p.rx.length) : (recvP p b).rx.getD 0 0 = p.rx.getD 0 0 := by
  show (p.rx ++ [b]).getD 0 0 = _
  rw [List.getD_eq_getElem?_getD, List.getElem?_append_left h, ← List.getD_eq_getElem?_getD]
theorem recv_rest (p : Port) (b : Int) : (readP (recvP p b)).rx.length = p.rx.length := by simp [readP, recvP, withP]
theorem read_ok {p : Port} (h : GoodRead p) : IsPort (readP p) := isPort_with h.1 (bytes_drop 1 h.1.1) h.1.2.1
theorem write_ok {p : Port} {b : Int} (h : GoodWrite p b) : GoodBytes (writeP p b) 16 := by
  obtain ⟨h1, h2, h3⟩ := h
  have := h1.tx
  exact ⟨isPort_with h1 h1.1 (bytes_app h1.2.1 (by intro y hy; rw [List.mem_singleton] at hy; subst hy; exact h2) (by simp; omega)), by decide, by decide⟩
theorem write_sent {p : Port} {b : Int} (h : GoodWrite p b) : sentP (writeP p b) 16 = p.tx ++ [b] := by
  have := h.1.tx
  have h3 := h.2.2
  show (p.tx ++ [b]).take (min (16 : Int).toNat (p.tx ++ [b]).length) = _
  rw [List.take_of_length_le]
  simp; omega
theorem send_cat (p : Port) (n : Int) : sentP p n ++ (sendP p n).tx = p.tx := List.take_append_drop _ _
theorem loop_sum {a b : Port} (h : GoodLoop a b) : (loopP a b).rx.length + (loopP a b).tx.length + (loopP b a).rx.length + (loopP b a).tx.length = a.rx.length + a.tx.length + b.rx.length + b.tx.length := by
  have h1 := h.1.rx; have h2 := h.1.tx; have h3 := h.2.rx; have h4 := h.2.tx
  simp [loopP, withP, kL]
  omega
/-- What comes of a call in both cases. -/
def pick (c : Prop) [Decidable c] (p : Port) : Port := if c then p else zPort
def pickL (c : Prop) [Decidable c] (p : List Int) : List Int := if c then p else []
def pickI (c : Prop) [Decidable c] (n : Int) : Int := if c then n else 0
theorem pick_y {c : Prop} [Decidable c] {p : Port} (h : c) : pick c p = p := if_pos h
theorem pick_n {c : Prop} [Decidable c] {p : Port} (h : ¬ c) : pick c p = zPort := if_neg h
theorem pickL_y {c : Prop} [Decidable c] {p : List Int} (h : c) : pickL c p = p := if_pos h
theorem pickL_n {c : Prop} [Decidable c] {p : List Int} (h : ¬ c) : pickL c p = [] := if_neg h
theorem pickI_y {c : Prop} [Decidable c] {n : Int} (h : c) : pickI c n = n := if_pos h
theorem pickI_n {c : Prop} [Decidable c] {n : Int} (h : ¬ c) : pickI c n = 0 := if_neg h
theorem pick_small {c : Prop} [Decidable c] {p : Port} (h : c → SmallPort p) : SmallPort (pick c p) := by
  unfold pick; split
  · exact h (by assumption)
  · exact small_zPort
theorem pickL_small {c : Prop} [Decidable c] {p : List Int} (h : c → p.length ≤ 1048576) : (pickL c p).length ≤ 1048576 := by
  unfold pickL; split
  · exact h (by assumption)
  · exact Nat.zero_le _
theorem loop_sumP {a b : Port} (h : GoodLoop a b) : (pick (GoodLoop a b) (loopP a b)).rx.length + (pick (GoodLoop a b) (loopP a b)).tx.length + (pick (GoodLoop a b) (loopP b a)).rx.length + (pick (GoodLoop a b) (loopP b a)).tx.length = a.rx.length + a.tx.length + b.rx.length + b.tx.length := by
  rw [pick_y h, pick_y h]; exact loop_sum h
section
variable {P : Program} {G : Gh} {Y : World → World → Prop} {fr : Fr} {st : Store} {dst : Option Tmp} {ty : TypeId} {pos : String} {aft : Array Edge} {gd : Option (Nat × Bool)} {t t' : TypeId} {x y : Operand} {k : IntKind} {m n : Int}
theorem p_neqF (hx : opv fr x = some (.int k m)) (hy : opv fr y = some (.int k n)) (h : m = n) : Pure P G Y fr st ⟨dst, .binOp .neq t x y t', ty, pos, aft, gd⟩ (.bool false) := by
  subst h; exact p_neq_same hx hy
end

end Go.Hv
