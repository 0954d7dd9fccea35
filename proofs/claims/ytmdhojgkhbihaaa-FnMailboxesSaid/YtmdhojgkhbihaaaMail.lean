/-
  Mails: the data and the plain functions of the chapter. No condition.
-/
import Derived.Test.YtmdhojgkhbihaaaFwK
namespace Go.Hv
open Go Go.Fw

structure Mail where
  src : Int
  dst : Int
  irq : Int
def eMail (c : Mail) : List AV := [.int .i64 c.src, .int .i64 c.dst, .int .i64 c.irq]
def okMail (c : Mail) : Prop := InI c.src ∧ InI c.dst ∧ InI c.irq ∧ True
def zMail : Mail := ⟨0, 0, 0⟩
theorem cl_eMail : ∀ x, ∀ c ∈ eMail x, Closed c := fun _ => all_cons' (closed_int _ _) (all_cons' (closed_int _ _) (all_cons' (closed_int _ _) all_nil'))
theorem mail_ext {a b : Mail} (h0 : a.src = b.src) (h1 : a.dst = b.dst) (h2 : a.irq = b.irq) : a = b := by
  cases a; cases b; simp_all
instance (a b : Mail) : Decidable (a = b) :=
  if h : a.src = b.src ∧ a.dst = b.dst ∧ a.irq = b.irq then .isTrue (mail_ext h.1 h.2.1 h.2.2) else .isFalse (fun e => h (e ▸ ⟨rfl, rfl, rfl⟩))
theorem eqC_mail (a b : Mail) : eqC [true, true, true] (eMail a) (eMail b) = some (decide (a = b)) := by
  simp only [eMail, eqC, if_true, Option.map_some]
  congr 1
  rw [Bool.eq_iff_iff]
  simp only [Bool.and_eq_true, decide_eq_true_eq, and_true]
  exact ⟨fun h => mail_ext h.1 h.2.1 h.2.2, fun h => h ▸ ⟨rfl, rfl, rfl⟩⟩

def IsMail (m : Mail) : Prop := (0 ≤ m.src ∧ m.src ≤ 3) ∧ (0 ≤ m.dst ∧ m.dst ≤ 3) ∧ (0 ≤ m.irq ∧ m.irq ≤ 3)
instance (m : Mail) : Decidable (IsMail m) := by unfold IsMail; infer_instance
def idx (xs : List Mail) (m : Mail) : Int := first (fun j => decide (m = xs.getD j zMail)) xs.length
def Has (xs : List Mail) (m : Mail) : Prop := 0 ≤ idx xs m
instance (xs : List Mail) (m : Mail) : Decidable (Has xs m) := by unfold Has; infer_instance
theorem has_at {xs : List Mail} {m : Mail} {i : Nat} (h : i < xs.length) (h1 : ∀ j, j < i → decide (m = xs.getD j zMail) = false) (h2 : xs.getD i zMail = m) : Has xs m := by
  unfold Has idx
  rw [first_at h h1 (decide_eq_true h2.symm)]
  omega
theorem has_none {xs : List Mail} {m : Mail} (h1 : ∀ j, j < xs.length → decide (m = xs.getD j zMail) = false) : ¬ Has xs m := by
  unfold Has idx
  rw [first_none h1]
  omega
def GoodAt (xs : List Mail) (j : Nat) : Prop := IsMail (xs.getD j zMail) ∧ ¬ Has (xs.take j) (xs.getD j zMail)
instance (xs : List Mail) (j : Nat) : Decidable (GoodAt xs j) := by unfold GoodAt; infer_instance
def IsBox (xs : List Mail) : Prop := (∀ j, j < xs.length → GoodAt xs j) ∧ xs.length ≤ 20
instance (xs : List Mail) : Decidable (IsBox xs) := by unfold IsBox; infer_instance

def Sooner (a b : Mail) : Prop := a.irq < b.irq ∨ (a.irq = b.irq ∧ a.src < b.src)
instance (a b : Mail) : Decidable (Sooner a b) := by unfold Sooner; infer_instance
def Next1 (xs : List Mail) (c : Int) (i : Nat) (m : Int) : Prop := (xs.getD i zMail).dst = c ∧ (m < 0 ∨ Sooner (xs.getD i zMail) (xs.getD m.toNat zMail))
instance (xs : List Mail) (c : Int) (i : Nat) (m : Int) : Decidable (Next1 xs c i m) := by unfold Next1; infer_instance
def nextTo (xs : List Mail) (c : Int) : Nat → Int
  | 0 => -1
  | i + 1 => if Next1 xs c i (nextTo xs c i) then (i : Int) else nextTo xs c i
theorem nextTo_lt (xs : List Mail) (c : Int) : ∀ i : Nat, -1 ≤ nextTo xs c i ∧ nextTo xs c i < i
  | 0 => ⟨by simp [nextTo], by simp [nextTo]⟩
  | i + 1 => by
    have := nextTo_lt xs c i
    unfold nextTo
    split <;> omega
theorem nextTo_neg (xs : List Mail) (c : Int) : ∀ i : Nat, nextTo xs c i < 0 ↔ ∀ j, j < i → (xs.getD j zMail).dst ≠ c
  | 0 => ⟨fun _ j hj => by omega, fun _ => by simp [nextTo]⟩
  | i + 1 => by
    have ih := nextTo_neg xs c i
    by_cases h : Next1 xs c i (nextTo xs c i)
    · rw [nextTo, if_pos h]
      exact ⟨fun h1 => by omega, fun h1 => absurd h.1 (h1 i (by omega))⟩
    · rw [nextTo, if_neg h, ih]
      constructor
      · intro h1 j hj
        rcases Nat.lt_succ_iff_lt_or_eq.1 hj with h' | h'
        · exact h1 j h'
        · subst h'
          exact fun e => h ⟨e, .inl (ih.2 h1)⟩
      · exact fun h1 j hj => h1 j (by omega)

/-! ### The processors without mail -/
def shl1 (n : Int) : Int := IntKind.i64.wrap (1 * 2 ^ (min n.toNat IntKind.i64.bits))
def val4 (b0 b1 b2 b3 : Bool) : Int := (if b0 then 1 else 0) + (if b1 then 2 else 0) + (if b2 then 4 else 0) + (if b3 then 8 else 0)
def setTo (xs : List Mail) : Nat → Int
  | 0 => 0
  | i + 1 => if nextTo xs (i : Int) xs.length < 0 then bits .or .i64 (setTo xs i) (shl1 (IntKind.u64.wrap (i : Int))) else setTo xs i
def setOf (xs : List Mail) : Nat → Int
  | 0 => 15
  | i + 1 => bits .andNot .i64 (setOf xs i) (shl1 (xs.getD i zMail).dst)
theorem or_val : ∀ b0 b1 b2 b3 : Bool, (if b3 then bits .or .i64 (if b2 then bits .or .i64 (if b1 then bits .or .i64 (if b0 then bits .or .i64 0 (shl1 (IntKind.u64.wrap 0)) else 0) (shl1 (IntKind.u64.wrap 1)) else (if b0 then bits .or .i64 0 (shl1 (IntKind.u64.wrap 0)) else 0)) (shl1 (IntKind.u64.wrap 2)) else (if b1 then bits .or .i64 (if b0 then bits .or .i64 0 (shl1 (IntKind.u64.wrap 0)) else 0) (shl1 (IntKind.u64.wrap 1)) else (if b0 then bits .or .i64 0 (shl1 (IntKind.u64.wrap 0)) else 0))) (shl1 (IntKind.u64.wrap 3))
    else (if b2 then bits .or .i64 (if b1 then bits .or .i64 (if b0 then bits .or .i64 0 (shl1 (IntKind.u64.wrap 0)) else 0) (shl1 (IntKind.u64.wrap 1)) else (if b0 then bits .or .i64 0 (shl1 (IntKind.u64.wrap 0)) else 0)) (shl1 (IntKind.u64.wrap 2)) else (if b1 then bits .or .i64 (if b0 then bits .or .i64 0 (shl1 (IntKind.u64.wrap 0)) else 0) (shl1 (IntKind.u64.wrap 1)) else (if b0 then bits .or .i64 0 (shl1 (IntKind.u64.wrap 0)) else 0)))) = val4 b0 b1 b2 b3 := by decide +kernel
theorem andNot_val : ∀ (b0 b1 b2 b3 : Bool) (d : Fin 4), bits .andNot .i64 (val4 b0 b1 b2 b3) (shl1 (d.val : Int)) = val4 (b0 && decide (d.val ≠ 0)) (b1 && decide (d.val ≠ 1)) (b2 && decide (d.val ≠ 2)) (b3 && decide (d.val ≠ 3)) := by decide +kernel
def noMail (xs : List Mail) (i : Nat) (c : Int) : Bool := decide (nextTo xs c i < 0)
theorem noMail_succ (xs : List Mail) (i : Nat) (c : Int) : noMail xs (i + 1) c = (noMail xs i c && decide ((xs.getD i zMail).dst ≠ c)) := by
  unfold noMail
  rw [Bool.eq_iff_iff]
  simp only [Bool.and_eq_true, decide_eq_true_eq, nextTo_neg]
  constructor
  · exact fun h => ⟨fun j hj => h j (by omega), h i (by omega)⟩
  · rintro ⟨h, h1⟩ j hj
    rcases Nat.lt_succ_iff_lt_or_eq.1 hj with h' | h'
    · exact h j h'
    · exact h' ▸ h1
theorem setOf_val {xs : List Mail} (h : ∀ j, j < xs.length → 0 ≤ (xs.getD j zMail).dst ∧ (xs.getD j zMail).dst ≤ 3) : ∀ i : Nat, i ≤ xs.length → setOf xs i = val4 (noMail xs i 0) (noMail xs i 1) (noMail xs i 2) (noMail xs i 3)
  | 0, _ => by simp [setOf, noMail, nextTo, val4]
  | i + 1, hi => by
    have ih := setOf_val h i (by omega)
    obtain ⟨h0, h3⟩ := h i (by omega)
    obtain ⟨d, hd⟩ := Int.eq_ofNat_of_zero_le h0
    have hd4 : d < 4 := by omega
    rw [setOf, ih, hd]
    have e := andNot_val (noMail xs i 0) (noMail xs i 1) (noMail xs i 2) (noMail xs i 3) ⟨d, hd4⟩
    refine e.trans ?_
    rw [noMail_succ, noMail_succ, noMail_succ, noMail_succ, hd]
    have k : ∀ c : Nat, decide (d ≠ c) = decide (((d : Nat) : Int) ≠ (c : Int)) := fun c => by
      rw [Bool.eq_iff_iff]; simp only [decide_eq_true_eq]; omega
    rw [k 0, k 1, k 2, k 3]
    rfl
theorem setTo_val (xs : List Mail) : setTo xs 4 = val4 (noMail xs xs.length 0) (noMail xs xs.length 1) (noMail xs xs.length 2) (noMail xs xs.length 3) := by
  rw [← or_val]
  simp only [setTo, noMail, decide_eq_true_eq]
  rfl
def quietCpus (xs : List Mail) : Int × Bool := if IsBox xs then (setTo xs 4, true) else (0, false)
theorem quiet_impl {xs : List Mail} (h : IsBox xs) : setOf xs xs.length = (quietCpus xs).1 := by
  rw [quietCpus, if_pos h, setTo_val, setOf_val (fun j hj => (h.1 j hj).1.2.1) _ (Nat.le_refl _)]

end Go.Hv
