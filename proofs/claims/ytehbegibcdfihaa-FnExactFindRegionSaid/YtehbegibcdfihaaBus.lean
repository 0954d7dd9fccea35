/-
  The bus: the data and the plain functions of the chapter. No condition.
-/
import Derived.Test.YtehbegibcdfihaaFwJ
namespace Go.Hv
open Go Go.Fw

structure Region where
  base : Int
  size : Int
  dev : Int
  irq : Int
def eRegion (c : Region) : List AV := [.int .i64 c.base, .int .i64 c.size, .int .i64 c.dev, .int .i64 c.irq]
def okRegion (c : Region) : Prop := InI c.base ∧ InI c.size ∧ InI c.dev ∧ InI c.irq ∧ True
def zRegion : Region := ⟨0, 0, 0, 0⟩
theorem cl_eRegion : ∀ x, ∀ c ∈ eRegion x, Closed c := fun _ => all_cons' (closed_int _ _) (all_cons' (closed_int _ _) (all_cons' (closed_int _ _) (all_cons' (closed_int _ _) all_nil')))

def IsSize (n : Int) : Prop := (4 ≤ n ∧ n ≤ 4096) ∧ bits .and .i64 n (n - 1) = 0
instance (n : Int) : Decidable (IsSize n) := by unfold IsSize; infer_instance

theorem sizes0 : ∀ (a : Fin 65) (b : Fin 64), 4 ≤ a.val * 64 + b.val → a.val * 64 + b.val ≤ 4096 → bits .and .i64 ((a.val * 64 + b.val : Nat) : Int) (((a.val * 64 + b.val : Nat) : Int) - 1) = 0 → a.val * 64 + b.val ∈ [4, 8, 16, 32, 64, 128, 256, 512, 1024, 2048, 4096] := by decide +kernel
theorem sizes (m : Nat) (h : m ≤ 4096) (h4 : 4 ≤ m) (hb : bits .and .i64 (m : Int) ((m : Int) - 1) = 0) : m ∈ [4, 8, 16, 32, 64, 128, 256, 512, 1024, 2048, 4096] := by
  have hm : m / 64 * 64 + m % 64 = m := by omega
  have := sizes0 ⟨m / 64, by omega⟩ ⟨m % 64, by omega⟩ (by show 4 ≤ m / 64 * 64 + m % 64; omega) (by show m / 64 * 64 + m % 64 ≤ 4096; omega) (by show bits .and .i64 ((m / 64 * 64 + m % 64 : Nat) : Int) (((m / 64 * 64 + m % 64 : Nat) : Int) - 1) = 0; rw [hm]; exact hb)
  exact hm ▸ this
theorem isSize_dvd {n b : Int} (h : IsSize n) (hb : b % n = 0) (h1 : b ≤ 65535) : b ≤ 65536 - n := by
  obtain ⟨⟨h2, h3⟩, h4⟩ := h
  obtain ⟨m, rfl⟩ := Int.eq_ofNat_of_zero_le (show 0 ≤ n by omega)
  have h5 := sizes m (by omega) (by omega) h4
  simp only [List.mem_cons, List.not_mem_nil, or_false] at h5
  rcases h5 with h5 | h5 | h5 | h5 | h5 | h5 | h5 | h5 | h5 | h5 | h5 <;> subst h5 <;> omega

def IsRegion (r : Region) : Prop := IsSize r.size ∧ (0 ≤ r.base ∧ r.base ≤ 65536 - r.size) ∧ r.base % r.size = 0 ∧ (0 ≤ r.dev ∧ r.dev ≤ 3) ∧ (0 ≤ r.irq ∧ r.irq ≤ 15)
instance (r : Region) : Decidable (IsRegion r) := by unfold IsRegion; infer_instance
theorem isRegion_i (r : Region) (h1 : IsSize r.size) (h2 : 0 ≤ r.base) (h3 : r.base ≤ 65535 ∨ r.base ≤ 65536 - r.size) (h4 : r.base % r.size = 0) (h5 : 0 ≤ r.dev ∧ r.dev ≤ 3) (h6 : 0 ≤ r.irq ∧ r.irq ≤ 15) : IsRegion r :=
  ⟨h1, ⟨h2, h3.elim (isSize_dvd h1 h4) id⟩, h4, h5, h6⟩

def Over (xs : List Region) (j : Nat) : Prop := 0 < j ∧ (xs.getD j zRegion).base < IntKind.i64.wrap ((xs.getD (j - 1) zRegion).base + (xs.getD (j - 1) zRegion).size)
instance (xs : List Region) (j : Nat) : Decidable (Over xs j) := by unfold Over; infer_instance
def GoodAt (xs : List Region) (j : Nat) : Prop := IsRegion (xs.getD j zRegion) ∧ ¬ Over xs j
instance (xs : List Region) (j : Nat) : Decidable (GoodAt xs j) := by unfold GoodAt; infer_instance
def IsMap (xs : List Region) : Prop := (∀ j, j < xs.length → GoodAt xs j) ∧ xs.length ≤ 6
instance (xs : List Region) : Decidable (IsMap xs) := by unfold IsMap; infer_instance

def freeTo (xs : List Region) : Nat → Int
  | 0 => 65536
  | i + 1 => IntKind.i64.wrap (freeTo xs i - (xs.getD i zRegion).size)
def freeSpace (xs : List Region) : Int × Bool := if IsMap xs then (freeTo xs xs.length, true) else (0, false)

def inReg (xs : List Region) (a : Int) (j : Nat) : Bool := decide ((xs.getD j zRegion).base ≤ a ∧ a ≤ IntKind.i64.wrap (IntKind.i64.wrap ((xs.getD j zRegion).base + (xs.getD j zRegion).size) - 1))
def findRegion (xs : List Region) (a : Int) : Int := first (inReg xs a) xs.length
theorem wrap_id {n : Int} (h0 : 0 ≤ n) (h1 : n ≤ 100000000) : IntKind.i64.wrap n = n := wrap_in ⟨by omega, by omega⟩
theorem findRegion_addr {xs : List Region} {a : Int} (h : IsMap xs) (hf : 0 ≤ findRegion xs a) : 0 ≤ a ∧ a ≤ 65535 := by
  rcases first_spec (inReg xs a) xs.length with ⟨h1, _⟩ | ⟨i, h1, _, h3, _⟩
  · unfold findRegion at hf; omega
  · obtain ⟨⟨⟨⟨s1, s2⟩, _⟩, ⟨b1, b2⟩, _⟩, _⟩ := h.1 i h1
    have h5 := of_decide_eq_true h3
    rw [wrap_id (n := (xs.getD i zRegion).base + (xs.getD i zRegion).size) (by omega) (by omega), wrap_id (by omega) (by omega)] at h5
    omega
def findRegion2 (xs : List Region) (a : Int) : Int × Bool := if IsMap xs ∧ 0 ≤ findRegion xs a then (findRegion xs a, true) else (0, false)



end Go.Hv
