/-
  Virtual processors: shares, waits. No condition.
-/
import Derived.Test.YtdlhpomgmlcfoaaVcpuCd
namespace Go.Hv
open Go Go.Fw
set_option linter.unusedSimpArgs false
set_option linter.unusedVariables false

def hitTo (p : Nat → Bool) : Nat → Int
  | 0 => 0
  | k + 1 => if p k = true then hitTo p k + 1 else hitTo p k
theorem hitTo_b (p : Nat → Bool) : ∀ k, 0 ≤ hitTo p k ∧ hitTo p k ≤ k
  | 0 => ⟨Int.le_refl _, by simp [hitTo]⟩
  | k + 1 => by
    have := hitTo_b p k
    rw [hitTo]; split <;> omega
theorem hitTo_eq {p q : Nat → Bool} : ∀ {n : Nat}, (∀ k, k < n → p k = q k) → hitTo p n = hitTo q n
  | 0, _ => rfl
  | n + 1, h => by rw [hitTo, hitTo, h n (by omega), hitTo_eq (fun k hk => h k (by omega))]
def atP (ps : List Int) (j : Nat) (k : Nat) : Bool := decide (ps.getD k 0 = (j : Int))
def atI (is : List Int) (id : Int) (k : Nat) : Bool := decide (is.getD k 0 = id)
theorem at_same {xs : List Vcpu} {n : Int} (h : GoodRun xs n) {j k : Nat} (hj : j < xs.length) (hk : k < tkN n) : atI (idsTo xs (tkN n)) (xs.getD j zVcpu).id k = atP (picksTo xs (tkN n)) j k := by
  obtain ⟨g0, g1, g2⟩ := ids_picks h.1 (h.runs (by unfold tkN at hk; omega)) (tkN n) k hk
  unfold atI atP
  rw [g2, Bool.eq_iff_iff]
  simp only [decide_eq_true_eq]
  generalize (picksTo xs (tkN n)).getD k 0 = q at g0 g1
  constructor
  · intro e
    rcases Nat.lt_trichotomy q.toNat j with hl | hl | hl
    · have := ids_lt h.1 hl hj; omega
    · omega
    · have := ids_lt h.1 hl (by omega); omega
  · intro e
    subst e; simp
def sharesL (xs : List Vcpu) (n : Int) : List Int := (List.range xs.length).map fun j => hitTo (atP (picksTo xs (tkN n)) j) (tkN n)
def shP (xs : List Vcpu) (n : Int) (i : Nat) : List Int := (List.range xs.length).map fun j => hitTo (atP (picksTo xs (tkN n)) j) i
def shI (xs : List Vcpu) (n : Int) (i : Nat) : List Int := (List.range i).map fun j => hitTo (atI (idsTo xs (tkN n)) (xs.getD j zVcpu).id) (tkN n)
theorem shP_len (xs : List Vcpu) (n : Int) (i : Nat) : (shP xs n i).length = xs.length := by simp [shP]
theorem shI_len (xs : List Vcpu) (n : Int) (i : Nat) : (shI xs n i).length = i := by simp [shI]
theorem shP_zero (xs : List Vcpu) (n : Int) : shP xs n 0 = List.replicate xs.length 0 := by
  apply List.ext_getElem?
  intro j
  simp only [shP, hitTo, List.getElem?_map, List.getElem?_replicate]
  by_cases hj : j < xs.length
  · simp [hj]
  · simp [hj]
theorem shP_get {xs : List Vcpu} {n : Int} {i j : Nat} (hj : j < xs.length) : (shP xs n i).getD j 0 = hitTo (atP (picksTo xs (tkN n)) j) i := by
  rw [List.getD_eq_getElem?_getD]; simp [shP, hj]
theorem shP_step {xs : List Vcpu} {n : Int} {i : Nat} (hk : 0 ≤ (picksTo xs (tkN n)).getD i 0 ∧ (picksTo xs (tkN n)).getD i 0 < xs.length) : (shP xs n i).set ((picksTo xs (tkN n)).getD i 0).toNat ((shP xs n i).getD ((picksTo xs (tkN n)).getD i 0).toNat 0 + 1) = shP xs n (i + 1) := by
  rw [shP_get (by omega)]
  apply List.ext_getElem?
  intro j
  rw [List.getElem?_set]
  by_cases hj : j < xs.length
  · by_cases he : ((picksTo xs (tkN n)).getD i 0).toNat = j
    · have e2 : (picksTo xs (tkN n)).getD i 0 = (j : Int) := by omega
      rw [if_pos he, if_pos (by rw [shP_len]; omega)]
      subst he
      simp only [shP, List.getElem?_map, List.getElem?_range hj, Option.map_some, hitTo]
      rw [if_pos (by unfold atP; exact decide_eq_true e2)]
    · rw [if_neg he]
      simp only [shP, List.getElem?_map, List.getElem?_range hj, Option.map_some, hitTo]
      rw [if_neg (by unfold atP; simp only [decide_eq_true_eq]; omega)]
  · rw [if_neg (by omega)]
    simp [shP, hj]
theorem shI_step (xs : List Vcpu) (n : Int) (i : Nat) : shI xs n i ++ [hitTo (atI (idsTo xs (tkN n)) (xs.getD i zVcpu).id) (tkN n)] = shI xs n (i + 1) := by
  simp [shI, List.range_succ]
theorem shares_same {xs : List Vcpu} {n : Int} (h : GoodRun xs n) : shI xs n xs.length = sharesL xs n := by
  unfold shI sharesL
  apply List.map_congr_left
  intro j hj
  exact hitTo_eq (fun k hk => at_same h (List.mem_range.1 hj) hk)

/-! ### The longest wait -/
def waitTo (p : Nat → Bool) : Nat → Int × Int
  | 0 => (0, 0)
  | k + 1 => (if (waitTo p k).1 < (if p k = true then 0 else (waitTo p k).2 + 1) then (if p k = true then 0 else (waitTo p k).2 + 1) else (waitTo p k).1, if p k = true then 0 else (waitTo p k).2 + 1)
theorem waitTo_b (p : Nat → Bool) : ∀ k, 0 ≤ (waitTo p k).1 ∧ (waitTo p k).1 ≤ k ∧ 0 ≤ (waitTo p k).2 ∧ (waitTo p k).2 ≤ k
  | 0 => ⟨Int.le_refl _, by simp [waitTo], Int.le_refl _, by simp [waitTo]⟩
  | k + 1 => by
    have := waitTo_b p k
    rw [waitTo]; dsimp only
    split <;> split <;> omega
theorem waitTo_eq {p q : Nat → Bool} : ∀ {n : Nat}, (∀ k, k < n → p k = q k) → waitTo p n = waitTo q n
  | 0, _ => rfl
  | n + 1, h => by rw [waitTo, waitTo, h n (by omega), waitTo_eq (fun k hk => h k (by omega))]
theorem wait_hit {p : Nat → Bool} {k : Nat} {lo ru : Int} (h1 : lo = (waitTo p k).1) (h2 : ru = (waitTo p k).2) (hp : p k = true) : (if (0 : Int) < lo then lo else 0) = (waitTo p (k + 1)).1 ∧ (if lo < (0 : Int) then 0 else lo) = (waitTo p (k + 1)).1 ∧ 0 = (waitTo p (k + 1)).2 := by
  have := waitTo_b p k
  subst h1 h2
  rw [waitTo]; simp only [hp, if_true]
  refine ⟨?_, trivial, trivial⟩
  split <;> split <;> omega
theorem wait_miss {p : Nat → Bool} {k : Nat} {lo ru : Int} (h1 : lo = (waitTo p k).1) (h2 : ru = (waitTo p k).2) (hp : p k = false) : (if ru + 1 < lo then lo else ru + 1) = (waitTo p (k + 1)).1 ∧ (if lo < ru + 1 then ru + 1 else lo) = (waitTo p (k + 1)).1 ∧ ru + 1 = (waitTo p (k + 1)).2 := by
  subst h1 h2
  rw [waitTo]; simp only [hp, Bool.false_eq_true, if_false]
  refine ⟨?_, trivial, trivial⟩
  split <;> split <;> omega
def bestTo (xs : List Vcpu) (w : Nat → Int) : Nat → Int × Int
  | 0 => (0, -1)
  | i + 1 => if (xs.getD i zVcpu).blocked = false ∧ (bestTo xs w i).2 < w i then ((xs.getD i zVcpu).id, w i) else bestTo xs w i
theorem bestTo_eq {xs : List Vcpu} {w u : Nat → Int} : ∀ {n : Nat}, (∀ k, k < n → w k = u k) → bestTo xs w n = bestTo xs u n
  | 0, _ => rfl
  | n + 1, h => by rw [bestTo, bestTo, h n (by omega), bestTo_eq (fun k hk => h k (by omega))]
def wP (xs : List Vcpu) (n : Int) (j : Nat) : Int := (waitTo (atP (picksTo xs (tkN n)) j) (tkN n)).1
def wI (xs : List Vcpu) (n : Int) (j : Nat) : Int := (waitTo (atI (idsTo xs (tkN n)) (xs.getD j zVcpu).id) (tkN n)).1
def longest (xs : List Vcpu) (n : Int) : Int × Int := bestTo xs (wP xs n) xs.length
theorem longest_same {xs : List Vcpu} {n : Int} (h : GoodRun xs n) : bestTo xs (wI xs n) xs.length = longest xs n :=
  bestTo_eq (fun j hj => congrArg Prod.fst (waitTo_eq (fun k hk => at_same h hj hk)))
theorem best_yes {xs : List Vcpu} {w : Nat → Int} {i : Nat} {be mo lo : Int} (h1 : be = (bestTo xs w i).1) (h2 : mo = (bestTo xs w i).2) (hw : lo = w i) (hb : (xs.getD i zVcpu).blocked = false) (hl : mo < lo) : (xs.getD i zVcpu).id = (bestTo xs w (i + 1)).1 ∧ lo = (bestTo xs w (i + 1)).2 := by
  subst h1 h2 hw
  rw [bestTo, if_pos ⟨hb, hl⟩]; exact ⟨rfl, rfl⟩
theorem best_no {xs : List Vcpu} {w : Nat → Int} {i : Nat} {be mo lo : Int} (h1 : be = (bestTo xs w i).1) (h2 : mo = (bestTo xs w i).2) (hw : lo = w i) (h : (xs.getD i zVcpu).blocked = true ∨ ¬ mo < lo) : be = (bestTo xs w (i + 1)).1 ∧ mo = (bestTo xs w (i + 1)).2 := by
  subst h1 h2 hw
  rw [bestTo, if_neg (by rintro ⟨q1, q2⟩; rcases h with h | h; exact absurd q1 (by rw [h]; decide); exact h q2)]; exact ⟨rfl, rfl⟩
def GoodWait (xs : List Vcpu) (n : Int) : Prop := GoodRun xs n ∧ n ≠ 0
instance (xs : List Vcpu) (n : Int) : Decidable (GoodWait xs n) := by unfold GoodWait; infer_instance

end Go.Hv
