/-
  Virtual processors: ticks. No condition.
-/
import Derived.Test.YtdlhpomgmlcfoaaVcpuBd
namespace Go.Hv
open Go Go.Fw
set_option linter.unusedSimpArgs false
set_option linter.unusedVariables false

def mkI (k : Int) (j : Nat) : Int := k + 1 * j
def hasV (v : Vcpu) : Bool := !v.blocked && decide (0 < v.credit)
def hasC (xs : List Vcpu) (j : Nat) : Bool := hasV (xs.getD j zVcpu)
def emptyTo (xs : List Vcpu) : Nat → Bool
  | 0 => true
  | i + 1 => emptyTo xs i && !hasC xs i
theorem emptyTo_iff (xs : List Vcpu) : ∀ i, emptyTo xs i = true ↔ ∀ j, j < i → hasC xs j = false
  | 0 => ⟨fun _ j hj => by omega, fun _ => rfl⟩
  | i + 1 => by
    rw [emptyTo, Bool.and_eq_true, emptyTo_iff xs i]
    constructor
    · rintro ⟨h1, h2⟩ j hj
      rcases Nat.lt_succ_iff_lt_or_eq.1 hj with h' | h'
      · exact h1 j h'
      · subst h'; simpa using h2
    · exact fun h => ⟨fun j hj => h j (by omega), by rw [h i (by omega)]; rfl⟩
theorem empty_step {e : Bool} {v : Vcpu} : (e = true → v.blocked = true → true = (e && !hasV v)) ∧ (e = true → v.blocked = false → decide (v.credit ≤ 0) = (e && !hasV v)) ∧ (e = false → false = (e && !hasV v)) := by
  refine ⟨fun h1 h2 => by simp [h1, hasV, h2], fun h1 h2 => ?_, fun h1 => by simp [h1]⟩
  rw [h1, Bool.true_and, hasV, h2, Bool.not_false, Bool.true_and]
  by_cases h : v.credit ≤ 0
  · rw [decide_eq_true h, decide_eq_false (by omega)]; rfl
  · rw [decide_eq_false h, decide_eq_true (by omega)]; rfl
def hasI (xs : List Vcpu) : Int := first (hasC xs) xs.length
def baseL (xs : List Vcpu) : List Vcpu := if hasI xs < 0 then refillL xs else xs
def spend (v : Vcpu) : Vcpu := ⟨v.id, v.weight, if v.credit - 10 < -100 then -100 else v.credit - 10, v.blocked, false⟩
def tickI (xs : List Vcpu) : Int := pickTo (baseL xs) xs.length
def tickL (xs : List Vcpu) : List Vcpu := (baseL xs).set (tickI xs).toNat (spend ((baseL xs).getD (tickI xs).toNat zVcpu))
def tickId (xs : List Vcpu) : Int := (xs.getD (tickI xs).toNat zVcpu).id
def Runs (xs : List Vcpu) : Prop := 0 ≤ pickTo xs xs.length
instance (xs : List Vcpu) : Decidable (Runs xs) := by unfold Runs; infer_instance

theorem emptyTo_end (xs : List Vcpu) : emptyTo xs xs.length = decide (hasI xs < 0) := by
  rw [Bool.eq_iff_iff, emptyTo_iff, decide_eq_true_eq]
  unfold hasI
  rcases first_spec (hasC xs) xs.length with ⟨h1, h2⟩ | ⟨i, h1, h2, h3, _⟩
  · exact ⟨fun _ => by omega, fun _ => h2⟩
  · exact ⟨fun h => by rw [h i h1] at h3; exact absurd h3 (by decide), fun h => by omega⟩
theorem seg_getD {α : Type} {f : α → List AV} {l : List α} {i off : Nat} {z : α} {cs row : List AV} (h : i < l.length) (hr : segSet (f (l.getD i z)) off cs = row) : segSet (f (l[i]'h)) off cs = row := by
  rw [List.getD_eq_getElem?_getD, List.getElem?_eq_getElem h] at hr; exact hr
theorem baseL_len (xs : List Vcpu) : (baseL xs).length = xs.length := by
  unfold baseL; split
  · exact refillL_len xs
  · rfl
theorem tickL_len (xs : List Vcpu) : (tickL xs).length = xs.length := by unfold tickL; rw [List.length_set, baseL_len]
theorem tickI_lt (xs : List Vcpu) : -1 ≤ tickI xs ∧ tickI xs < xs.length := pickTo_lt (baseL xs) xs.length
theorem refillL_get {xs : List Vcpu} {j : Nat} (h : j < xs.length) : (refillL xs).getD j zVcpu = refill1 (xs.getD j zVcpu) := by
  unfold refillL
  rw [List.getD_eq_getElem?_getD]
  simp [h, gR]
theorem more_eq {v : Vcpu} (hc : -100 ≤ v.credit ∧ v.credit ≤ 200) (hw : 1 ≤ v.weight ∧ v.weight ≤ 10) : more v = v.credit + 10 * v.weight := by
  unfold more
  rw [wrap_in (n := 10 * v.weight) (by unfold InI; omega), wrap_in (by unfold InI; omega)]
theorem refill1_id (v : Vcpu) : (refill1 v).id = v.id ∧ (refill1 v).weight = v.weight ∧ (refill1 v).blocked = v.blocked ∧ (refill1 v).event = v.event := by
  unfold refill1; split <;> exact ⟨rfl, rfl, rfl, rfl⟩
theorem are_of {xs ys : List Vcpu} (h : AreVcpus xs) (hl : ys.length = xs.length) (hj : ∀ j, j < xs.length → (ys.getD j zVcpu).id = (xs.getD j zVcpu).id ∧ (ys.getD j zVcpu).weight = (xs.getD j zVcpu).weight ∧
    (-100 ≤ (ys.getD j zVcpu).credit ∧ (ys.getD j zVcpu).credit ≤ 200) ∧ ((ys.getD j zVcpu).blocked = false ∨ (ys.getD j zVcpu).event = false)) : AreVcpus ys := by
  refine ⟨fun j hj' => ?_, by rw [hl]; exact h.2⟩
  rw [hl] at hj'
  obtain ⟨g1, g2⟩ := h.1 j hj'
  obtain ⟨e1, e2, e3, e4⟩ := hj j hj'
  refine ⟨⟨by rw [e1]; exact g1.1, by rw [e2]; exact g1.2.1, e3, e4⟩, fun h0 => ?_⟩
  rw [e1, (hj (j - 1) (by omega)).1]
  exact g2 h0
/-- What a tick leaves as it was. -/
def Same (xs ys : List Vcpu) : Prop := ys.length = xs.length ∧ ∀ j, j < xs.length → (ys.getD j zVcpu).id = (xs.getD j zVcpu).id ∧ (ys.getD j zVcpu).blocked = (xs.getD j zVcpu).blocked
theorem Same.refl (xs : List Vcpu) : Same xs xs := ⟨rfl, fun _ _ => ⟨rfl, rfl⟩⟩
theorem Same.trans {a b c : List Vcpu} (h : Same a b) (k : Same b c) : Same a c := ⟨k.1.trans h.1, fun j hj => ⟨(k.2 j (by rw [h.1]; exact hj)).1.trans (h.2 j hj).1, (k.2 j (by rw [h.1]; exact hj)).2.trans (h.2 j hj).2⟩⟩
theorem base_same (xs : List Vcpu) : Same xs (baseL xs) := by
  refine ⟨baseL_len xs, fun j hj => ?_⟩
  unfold baseL; split
  · rw [refillL_get hj]; exact ⟨(refill1_id _).1, (refill1_id _).2.2.1⟩
  · exact ⟨rfl, rfl⟩
theorem are_refill {xs : List Vcpu} (h : AreVcpus xs) : AreVcpus (refillL xs) := by
  refine are_of h (refillL_len xs) (fun j hj => ?_)
  rw [refillL_get hj]
  obtain ⟨e1, e2, e3, e4⟩ := refill1_id (xs.getD j zVcpu)
  obtain ⟨g1, g2, g3, g4⟩ := (h.1 j hj).1
  refine ⟨e1, e2, ?_, by rw [e3, e4]; exact g4⟩
  unfold refill1
  split
  · have := more_eq g3 g2
    dsimp only
    split <;> omega
  · exact g3
theorem are_base {xs : List Vcpu} (h : AreVcpus xs) : AreVcpus (baseL xs) := by
  unfold baseL; split
  · exact are_refill h
  · exact h
theorem set_get {xs : List Vcpu} {k j : Nat} {v : Vcpu} (hk : k < xs.length) : (xs.set k v).getD j zVcpu = if k = j then v else xs.getD j zVcpu := by
  rw [List.getD_eq_getElem?_getD, List.getD_eq_getElem?_getD, List.getElem?_set]
  split
  · rename_i e; subst e; simp [hk]
  · rfl
theorem pickTo_runs {xs : List Vcpu} : ∀ {n : Nat}, 0 ≤ pickTo xs n ↔ ∃ j, j < n ∧ (xs.getD j zVcpu).blocked = false
  | 0 => ⟨fun h => by simp [pickTo] at h, fun ⟨j, hj, _⟩ => by omega⟩
  | n + 1 => by
    have ih := pickTo_runs (xs := xs) (n := n)
    constructor
    · intro h
      by_cases hp : Picks1 xs n (pickTo xs n)
      · exact ⟨n, by omega, hp.1⟩
      · rw [pickTo, if_neg hp] at h
        obtain ⟨j, hj, hb⟩ := ih.1 h
        exact ⟨j, by omega, hb⟩
    · rintro ⟨j, hj, hb⟩
      rw [pickTo]
      split
      · omega
      · rename_i hp
        rcases Nat.lt_succ_iff_lt_or_eq.1 hj with h' | h'
        · exact ih.2 ⟨j, h', hb⟩
        · subst h'
          exact Int.not_lt.1 (fun hl => hp ⟨hb, .inl hl⟩)
theorem Same.runs {xs ys : List Vcpu} (h : Same xs ys) : Runs ys ↔ Runs xs := by
  unfold Runs
  rw [pickTo_runs, pickTo_runs]
  constructor
  · rintro ⟨j, hj, hb⟩; rw [h.1] at hj; exact ⟨j, hj, by rw [← (h.2 j hj).2]; exact hb⟩
  · rintro ⟨j, hj, hb⟩; exact ⟨j, by rw [h.1]; exact hj, by rw [(h.2 j hj).2]; exact hb⟩
theorem tickI_runs {xs : List Vcpu} (h : Runs xs) : 0 ≤ tickI xs := by
  have := (base_same xs).runs.2 h
  unfold Runs at this
  rw [baseL_len] at this
  exact this
theorem tickI_not {xs : List Vcpu} (h : ¬ Runs xs) : tickI xs < 0 := by
  refine Int.not_le.1 (fun h0 => h ?_)
  refine (base_same xs).runs.1 ?_
  unfold Runs
  rw [baseL_len]
  exact h0
theorem tick_same {xs : List Vcpu} (h : Runs xs) : Same xs (tickL xs) := by
  have h0 := tickI_runs h
  have h1 := (tickI_lt xs).2
  refine (base_same xs).trans ⟨by unfold tickL; rw [List.length_set], fun j hj => ?_⟩
  unfold tickL
  rw [set_get (by rw [baseL_len]; omega)]
  split
  · rename_i e; subst e; exact ⟨rfl, rfl⟩
  · exact ⟨rfl, rfl⟩
theorem tick_are {xs : List Vcpu} (hA : AreVcpus xs) (h : Runs xs) : AreVcpus (tickL xs) := by
  have h0 := tickI_runs h
  have h1 := (tickI_lt xs).2
  have hb := are_base hA
  refine are_of hb (by unfold tickL; rw [List.length_set]) (fun j hj => ?_)
  unfold tickL
  rw [set_get (by rw [baseL_len]; omega)]
  obtain ⟨g1, g2, g3, g4⟩ := (hb.1 j hj).1
  split
  · rename_i e
    rw [e]
    refine ⟨rfl, rfl, ?_, .inr rfl⟩
    unfold spend
    dsimp only
    split <;> omega
  · exact ⟨rfl, rfl, g3, g4⟩
theorem base_blocked {xs : List Vcpu} (h : ¬ Runs xs) : baseL xs = xs := by
  unfold baseL
  split
  · apply List.ext_getElem?
    intro j
    by_cases hj : j < xs.length
    · have hb : (xs.getD j zVcpu).blocked = true := by
        cases hb : (xs.getD j zVcpu).blocked with
        | true => rfl
        | false => exact absurd (pickTo_runs.2 ⟨j, hj, hb⟩) h
      have := refillL_get hj
      unfold refill1 at this
      rw [if_neg (by rw [hb]; decide)] at this
      rw [List.getElem?_eq_getElem (by rw [refillL_len]; exact hj), List.getElem?_eq_getElem hj]
      simpa [List.getD_eq_getElem?_getD, hj, refillL_len] using this
    · rw [List.getElem?_eq_none (by rw [refillL_len]; omega), List.getElem?_eq_none (by omega)]
  · rfl
theorem tick_getId {xs : List Vcpu} (h : Runs xs) : ((tickL xs).getD (tickI xs).toNat zVcpu).id = tickId xs := by
  have h0 := tickI_runs h
  have h1 := (tickI_lt xs).2
  rw [((tick_same h).2 (tickI xs).toNat (by omega)).1]; rfl
theorem tick_of {xs ys : List Vcpu} (h : baseL xs = ys) : tickL xs = ys.set (pickTo ys ys.length).toNat (spend (ys.getD (pickTo ys ys.length).toNat zVcpu)) ∧ tickI xs = pickTo ys ys.length := by
  have e : xs.length = ys.length := by rw [← h, baseL_len]
  unfold tickL tickI
  rw [h, e]
  exact ⟨rfl, rfl⟩
theorem tick_of_id {xs ys : List Vcpu} (h : baseL xs = ys) (hR : Runs xs) : ((ys.set (pickTo ys ys.length).toNat (spend (ys.getD (pickTo ys ys.length).toNat zVcpu))).getD (pickTo ys ys.length).toNat zVcpu).id = tickId xs := by
  rw [← (tick_of h).1, ← (tick_of h).2]; exact tick_getId hR
theorem base_runs {xs ys : List Vcpu} (h : baseL xs = ys) (hR : Runs xs) : 0 ≤ pickTo ys ys.length := by rw [← (tick_of h).2]; exact tickI_runs hR
theorem base_not {xs ys : List Vcpu} (h : baseL xs = ys) (hR : ¬ Runs xs) : ys = xs ∧ pickTo ys ys.length < 0 := by
  refine ⟨by rw [← h]; exact base_blocked hR, ?_⟩
  rw [← (tick_of h).2]; exact tickI_not hR
def GoodTick (xs : List Vcpu) : Prop := AreVcpus xs ∧ Runs xs
instance (xs : List Vcpu) : Decidable (GoodTick xs) := by unfold GoodTick; infer_instance

/-! ### Ticks one after the other -/
def tickN (xs : List Vcpu) : Nat → List Vcpu
  | 0 => xs
  | k + 1 => tickL (tickN xs k)
def picksTo (xs : List Vcpu) : Nat → List Int
  | 0 => []
  | k + 1 => picksTo xs k ++ [tickI (tickN xs k)]
def idsTo (xs : List Vcpu) : Nat → List Int
  | 0 => []
  | k + 1 => idsTo xs k ++ [tickId (tickN xs k)]
theorem picksTo_len (xs : List Vcpu) : ∀ k, (picksTo xs k).length = k
  | 0 => rfl
  | k + 1 => by rw [picksTo, List.length_append, picksTo_len xs k]; rfl
theorem idsTo_len (xs : List Vcpu) : ∀ k, (idsTo xs k).length = k
  | 0 => rfl
  | k + 1 => by rw [idsTo, List.length_append, idsTo_len xs k]; rfl
theorem tickN_good {xs : List Vcpu} (hA : AreVcpus xs) (h : Runs xs) : ∀ k, Same xs (tickN xs k) ∧ AreVcpus (tickN xs k) ∧ Runs (tickN xs k)
  | 0 => ⟨.refl _, hA, h⟩
  | k + 1 => by
    obtain ⟨h1, h2, h3⟩ := tickN_good hA h k
    exact ⟨h1.trans (tick_same h3), tick_are h2 h3, (tick_same h3).runs.2 h3⟩
theorem ids_picks {xs : List Vcpu} (hA : AreVcpus xs) (h : Runs xs) : ∀ n, ∀ k, k < n → 0 ≤ (picksTo xs n).getD k 0 ∧ (picksTo xs n).getD k 0 < xs.length ∧ (idsTo xs n).getD k 0 = (xs.getD ((picksTo xs n).getD k 0).toNat zVcpu).id
  | 0, k, hk => by omega
  | n + 1, k, hk => by
    obtain ⟨h1, h2, h3⟩ := tickN_good hA h n
    have l1 := picksTo_len xs n; have l2 := idsTo_len xs n
    rcases Nat.lt_succ_iff_lt_or_eq.1 hk with h' | h'
    · have := ids_picks hA h n k h'
      rw [picksTo, idsTo]
      simpa [List.getD_eq_getElem?_getD, List.getElem?_append_left (show k < (picksTo xs n).length by omega), List.getElem?_append_left (show k < (idsTo xs n).length by omega)] using this
    · subst h'
      have g0 := tickI_runs h3
      have g1 := (tickI_lt (tickN xs k)).2
      rw [h1.1] at g1
      rw [picksTo, idsTo]
      have e1 : (picksTo xs k ++ [tickI (tickN xs k)]).getD k 0 = tickI (tickN xs k) := by rw [List.getD_eq_getElem?_getD, List.getElem?_append_right (by omega), l1]; simp
      have e2 : (idsTo xs k ++ [tickId (tickN xs k)]).getD k 0 = tickId (tickN xs k) := by rw [List.getD_eq_getElem?_getD, List.getElem?_append_right (by omega), l2]; simp
      rw [e1, e2]
      exact ⟨g0, g1, (h1.2 _ (by omega)).1⟩
def GoodRun (xs : List Vcpu) (n : Int) : Prop := AreVcpus xs ∧ (0 ≤ n ∧ n ≤ 200) ∧ (n ≤ 0 ∨ Runs xs)
instance (xs : List Vcpu) (n : Int) : Decidable (GoodRun xs n) := by unfold GoodRun; infer_instance
theorem GoodRun.runs {xs : List Vcpu} {n : Int} (h : GoodRun xs n) (h0 : 0 < n) : Runs xs := h.2.2.resolve_left (by omega)
def tkN (n : Int) : Nat := n.toNat
theorem GoodRun.at {xs : List Vcpu} {n : Int} (h : GoodRun xs n) (h0 : 0 < n) (k : Nat) : AreVcpus (tickN xs k) ∧ Runs (tickN xs k) ∧ (tickN xs k).length = xs.length :=
  ⟨(tickN_good h.1 (h.runs h0) k).2.1, (tickN_good h.1 (h.runs h0) k).2.2, (tickN_good h.1 (h.runs h0) k).1.1⟩
theorem ids_take {xs : List Vcpu} {N i : Nat} (h : i < N) : (idsTo xs N).take i ++ [(idsTo xs N).getD i 0] = (idsTo xs N).take (i + 1) := by
  rw [List.take_add_one, List.getD_eq_getElem?_getD, List.getElem?_eq_getElem (by rw [idsTo_len]; exact h)]; rfl
theorem ids_all {xs : List Vcpu} {N : Nat} : (idsTo xs N).take N = idsTo xs N := List.take_of_length_le (by rw [idsTo_len]; exact Nat.le_refl _)

end Go.Hv
