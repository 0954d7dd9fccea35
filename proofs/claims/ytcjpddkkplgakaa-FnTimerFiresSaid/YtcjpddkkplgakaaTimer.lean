/-
  Timers: the data and the plain functions of the chapter. No condition.
-/
import Derived.Test.YtcjpddkkplgakaaFwL
namespace Go.Hv
open Go Go.Fw
set_option linter.unusedSimpArgs false
set_option linter.unusedVariables false

structure Tmr where
  armed : Bool
  nxt : Int
  every : Int
  irq : Int
def eTimer (c : Tmr) : List AV := [.bool c.armed, .int .i64 c.nxt, .int .i64 c.every, .int .i64 c.irq]
def okTimer (c : Tmr) : Prop := True ∧ InI c.nxt ∧ InI c.every ∧ InI c.irq ∧ True
abbrev okTmr := okTimer
def zTimer : Tmr := ⟨false, 0, 0, 0⟩
theorem cl_eTimer : ∀ x, ∀ c ∈ eTimer x, Closed c := fun _ => all_cons' (closed_bool _) (all_cons' (closed_int _ _) (all_cons' (closed_int _ _) (all_cons' (closed_int _ _) all_nil')))
def mkI (k : Int) (j : Nat) : Int := k + 1 * j
def mkT (k : Int) (j : Nat) : Tmr := ⟨decide ((k + 4 * j) % 3 = 0), k + 4 * j + 1, k + 4 * j + 1 + 1, k + 4 * j + 1 + 1 + 1⟩
def mkL (k : Int) (n : Nat) : List (List AV) := ((List.range n).map (mkI k)).map eInt

def IsTimer (t : Tmr) : Prop := (0 ≤ t.nxt ∧ t.nxt ≤ 100000) ∧ (0 ≤ t.every ∧ t.every ≤ 100000) ∧ (0 ≤ t.irq ∧ t.irq ≤ 7) ∧ (t.armed = true ∨ t.nxt = 0)
instance (t : Tmr) : Decidable (IsTimer t) := by unfold IsTimer; infer_instance
def BadAt (xs : List Tmr) (j : Nat) : Bool := !decide (IsTimer (xs.getD j zTimer))
def AreTimers (xs : List Tmr) : Prop := xs.length ≤ 8 ∧ first (BadAt xs) xs.length < 0
instance (xs : List Tmr) : Decidable (AreTimers xs) := by unfold AreTimers; infer_instance
theorem areTimers_of {xs : List Tmr} (h : ∀ j, j < xs.length → BadAt xs j = false) : first (BadAt xs) xs.length < 0 := by rw [first_none h]; omega
theorem areTimers_not {xs : List Tmr} {i : Nat} (hi : i < xs.length) (h : ∀ j, j < i → BadAt xs j = false) (h1 : BadAt xs i = true) : ¬ AreTimers xs := by
  rintro ⟨_, h2⟩
  rw [first_at hi h h1] at h2
  omega
theorem AreTimers.at {xs : List Tmr} (h : AreTimers xs) {j : Nat} (hj : j < xs.length) : IsTimer (xs.getD j zTimer) := by
  rcases first_spec (BadAt xs) xs.length with ⟨_, h2⟩ | ⟨i, h1, h2, _, _⟩
  · have := h2 j hj
    simpa [BadAt] using this
  · have := h.2
    omega

/-! ### The one that fires next -/
def Sooner (xs : List Tmr) (i : Nat) (m : Int) : Prop := (xs.getD i zTimer).armed = true ∧ (m < 0 ∨ (xs.getD i zTimer).nxt < (xs.getD m.toNat zTimer).nxt)
instance (xs : List Tmr) (i : Nat) (m : Int) : Decidable (Sooner xs i m) := by unfold Sooner; infer_instance
def fireTo (xs : List Tmr) : Nat → Int
  | 0 => -1
  | i + 1 => if Sooner xs i (fireTo xs i) then (i : Int) else fireTo xs i
theorem fireTo_lt (xs : List Tmr) : ∀ i : Nat, -1 ≤ fireTo xs i ∧ fireTo xs i < i
  | 0 => ⟨by simp [fireTo], by simp [fireTo]⟩
  | i + 1 => by
    have := fireTo_lt xs i
    unfold fireTo
    split <;> omega
theorem fireTo_armed (xs : List Tmr) : ∀ i : Nat, 0 ≤ fireTo xs i → (xs.getD (fireTo xs i).toNat zTimer).armed = true
  | 0, h => by simp [fireTo] at h
  | i + 1, h => by
    have ih := fireTo_armed xs i
    rw [fireTo] at h ⊢
    split
    · rename_i q; exact q.1
    · rename_i q; rw [if_neg q] at h; exact ih h
theorem fireTo_least (xs : List Tmr) : ∀ i j : Nat, j < i → (xs.getD j zTimer).armed = true → 0 ≤ fireTo xs i ∧ (xs.getD (fireTo xs i).toNat zTimer).nxt ≤ (xs.getD j zTimer).nxt
  | 0, j, h, _ => by omega
  | i + 1, j, h, ha => by
    have ih := fireTo_least xs i
    rw [fireTo]
    rcases Nat.lt_succ_iff_lt_or_eq.1 h with h' | h'
    · obtain ⟨h1, h2⟩ := ih j h' ha
      split
      · rename_i q
        rcases q.2 with q2 | q2
        · omega
        · simp only [Int.toNat_natCast]; omega
      · exact ⟨h1, h2⟩
    · subst h'
      split
      · simp
      · rename_i q
        have : ¬ (fireTo xs j < 0 ∨ (xs.getD j zTimer).nxt < (xs.getD (fireTo xs j).toNat zTimer).nxt) := fun q1 => q ⟨ha, q1⟩
        omega
def fireI (xs : List Tmr) : Int := fireTo xs xs.length
theorem fireI_armed {xs : List Tmr} (h : 0 ≤ fireI xs) : (xs.getD (fireI xs).toNat zTimer).armed = true := fireTo_armed xs xs.length h
def Fires (xs : List Tmr) (t : Int) : Prop := 0 ≤ fireI xs ∧ (xs.getD (fireI xs).toNat zTimer).nxt ≤ t
instance (xs : List Tmr) (t : Int) : Decidable (Fires xs t) := by unfold Fires; infer_instance

/-! ### How often one fires, and what becomes of it -/
def fires1 (v : Tmr) (t : Int) : Int := if v.armed = false ∨ t < v.nxt then 0 else if v.every = 0 then 1 else (t - v.nxt) / v.every + 1
def fire1 (v : Tmr) : Tmr := if v.every = 0 ∨ 100000 < v.nxt + v.every then ⟨false, 0, v.every, v.irq⟩ else ⟨v.armed, v.nxt + v.every, v.every, v.irq⟩
theorem fire1_is {v : Tmr} (h : IsTimer v) (ha : v.armed = true) : IsTimer (fire1 v) := by
  obtain ⟨h1, h2, h3, h4⟩ := h
  unfold fire1
  split
  · exact ⟨⟨Int.le_refl _, by show (0 : Int) ≤ 100000; decide⟩, h2, h3, .inr rfl⟩
  · rename_i q
    exact ⟨⟨by dsimp only; omega, by dsimp only; omega⟩, h2, h3, .inl ha⟩
theorem fires1_nn {v : Tmr} (h : IsTimer v) (t : Int) : 0 ≤ fires1 v t := by
  unfold fires1
  split
  · exact Int.le_refl _
  · split
    · decide
    · rename_i q1 q2
      have := Int.ediv_nonneg (a := t - v.nxt) (b := v.every) (by omega) h.2.1.1
      omega
theorem fires1_le {v : Tmr} (h : IsTimer v) {t : Int} (ht : t ≤ 100000) : fires1 v t ≤ 100001 := by
  unfold fires1
  split
  · decide
  · split
    · decide
    · rename_i q1 q2
      have h1 := h.2.1.1
      have h2 := h.1.1
      have := Int.ediv_le_self (a := t - v.nxt) v.every (by omega)
      omega
theorem fires1_step {v : Tmr} (h : IsTimer v) (ha : v.armed = true) {t : Int} (ht : v.nxt ≤ t) (h5 : t ≤ 100000) : fires1 (fire1 v) t = fires1 v t - 1 := by
  obtain ⟨h1, h2, h3, h4⟩ := h
  have e0 : ¬ (v.armed = false ∨ t < v.nxt) := by rw [ha]; simp; omega
  by_cases he : v.every = 0
  · unfold fire1
    rw [if_pos (.inl he)]
    unfold fires1
    rw [if_pos (.inl rfl), if_neg e0, if_pos he]; rfl
  · by_cases hb : 100000 < v.nxt + v.every
    · unfold fire1
      rw [if_pos (.inr hb)]
      unfold fires1
      rw [if_pos (.inl rfl), if_neg e0, if_neg he, Int.ediv_eq_zero_of_lt (by omega) (by omega)]; rfl
    · have e1 : fires1 v t = (t - v.nxt) / v.every + 1 := by unfold fires1; rw [if_neg e0, if_neg he]
      rw [e1]
      unfold fire1
      rw [if_neg (by omega)]
      by_cases hl : t < v.nxt + v.every
      · have e2 : fires1 ⟨v.armed, v.nxt + v.every, v.every, v.irq⟩ t = 0 := by unfold fires1; exact if_pos (.inr hl)
        rw [e2, Int.ediv_eq_zero_of_lt (by omega) (by omega)]; rfl
      · have e2 : fires1 ⟨v.armed, v.nxt + v.every, v.every, v.irq⟩ t = (t - (v.nxt + v.every)) / v.every + 1 := by
          unfold fires1
          dsimp only
          rw [ha, if_neg (by simp; omega), if_neg he]
        have e3 : t - v.nxt = (t - (v.nxt + v.every)) + 1 * v.every := by omega
        rw [e2, e3, Int.add_mul_ediv_right _ _ he]; omega
def cntTo (xs : List Tmr) (t : Int) : Nat → Int
  | 0 => 0
  | i + 1 => cntTo xs t i + fires1 (xs.getD i zTimer) t
theorem cntTo_b {xs : List Tmr} (h : AreTimers xs) {t : Int} (ht : t ≤ 100000) : ∀ i, i ≤ xs.length → 0 ≤ cntTo xs t i ∧ cntTo xs t i ≤ 100001 * i
  | 0, _ => ⟨Int.le_refl _, by simp [cntTo]⟩
  | i + 1, hi => by
    have := cntTo_b h ht i (by omega)
    have h1 := fires1_nn (h.at (show i < xs.length by omega)) t
    have h2 := fires1_le (h.at (show i < xs.length by omega)) ht
    rw [cntTo]; omega
def cnt (xs : List Tmr) (t : Int) : Int := cntTo xs t xs.length
theorem setT_get {xs : List Tmr} {k j : Nat} {v : Tmr} (hk : k < xs.length) : (xs.set k v).getD j zTimer = if k = j then v else xs.getD j zTimer := by
  rw [List.getD_eq_getElem?_getD, List.getD_eq_getElem?_getD, List.getElem?_set]
  split
  · rename_i e; subst e; simp [hk]
  · rfl
theorem cntTo_set {xs : List Tmr} {k : Nat} (v : Tmr) (t : Int) (hk : k < xs.length) : ∀ i, cntTo (xs.set k v) t i = cntTo xs t i + (if k < i then fires1 v t - fires1 (xs.getD k zTimer) t else 0)
  | 0 => by simp [cntTo]
  | i + 1 => by
    rw [cntTo, cntTo, cntTo_set v t hk i, setT_get hk]
    (repeat' split) <;> (try subst_vars) <;> omega
def stepT (xs : List Tmr) : List Tmr := xs.set (fireI xs).toNat (fire1 (xs.getD (fireI xs).toNat zTimer))
theorem stepT_len (xs : List Tmr) : (stepT xs).length = xs.length := by unfold stepT; rw [List.length_set]
theorem fireI_lt (xs : List Tmr) : -1 ≤ fireI xs ∧ fireI xs < xs.length := fireTo_lt xs xs.length
theorem stepT_are {xs : List Tmr} {t : Int} (h : AreTimers xs) (hf : Fires xs t) : AreTimers (stepT xs) := by
  refine ⟨by rw [stepT_len]; exact h.1, areTimers_of (fun j hj => ?_)⟩
  rw [stepT_len] at hj
  have h0 := hf.1
  have h1 := (fireI_lt xs).2
  unfold BadAt stepT
  rw [setT_get (by omega)]
  split
  · rw [decide_eq_true (fire1_is (h.at (by omega)) (fireI_armed h0))]; rfl
  · rw [decide_eq_true (h.at hj)]; rfl
theorem stepT_cnt {xs : List Tmr} {t : Int} (h : AreTimers xs) (hf : Fires xs t) (ht : t ≤ 100000) : cnt (stepT xs) t = cnt xs t - 1 := by
  have h0 := hf.1
  have h1 := (fireI_lt xs).2
  have hk : (fireI xs).toNat < xs.length := by omega
  unfold cnt
  rw [stepT_len]
  unfold stepT
  rw [cntTo_set _ t hk, if_pos hk, fires1_step (h.at hk) (fireI_armed h0) hf.2 ht]; omega
theorem cnt_zero {xs : List Tmr} {t : Int} (hf : ¬ Fires xs t) : cnt xs t = 0 := by
  have : ∀ i, i ≤ xs.length → cntTo xs t i = 0 := by
    intro i
    induction i with
    | zero => intro _; rfl
    | succ i ih =>
      intro hi
      rw [cntTo, ih (by omega)]
      unfold fires1
      rw [if_pos]; · rfl
      cases ha : (xs.getD i zTimer).armed with
      | false => exact .inl rfl
      | true =>
        right
        obtain ⟨g1, g2⟩ := fireTo_least xs xs.length i (by omega) ha
        exact Int.not_le.1 (fun hle => hf ⟨g1, Int.le_trans g2 hle⟩)
  exact this _ (Nat.le_refl _)
theorem cnt_nn {xs : List Tmr} (h : AreTimers xs) {t : Int} (ht : t ≤ 100000) : 0 ≤ cnt xs t ∧ cnt xs t ≤ 800008 := by
  have := cntTo_b h ht xs.length (Nat.le_refl _)
  have := h.1
  unfold cnt; omega
theorem cnt_pos {xs : List Tmr} {t : Int} (h : AreTimers xs) (hf : Fires xs t) (ht : t ≤ 100000) : 1 ≤ cnt xs t := by
  have h1 := stepT_cnt h hf ht
  have h2 := (cnt_nn (stepT_are h hf) ht).1
  omega
def stN (xs : List Tmr) : Nat → List Tmr
  | 0 => xs
  | k + 1 => stepT (stN xs k)
def fiN (xs : List Tmr) : Nat → List Int
  | 0 => []
  | k + 1 => fiN xs k ++ [fireI (stN xs k)]
theorem stN_len (xs : List Tmr) : ∀ k, (stN xs k).length = xs.length
  | 0 => rfl
  | k + 1 => by rw [stN, stepT_len, stN_len xs k]
theorem fiN_len (xs : List Tmr) : ∀ k, (fiN xs k).length = k
  | 0 => rfl
  | k + 1 => by rw [fiN, List.length_append, fiN_len xs k]; rfl
/-- k steps have been made, each of them due. -/
def Ran (xs : List Tmr) (t : Int) (k : Nat) : Prop := AreTimers (stN xs k) ∧ cnt (stN xs k) t = cnt xs t - k
theorem Ran.zero {xs : List Tmr} (h : AreTimers xs) (t : Int) : Ran xs t 0 := ⟨h, by simp [stN]⟩
theorem Ran.succ {xs : List Tmr} {t : Int} {k : Nat} (h : Ran xs t k) (ht : t ≤ 100000) (hf : Fires (stN xs k) t) : Ran xs t (k + 1) :=
  ⟨stepT_are h.1 hf, by rw [stN, stepT_cnt h.1 hf ht, h.2]; omega⟩
theorem Ran.more {xs : List Tmr} {t : Int} {k : Nat} (h : Ran xs t k) (ht : t ≤ 100000) (hf : Fires (stN xs k) t) : (k : Int) < cnt xs t := by
  have := cnt_pos h.1 hf ht
  have := h.2
  omega
theorem Ran.done {xs : List Tmr} {t : Int} {k : Nat} (h : Ran xs t k) (hf : ¬ Fires (stN xs k) t) : (k : Int) = cnt xs t := by
  have := cnt_zero hf
  have := h.2
  omega
def nF (xs : List Tmr) (t : Int) : Nat := (cnt xs t).toNat
theorem fire1_off {v : Tmr} (h : v.every = 0 ∨ 100000 < v.nxt + v.every) : fire1 v = ⟨false, 0, v.every, v.irq⟩ := if_pos h
theorem fire1_on {v : Tmr} (h1 : ¬ v.every = 0) (h2 : ¬ 100000 < v.nxt + v.every) : fire1 v = ⟨v.armed, v.nxt + v.every, v.every, v.irq⟩ := if_neg (fun h => h.elim h1 h2)
theorem step_off {xs : List Tmr} (h : (xs.getD (fireI xs).toNat zTimer).every = 0 ∨ 100000 < (xs.getD (fireI xs).toNat zTimer).nxt + (xs.getD (fireI xs).toNat zTimer).every) : xs.set (fireI xs).toNat ⟨false, 0, (xs.getD (fireI xs).toNat zTimer).every, (xs.getD (fireI xs).toNat zTimer).irq⟩ = stepT xs := by
  rw [stepT, fire1_off h]
theorem step_on {xs : List Tmr} (h1 : ¬ (xs.getD (fireI xs).toNat zTimer).every = 0) (h2 : ¬ 100000 < (xs.getD (fireI xs).toNat zTimer).nxt + (xs.getD (fireI xs).toNat zTimer).every) :
    xs.set (fireI xs).toNat ⟨(xs.getD (fireI xs).toNat zTimer).armed, (xs.getD (fireI xs).toNat zTimer).nxt + (xs.getD (fireI xs).toNat zTimer).every, (xs.getD (fireI xs).toNat zTimer).every, (xs.getD (fireI xs).toNat zTimer).irq⟩ = stepT xs := by
  rw [stepT, fire1_on h1 h2]
theorem seg_getD {α : Type} {f : α → List AV} {l : List α} {i off : Nat} {z : α} {cs row : List AV} (h : i < l.length) (hr : segSet (f (l.getD i z)) off cs = row) : segSet (f (l[i]'h)) off cs = row := by
  rw [List.getD_eq_getElem?_getD, List.getElem?_eq_getElem h] at hr; exact hr
theorem rowS {α : Type} {f : α → List AV} {l : List α} {i : Nat} {v : α} (h : i < l.length) : ((l.set i v).map f)[i]? = some (f v) := by
  rw [List.getElem?_map, List.getElem?_set_self h]; rfl
theorem fire_sum {xs : List Tmr} (h : AreTimers xs) (h0 : 0 ≤ fireI xs) : 0 ≤ (xs.getD (fireI xs).toNat zTimer).nxt ∧ (xs.getD (fireI xs).toNat zTimer).nxt ≤ 100000 ∧ 0 ≤ (xs.getD (fireI xs).toNat zTimer).every ∧ (xs.getD (fireI xs).toNat zTimer).every ≤ 100000 := by
  have h1 := (fireI_lt xs).2
  have := h.at (show (fireI xs).toNat < xs.length by omega)
  exact ⟨this.1.1, this.1.2, this.2.1.1, this.2.1.2⟩
def GoodFire (xs : List Tmr) (t : Int) : Prop := AreTimers xs ∧ (0 ≤ t ∧ t ≤ 100000) ∧ cnt xs t ≤ 200
instance (xs : List Tmr) (t : Int) : Decidable (GoodFire xs t) := by unfold GoodFire; infer_instance
def fireL (xs : List Tmr) (t : Int) : List Tmr := stN xs (nF xs t)
def firedL (xs : List Tmr) (t : Int) : List Int := fiN xs (nF xs t)

end Go.Hv
