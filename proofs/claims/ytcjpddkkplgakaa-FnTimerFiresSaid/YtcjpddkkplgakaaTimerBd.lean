/-
  Timers: arming, shifting, counting. No condition.
-/
import Derived.Test.YtcjpddkkplgakaaFwK
import Derived.Test.YtcjpddkkplgakaaFwN
import Derived.Test.YtcjpddkkplgakaaTimer
namespace Go.Hv
open Go Go.Fw
set_option linter.unusedSimpArgs false
set_option linter.unusedVariables false

def pickT (c : Prop) [Decidable c] (p : List Tmr) : List Tmr := if c then p else []
def pickL (c : Prop) [Decidable c] (p : List Int) : List Int := if c then p else []
def pickI (c : Prop) [Decidable c] (n : Int) : Int := if c then n else 0
theorem pickT_y {c : Prop} [Decidable c] {p : List Tmr} (h : c) : pickT c p = p := if_pos h
theorem pickT_n {c : Prop} [Decidable c] {p : List Tmr} (h : ¬ c) : pickT c p = [] := if_neg h
theorem pickL_y {c : Prop} [Decidable c] {p : List Int} (h : c) : pickL c p = p := if_pos h
theorem pickL_n {c : Prop} [Decidable c] {p : List Int} (h : ¬ c) : pickL c p = [] := if_neg h
theorem pickI_y {c : Prop} [Decidable c] {n : Int} (h : c) : pickI c n = n := if_pos h
theorem pickI_n {c : Prop} [Decidable c] {n : Int} (h : ¬ c) : pickI c n = 0 := if_neg h
theorem pickT_small {c : Prop} [Decidable c] {p : List Tmr} (h : c → p.length ≤ 1048576) : (pickT c p).length ≤ 1048576 := by
  unfold pickT; split
  · exact h (by assumption)
  · exact Nat.zero_le _
theorem pickL_small {c : Prop} [Decidable c] {p : List Int} (h : c → p.length ≤ 1048576) : (pickL c p).length ≤ 1048576 := by
  unfold pickL; split
  · exact h (by assumption)
  · exact Nat.zero_le _

theorem are_iff {xs : List Tmr} : AreTimers xs ↔ xs.length ≤ 8 ∧ ∀ j, j < xs.length → IsTimer (xs.getD j zTimer) :=
  ⟨fun h => ⟨h.1, fun j hj => h.at hj⟩, fun h => ⟨h.1, areTimers_of (fun j hj => by unfold BadAt; rw [decide_eq_true (h.2 j hj)]; rfl)⟩⟩
theorem are_set {xs : List Tmr} {i : Nat} {v : Tmr} (h : AreTimers xs) (hi : i < xs.length) : AreTimers (xs.set i v) ↔ IsTimer v := by
  rw [are_iff, List.length_set]
  constructor
  · rintro ⟨_, q⟩
    have := q i hi
    rwa [setT_get hi, if_pos rfl] at this
  · refine fun q => ⟨h.1, fun j hj => ?_⟩
    rw [setT_get hi]
    split
    · exact q
    · exact h.at hj

/-! ### Arming -/
def armL (xs : List Tmr) (tm nx ev : Int) : List Tmr := xs.set tm.toNat ⟨true, nx, ev, (xs.getD tm.toNat zTimer).irq⟩
def disL (xs : List Tmr) (tm : Int) : List Tmr := xs.set tm.toNat ⟨false, 0, (xs.getD tm.toNat zTimer).every, (xs.getD tm.toNat zTimer).irq⟩
def HasT (xs : List Tmr) (tm : Int) : Prop := AreTimers xs ∧ (0 ≤ tm ∧ tm < xs.length)
instance (xs : List Tmr) (tm : Int) : Decidable (HasT xs tm) := by unfold HasT; infer_instance
def GoodArm (xs : List Tmr) (tm nx ev : Int) : Prop := HasT xs tm ∧ (0 ≤ nx ∧ nx ≤ 100000) ∧ (0 ≤ ev ∧ ev ≤ 100000)
instance (xs : List Tmr) (tm nx ev : Int) : Decidable (GoodArm xs tm nx ev) := by unfold GoodArm; infer_instance
theorem arm_are {xs : List Tmr} {tm nx ev : Int} (h : HasT xs tm) : AreTimers (armL xs tm nx ev) ↔ (0 ≤ nx ∧ nx ≤ 100000) ∧ (0 ≤ ev ∧ ev ≤ 100000) := by
  unfold armL
  rw [are_set h.1 (by have := h.2; omega)]
  have := h.1.at (show tm.toNat < xs.length by have := h.2; omega)
  constructor
  · rintro ⟨h1, h2, _, _⟩; exact ⟨h1, h2⟩
  · rintro ⟨h1, h2⟩; exact ⟨h1, h2, this.2.2.1, .inl rfl⟩
theorem dis_are {xs : List Tmr} {tm : Int} (h : HasT xs tm) : AreTimers (disL xs tm) := by
  unfold disL
  rw [are_set h.1 (by have := h.2; omega)]
  have := h.1.at (show tm.toNat < xs.length by have := h.2; omega)
  exact ⟨⟨Int.le_refl _, by show (0 : Int) ≤ 100000; decide⟩, this.2.1, this.2.2.1, .inr rfl⟩
theorem armL_len (xs : List Tmr) (tm nx ev : Int) : (armL xs tm nx ev).length = xs.length := List.length_set
theorem disL_len (xs : List Tmr) (tm : Int) : (disL xs tm).length = xs.length := List.length_set
def GoodNext (xs : List Tmr) : Prop := AreTimers xs ∧ 0 ≤ fireI xs
instance (xs : List Tmr) : Decidable (GoodNext xs) := by unfold GoodNext; infer_instance
def nextV (xs : List Tmr) : Int := (xs.getD (fireI xs).toNat zTimer).nxt
def GoodUp (v : Tmr) (t : Int) : Prop := IsTimer v ∧ (0 ≤ t ∧ t ≤ 100000)
instance (v : Tmr) (t : Int) : Decidable (GoodUp v t) := by unfold GoodUp; infer_instance
theorem arm_next {xs : List Tmr} {tm nx ev : Int} (h : GoodArm xs tm nx ev) : GoodNext (armL xs tm nx ev) ∧ nextV (armL xs tm nx ev) ≤ nx ∧ (fireI (armL xs tm nx ev) = tm → nextV (armL xs tm nx ev) = nx) := by
  have ht := h.1.2
  have hg : (armL xs tm nx ev).getD tm.toNat zTimer = ⟨true, nx, ev, (xs.getD tm.toNat zTimer).irq⟩ := by
    unfold armL; rw [setT_get (by omega), if_pos rfl]
  obtain ⟨h1, h2⟩ := fireTo_least (armL xs tm nx ev) (armL xs tm nx ev).length tm.toNat (by rw [armL_len]; omega) (by rw [hg])
  rw [hg] at h2
  refine ⟨⟨(arm_are h.1).2 h.2, h1⟩, h2, fun e => ?_⟩
  unfold nextV
  rw [e, hg]
theorem arm_has {xs : List Tmr} {tm nx ev : Int} (h : GoodArm xs tm nx ev) : HasT (armL xs tm nx ev) tm := ⟨(arm_are h.1).2 h.2, by rw [armL_len]; exact h.1.2⟩
theorem dis_at {xs : List Tmr} {tm : Int} (h : HasT xs tm) : GoodUp ((disL xs tm).getD tm.toNat zTimer) 100000 ∧ fires1 ((disL xs tm).getD tm.toNat zTimer) 100000 = 0 := by
  refine ⟨⟨(dis_are h).at (by rw [disL_len]; have := h.2; omega), by decide, by decide⟩, ?_⟩
  unfold disL
  rw [setT_get (by have := h.2; omega), if_pos rfl]
  exact if_pos (.inl rfl)
theorem fires1_t1 {v : Tmr} {t : Int} (h : v.armed = false) : 0 = fires1 v t := (if_pos (.inl h)).symm
theorem fires1_t2 {v : Tmr} {t : Int} (h : t < v.nxt) : 0 = fires1 v t := (if_pos (.inr h)).symm
theorem fires1_t3 {v : Tmr} {t : Int} (h : v.armed = true) (h2 : ¬ t < v.nxt) (h3 : v.every = 0) : 1 = fires1 v t := by
  rw [fires1, if_neg (by rw [h]; rintro (q | q); cases q; exact h2 q), if_pos h3]
theorem fires1_t4 {v : Tmr} {t : Int} (h : v.armed = true) (h2 : ¬ t < v.nxt) (h3 : ¬ v.every = 0) : (t - v.nxt) / v.every + 1 = fires1 v t := by
  rw [fires1, if_neg (by rw [h]; rintro (q | q); cases q; exact h2 q), if_neg h3]

/-! ### Shifting -/
def shift1 (v : Tmr) (by' : Int) : Tmr := if v.armed = true then ⟨v.armed, v.nxt + by', v.every, v.irq⟩ else v
theorem shift1_t {v : Tmr} {d : Int} (h : v.armed = true) : shift1 v d = ⟨v.armed, v.nxt + d, v.every, v.irq⟩ := if_pos h
theorem shift1_f {v : Tmr} {d : Int} (h : v.armed = false) : shift1 v d = v := if_neg (by rw [h]; decide)
def gS (xs : List Tmr) (d : Int) (j : Nat) : Tmr := shift1 (xs.getD j zTimer) d
def shiftL (xs : List Tmr) (d : Int) : List Tmr := (List.range xs.length).map (gS xs d)
theorem shiftL_len (xs : List Tmr) (d : Int) : (shiftL xs d).length = xs.length := by simp [shiftL]
theorem shiftL_get {xs : List Tmr} {d : Int} {j : Nat} (h : j < xs.length) : (shiftL xs d).getD j zTimer = shift1 (xs.getD j zTimer) d := by
  unfold shiftL
  rw [List.getD_eq_getElem?_getD]
  simp [h, gS]
def GoodShift (xs : List Tmr) (d : Int) : Prop := AreTimers xs ∧ (-100000 ≤ d ∧ d ≤ 100000) ∧ AreTimers (shiftL xs d)
instance (xs : List Tmr) (d : Int) : Decidable (GoodShift xs d) := by unfold GoodShift; infer_instance
theorem shift_back (xs : List Tmr) (d : Int) : shiftL (shiftL xs d) (-d) = xs := by
  apply List.ext_getElem?
  intro j
  by_cases hj : j < xs.length
  · have h1 : (shiftL (shiftL xs d) (-d)).getD j zTimer = xs.getD j zTimer := by
      rw [shiftL_get (by rw [shiftL_len]; exact hj), shiftL_get hj]
      generalize xs.getD j zTimer = v
      obtain ⟨a, n, e, i⟩ := v
      cases a with
      | true =>
        show Tmr.mk true (n + d + -d) e i = _
        rw [show n + d + -d = n by omega]
      | false => rfl
    rw [List.getElem?_eq_getElem (by rw [shiftL_len, shiftL_len]; exact hj), List.getElem?_eq_getElem hj]
    simpa [List.getD_eq_getElem?_getD, hj, shiftL_len] using h1
  · rw [List.getElem?_eq_none (by rw [shiftL_len, shiftL_len]; omega), List.getElem?_eq_none (by omega)]
theorem GoodShift.back {xs : List Tmr} {d : Int} (h : GoodShift xs d) : GoodShift (shiftL xs d) (-d) := ⟨h.2.2, by have := h.2.1; omega, by rw [shift_back]; exact h.1⟩
theorem shiftTo_set {xs : List Tmr} {d : Int} {i : Nat} (hi : i < xs.length) : (putTo (gS xs d) xs i).set i (gS xs d i) = putTo (gS xs d) xs (i + 1) := putTo_set _ _ hi

/-! ### Counting by interrupts -/
def irqTo (xs : List Tmr) (t : Int) (q : Nat) : Nat → Int
  | 0 => 0
  | i + 1 => if (xs.getD i zTimer).irq.toNat = q then irqTo xs t q i + fires1 (xs.getD i zTimer) t else irqTo xs t q i
def irqL (xs : List Tmr) (t : Int) (i : Nat) : List Int := (List.range 8).map (fun q => irqTo xs t q i)
theorem irqL_len (xs : List Tmr) (t : Int) (i : Nat) : (irqL xs t i).length = 8 := by simp [irqL]
theorem irqL_get {xs : List Tmr} {t : Int} {i q : Nat} (hq : q < 8) : (irqL xs t i).getD q 0 = irqTo xs t q i := by
  unfold irqL
  rw [List.getD_eq_getElem?_getD]
  simp [hq]
theorem irqL_zero (xs : List Tmr) (t : Int) : List.replicate 8 (0 : Int) = irqL xs t 0 := rfl
theorem irqTo_b {xs : List Tmr} (h : AreTimers xs) {t : Int} (ht : t ≤ 100000) (q : Nat) : ∀ i, i ≤ xs.length → 0 ≤ irqTo xs t q i ∧ irqTo xs t q i ≤ 100001 * i
  | 0, _ => ⟨Int.le_refl _, by simp [irqTo]⟩
  | i + 1, hi => by
    have := irqTo_b h ht q i (by omega)
    have h1 := fires1_nn (h.at (show i < xs.length by omega)) t
    have h2 := fires1_le (h.at (show i < xs.length by omega)) ht
    rw [irqTo]; split <;> omega
theorem irqL_step {xs : List Tmr} {t : Int} {i : Nat} (hi : (xs.getD i zTimer).irq.toNat < 8) :
    (irqL xs t i).set (xs.getD i zTimer).irq.toNat ((irqL xs t i).getD (xs.getD i zTimer).irq.toNat 0 + fires1 (xs.getD i zTimer) t) = irqL xs t (i + 1) := by
  rw [irqL_get hi]
  apply List.ext_getElem?
  intro j
  rw [List.getElem?_set]
  by_cases hj : j < 8
  · by_cases he : (xs.getD i zTimer).irq.toNat = j
    · rw [if_pos he, if_pos (by rw [irqL_len]; omega)]
      subst he
      simp only [irqL, List.getElem?_map, List.getElem?_range hj, Option.map_some, irqTo, if_true]
    · rw [if_neg he]
      simp only [irqL, List.getElem?_map, List.getElem?_range hj, Option.map_some, irqTo]
      rw [if_neg he]
  · rw [if_neg (by omega)]
    simp [irqL, hj]
def sumTo (xs : List Int) : Nat → Int
  | 0 => 0
  | i + 1 => sumTo xs i + xs.getD i 0
theorem irq_sum {xs : List Tmr} (h : AreTimers xs) {t : Int} : ∀ i, i ≤ xs.length → sumTo (irqL xs t i) 8 = cntTo xs t i
  | 0, _ => rfl
  | i + 1, hi => by
    have ih := irq_sum h (t := t) i (by omega)
    have hq := (h.at (show i < xs.length by omega)).2.2.1
    rw [cntTo, ← ih]
    simp only [sumTo, irqL_get (show 0 < 8 by decide), irqL_get (show 1 < 8 by decide), irqL_get (show 2 < 8 by decide), irqL_get (show 3 < 8 by decide), irqL_get (show 4 < 8 by decide), irqL_get (show 5 < 8 by decide), irqL_get (show 6 < 8 by decide), irqL_get (show 7 < 8 by decide), irqTo]
    generalize hk : (xs.getD i zTimer).irq.toNat = k
    have hk8 : k < 8 := by omega
    generalize fires1 (xs.getD i zTimer) t = f
    have : k = 0 ∨ k = 1 ∨ k = 2 ∨ k = 3 ∨ k = 4 ∨ k = 5 ∨ k = 6 ∨ k = 7 := by omega
    rcases this with e | e | e | e | e | e | e | e <;> subst e <;> simp <;> omega
def irqs (xs : List Tmr) (t : Int) : List Int := irqL xs t xs.length
theorem irqs_len (xs : List Tmr) (t : Int) : (irqs xs t).length = 8 := irqL_len _ _ _
theorem irqs_sum {xs : List Tmr} (h : AreTimers xs) {t : Int} : sumTo (irqs xs t) (irqs xs t).length = cnt xs t := by
  rw [irqs_len]; exact irq_sum h _ (Nat.le_refl _)
theorem irqs_part {xs : List Tmr} (h : AreTimers xs) {t : Int} (ht : t ≤ 100000) : ∀ i, i ≤ (irqs xs t).length → 0 ≤ sumTo (irqs xs t) i ∧ sumTo (irqs xs t) i ≤ 800008 * i
  | 0, _ => ⟨Int.le_refl _, by simp [sumTo]⟩
  | i + 1, hi => by
    have ih := irqs_part h ht i (by omega)
    rw [irqs_len] at hi
    have hb := irqTo_b h ht i xs.length (Nat.le_refl _)
    have h8 := h.1
    have : (irqs xs t).getD i 0 = irqTo xs t i xs.length := irqL_get (by omega)
    rw [sumTo, this]
    omega

/-! ### Firing in parts -/
theorem stN_add (xs : List Tmr) (m : Nat) : ∀ k, stN xs (m + k) = stN (stN xs m) k
  | 0 => rfl
  | k + 1 => by rw [← Nat.add_assoc, stN, stN, stN_add xs m k]
theorem fiN_add (xs : List Tmr) (m : Nat) : ∀ k, fiN xs (m + k) = fiN xs m ++ fiN (stN xs m) k
  | 0 => by simp [fiN]
  | k + 1 => by rw [← Nat.add_assoc, fiN, fiN, fiN_add xs m k, stN_add xs m k, List.append_assoc]
theorem ran_all {xs : List Tmr} (h : AreTimers xs) {s : Int} (hs : s ≤ 100000) : ∀ k, k ≤ nF xs s → Ran xs s k
  | 0, _ => .zero h s
  | k + 1, hk => by
    have ih := ran_all h hs k (by omega)
    refine ih.succ hs (Classical.byContradiction fun hf => ?_)
    have := ih.done hf
    unfold nF at hk
    omega
theorem ran_more {xs : List Tmr} (h : AreTimers xs) {s t : Int} (hst : s ≤ t) (ht : t ≤ 100000) : ∀ k, k ≤ nF xs s → Ran xs t k
  | 0, _ => .zero h t
  | k + 1, hk => by
    have i1 := ran_all h (by omega : s ≤ 100000) k (by omega)
    have ih := ran_more h hst ht k (by omega)
    refine ih.succ ht ?_
    have hf : Fires (stN xs k) s := Classical.byContradiction fun hf => by
      have := i1.done hf
      unfold nF at hk
      omega
    exact ⟨hf.1, Int.le_trans hf.2 hst⟩
theorem fire_done {xs : List Tmr} (h : AreTimers xs) {s : Int} (hs : s ≤ 100000) : ¬ Fires (fireL xs s) s := fun hf => by
  have h1 := ran_all h hs _ (Nat.le_refl _)
  have h2 := h1.2
  have h3 := cnt_pos h1.1 hf hs
  have h4 := (cnt_nn h hs).1
  unfold fireL at h3
  unfold nF at *
  omega
theorem fire_are {xs : List Tmr} (h : AreTimers xs) {s : Int} (hs : s ≤ 100000) : AreTimers (fireL xs s) := (ran_all h hs _ (Nat.le_refl _)).1
theorem fire_two {xs : List Tmr} {s t : Int} (h : GoodFire xs t) (hs0 : 0 ≤ s) (hst : s ≤ t) : GoodFire xs s ∧ GoodFire (fireL xs s) t ∧ fireL (fireL xs s) t = fireL xs t ∧ firedL xs s ++ firedL (fireL xs s) t = firedL xs t := by
  obtain ⟨hA, ht, hc⟩ := h
  have hR := ran_more hA hst ht.2 _ (Nat.le_refl _)
  have h0 := (cnt_nn hA (show s ≤ 100000 by omega)).1
  have h1 := (cnt_nn hR.1 ht.2).1
  have h2 := hR.2
  have hn : nF (stN xs (nF xs s)) t = nF xs t - nF xs s := by unfold nF at *; omega
  have hle : nF xs s ≤ nF xs t := by unfold nF at *; omega
  refine ⟨⟨hA, ⟨hs0, by omega⟩, by unfold nF at *; omega⟩, ⟨hR.1, ht, by unfold fireL; omega⟩, ?_, ?_⟩
  · unfold fireL
    rw [hn, ← stN_add, show nF xs s + (nF xs t - nF xs s) = nF xs t by omega]
  · unfold firedL fireL
    rw [hn, ← fiN_add, show nF xs s + (nF xs t - nF xs s) = nF xs t by omega]
theorem fired_len {xs : List Tmr} {t : Int} (h : AreTimers xs) (ht : t ≤ 100000) : ((firedL xs t).length : Int) = cnt xs t := by
  have := (cnt_nn h ht).1
  rw [show (firedL xs t).length = nF xs t from fiN_len xs _]; unfold nF; omega
theorem fireL_len (xs : List Tmr) (t : Int) : (fireL xs t).length = xs.length := stN_len xs _
theorem small_fire {xs : List Tmr} {t : Int} (h : GoodFire xs t) : (fireL xs t).length ≤ 1048576 := by rw [fireL_len]; have := h.1.1; omega
theorem small_fired {xs : List Tmr} {t : Int} (h : GoodFire xs t) : (firedL xs t).length ≤ 1048576 := by have := fired_len h.1 h.2.1.2; have := h.2.2; omega

/-! ### How often each fires -/
def missTo (l : List Int) (j : Nat) (f : Int) : Nat → Int
  | 0 => f
  | k + 1 => if l.getD k 0 = (j : Int) then missTo l j f k - 1 else missTo l j f k
theorem fiN_at {xs : List Tmr} : ∀ {N k : Nat}, k < N → (fiN xs N).getD k 0 = fireI (stN xs k)
  | 0, k, h => by omega
  | N + 1, k, h => by
    have l2 := fiN_len xs N
    rw [fiN]
    rcases Nat.lt_succ_iff_lt_or_eq.1 h with h' | h'
    · rw [← fiN_at h', List.getD_eq_getElem?_getD, List.getElem?_append_left (by omega), ← List.getD_eq_getElem?_getD]
    · subst h'
      rw [List.getD_eq_getElem?_getD, List.getElem?_append_right (by omega), l2]; simp
theorem miss_run {xs : List Tmr} (h : AreTimers xs) {t : Int} (ht : t ≤ 100000) {j : Nat} (hj : j < xs.length) : ∀ k, k ≤ nF xs t → missTo (firedL xs t) j (fires1 (xs.getD j zTimer) t) k = fires1 ((stN xs k).getD j zTimer) t
  | 0, _ => rfl
  | k + 1, hk => by
    have ih := miss_run h ht hj k (by omega)
    have hR := ran_all h ht k (by omega)
    have hf : Fires (stN xs k) t := Classical.byContradiction fun hf => by
      have := hR.done hf
      unfold nF at hk
      omega
    have h0 := hf.1
    have h1 := (fireI_lt (stN xs k)).2
    rw [missTo, ih, show (firedL xs t).getD k 0 = fireI (stN xs k) from fiN_at (by omega), stN, stepT, setT_get (by omega)]
    by_cases he : fireI (stN xs k) = (j : Int)
    · rw [if_pos he, if_pos (by omega), fires1_step (hR.1.at (by omega)) (fireI_armed h0) hf.2 ht, he, Int.toNat_natCast]
    · rw [if_neg he, if_neg (by omega)]
theorem miss_end {xs : List Tmr} (h : AreTimers xs) {t : Int} (ht : t ≤ 100000) {j : Nat} (hj : j < xs.length) : missTo (firedL xs t) j (fires1 (xs.getD j zTimer) t) (nF xs t) = 0 := by
  rw [miss_run h ht hj _ (Nat.le_refl _)]
  unfold fires1
  rw [if_pos]
  have hd := fire_done h ht
  cases ha : ((stN xs (nF xs t)).getD j zTimer).armed with
  | false => exact .inl rfl
  | true =>
    right
    obtain ⟨g1, g2⟩ := fireTo_least (stN xs (nF xs t)) (stN xs (nF xs t)).length j (by rw [stN_len]; exact hj) ha
    exact Int.not_le.1 (fun hle => hd ⟨g1, Int.le_trans g2 hle⟩)
theorem miss_b (l : List Int) (j : Nat) {f : Int} (h0 : 0 ≤ f) (h1 : f ≤ 100001) : ∀ k : Nat, -(k : Int) ≤ missTo l j f k ∧ missTo l j f k ≤ 100001
  | 0 => ⟨by simp [missTo]; exact h0, h1⟩
  | k + 1 => by
    have := miss_b l j h0 h1 k
    rw [missTo]; split <;> omega

/-! ### How long it is quiet -/
def GoodQuiet (xs : List Tmr) (t : Int) : Prop := AreTimers xs ∧ (0 ≤ t ∧ t ≤ 100000) ∧ cnt xs (t - 1) ≤ 200
instance (xs : List Tmr) (t : Int) : Decidable (GoodQuiet xs t) := by unfold GoodQuiet; infer_instance
def quietV (xs : List Tmr) (t : Int) : Int := if fireI (fireL xs (t - 1)) < 0 then 100000 else nextV (fireL xs (t - 1)) - t
theorem cnt_below {xs : List Tmr} (h : AreTimers xs) : cnt xs (-1) = 0 := cnt_zero (fun hf => by
  have h1 := (fireI_lt xs).2
  have := hf.1
  have := (h.at (show (fireI xs).toNat < xs.length by omega)).1.1
  have := hf.2
  omega)
theorem fire_below {xs : List Tmr} (h : AreTimers xs) : fireL xs (-1) = xs := by
  unfold fireL nF
  rw [cnt_below h]; rfl
theorem quiet_nn {xs : List Tmr} {t : Int} (h : GoodQuiet xs t) : 0 ≤ quietV xs t := by
  have hd := fire_done h.1 (s := t - 1) (by have := h.2.1; omega)
  unfold quietV
  split
  · decide
  · rename_i q
    have : ¬ nextV (fireL xs (t - 1)) ≤ t - 1 := fun q2 => hd ⟨by omega, q2⟩
    omega
theorem quiet_rng {xs : List Tmr} {t : Int} (h : GoodQuiet xs t) (h0 : 0 ≤ fireI (fireL xs (t - 1))) : 0 ≤ nextV (fireL xs (t - 1)) ∧ nextV (fireL xs (t - 1)) ≤ 100000 := by
  have h1 := (fireI_lt (fireL xs (t - 1))).2
  have := (fire_are h.1 (s := t - 1) (by have := h.2.1; omega)).at (show (fireI (fireL xs (t - 1))).toNat < (fireL xs (t - 1)).length by omega)
  exact this.1
theorem quiet_off {xs : List Tmr} {t : Int} (h : fireI (fireL xs (t - 1)) < 0) : 100000 = quietV xs t := (if_pos h).symm
theorem quiet_on {xs : List Tmr} {t : Int} (h : ¬ fireI (fireL xs (t - 1)) < 0) : ((fireL xs (t - 1)).getD (fireI (fireL xs (t - 1))).toNat zTimer).nxt - t = quietV xs t := (if_neg h).symm

def GoodUpTo (xs : List Tmr) (t : Int) : Prop := AreTimers xs ∧ (0 ≤ t ∧ t ≤ 100000)
instance (xs : List Tmr) (t : Int) : Decidable (GoodUpTo xs t) := by unfold GoodUpTo; infer_instance
theorem pick_quiet (xs : List Tmr) (t : Int) : 0 ≤ pickI (GoodQuiet xs t) (quietV xs t) := by
  unfold pickI; split
  · exact quiet_nn (by assumption)
  · exact Int.le_refl _
theorem quiet_off0 {xs : List Tmr} {t : Int} (h : AreTimers xs) (ht : t = 0) (h1 : fireI xs < 0) : 100000 = quietV xs t := by
  subst ht
  have := quiet_off (xs := xs) (t := 0)
  rw [show (0 : Int) - 1 = -1 from rfl, fire_below h] at this
  exact this h1
theorem quiet_on0 {xs : List Tmr} {t : Int} (h : AreTimers xs) (ht : t = 0) (h1 : ¬ fireI xs < 0) : (xs.getD (fireI xs).toNat zTimer).nxt - t = quietV xs t := by
  subst ht
  have := quiet_on (xs := xs) (t := 0)
  rw [show (0 : Int) - 1 = -1 from rfl, fire_below h] at this
  exact this h1
theorem cnt_below0 {xs : List Tmr} (h : AreTimers xs) {t : Int} (ht : t = 0) : cnt xs (t - 1) ≤ 200 := by
  subst ht
  have := cnt_below h
  rw [show (0 : Int) - 1 = -1 from rfl, this]; decide
theorem nxt_rng {xs : List Tmr} (h : AreTimers xs) (h0 : 0 ≤ fireI xs) : 0 ≤ (xs.getD (fireI xs).toNat zTimer).nxt ∧ (xs.getD (fireI xs).toNat zTimer).nxt ≤ 100000 := by
  have h1 := (fireI_lt xs).2
  exact (h.at (show (fireI xs).toNat < xs.length by omega)).1
theorem irq_rng {xs : List Tmr} (h : AreTimers xs) {i : Nat} (hi : i < xs.length) : 0 ≤ (xs.getD i zTimer).irq ∧ (xs.getD i zTimer).irq ≤ 7 := (h.at hi).2.2.1
theorem irqTo_in {xs : List Tmr} (h : AreTimers xs) {t : Int} (ht : -1 ≤ t ∧ t ≤ 100000) {i : Nat} (hi : i < xs.length) : 0 ≤ (irqL xs t i).getD (xs.getD i zTimer).irq.toNat 0 + fires1 (xs.getD i zTimer) t ∧ (irqL xs t i).getD (xs.getD i zTimer).irq.toNat 0 + fires1 (xs.getD i zTimer) t ≤ 2000000 := by
  have hq := irq_rng h hi
  rw [irqL_get (by omega)]
  have h1 := irqTo_b h ht.2 (xs.getD i zTimer).irq.toNat i (by omega)
  have h2 := fires1_nn (h.at hi) t
  have h3 := fires1_le (h.at hi) ht.2
  have h8 := h.1
  omega
theorem eqC_timer {a b : Tmr} (h : a = b) : eqC [false, true, true, true] (eTimer a) (eTimer b) = some true := by
  subst h
  simp [eTimer, eqC]
section
variable {P : Program} {G : Gh} {Y : World → World → Prop} {fr : Fr} {st : Store} {dst : Option Tmp} {ty : TypeId} {pos : String} {aft : Array Edge} {gd : Option (Nat × Bool)} {t t' : TypeId} {x y : Operand} {k : IntKind} {m n : Int}
theorem p_neqS {ks : List Bool} {l l' : List AV} {b : Bool} (hs : eqShape P t = some ks) (hx : opv fr x = some (.agg l)) (hy : opv fr y = some (.agg l')) (hb : eqC ks l l' = some b) :
    Pure P G Y fr st ⟨dst, .binOp .neq t x y t', ty, pos, aft, gd⟩ (.bool (!b)) := fun M a w h => by
  refine ⟨_, .bool _, fun w' _ => ?_⟩
  unfold eqShape at hs
  split at hs
  · rename_i fs hu
    split at hs
    · rename_i hc
      have hf : P.fieldsOf t = fs := by simp [Program.fieldsOf, hu]
      have hrx := opv_rep h hx
      have hry := opv_rep h hy
      generalize hvx : a.eval x = vx at hrx
      generalize hvy : a.eval y = vy at hry
      cases hrx with
      | agg xs _ lx rx =>
        cases hry with
        | agg ys _ ly ry =>
          have := run_eqC (P := P) (M := M) (w := w) (w' := w') (xs := xs) (ys := ys) 9998 fs.toList 0 ks l l' b hs hb (by omega) (by omega) (by simpa using rx) (by simpa using ry)
          simp only [execOp, hvx, hvy]
          have e := run_equalIn_struct (P := P) w' 9999 t xs ys (by rw [hf]; exact hu) hc.1
          rw [hf] at e
          have g : (eqGuard .neq t x y (.agg xs) (.agg ys)).run P w' = .ok () w' := by
            simp [eqGuard, hc.2]
          simp [g, binOp, Op.equal, Op.maxDepth, e, this]
    · cases hs
  · cases hs

theorem p_neqF (hx : opv fr x = some (.int k m)) (hy : opv fr y = some (.int k n)) (h : m = n) : Pure P G Y fr st ⟨dst, .binOp .neq t x y t', ty, pos, aft, gd⟩ (.bool false) := by
  subst h; exact p_neq_same hx hy
theorem p_eqlT (hx : opv fr x = some (.int k m)) (hy : opv fr y = some (.int k n)) (h : m = n) : Pure P G Y fr st ⟨dst, .binOp .eql t x y t', ty, pos, aft, gd⟩ (.bool true) := by
  subst h; exact p_eql_same hx hy
theorem p_eqlF (hx : opv fr x = some (.int k m)) (hy : opv fr y = some (.int k n)) (h : m ≠ n) : Pure P G Y fr st ⟨dst, .binOp .eql t x y t', ty, pos, aft, gd⟩ (.bool false) := by
  have := p_eql (P := P) (G := G) (Y := Y) (st := st) (dst := dst) (ty := ty) (pos := pos) (aft := aft) (gd := gd) (t := t) (t' := t') hx hy
  rwa [decide_eq_false h] at this
theorem p_gtrF (hx : opv fr x = some (.int k m)) (hy : opv fr y = some (.int k n)) (h : m ≤ n) : Pure P G Y fr st ⟨dst, .binOp .gtr t x y t', ty, pos, aft, gd⟩ (.bool false) := by
  have := p_gtr (P := P) (G := G) (Y := Y) (st := st) (dst := dst) (ty := ty) (pos := pos) (aft := aft) (gd := gd) (t := t) (t' := t') hx hy
  rwa [decide_eq_false (by omega)] at this
theorem p_geqT (hx : opv fr x = some (.int k m)) (hy : opv fr y = some (.int k n)) (h : n ≤ m) : Pure P G Y fr st ⟨dst, .binOp .geq t x y t', ty, pos, aft, gd⟩ (.bool true) := by
  rw [show true = decide (n ≤ m) from (decide_eq_true (by omega)).symm]; exact p_geq hx hy
theorem p_negI {x : Operand} {n : Int} {t : TypeId} (hx : opv fr x = some (.int .i64 n)) (h : InI (-n)) : Pure P G Y fr st ⟨dst, .unOp .neg t x, ty, pos, aft, gd⟩ (.int .i64 (-n)) := by
  have := p_neg (P := P) (G := G) (Y := Y) (st := st) (dst := dst) (ty := ty) (pos := pos) (aft := aft) (gd := gd) (t := t) hx
  rwa [wrap_in h] at this
end

end Go.Hv
