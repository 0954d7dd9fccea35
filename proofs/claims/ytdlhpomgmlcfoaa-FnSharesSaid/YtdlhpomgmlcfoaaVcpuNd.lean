/-
  Shares: the plain law. No condition.
-/
import Derived.Test.YtdlhpomgmlcfoaaVcpuJd
import Derived.Test.YtdlhpomgmlcfoaaVcpuEd
namespace Go.Hv
open Go Go.Fw

/-! ### Sums -/
def sumF (f : Nat → Int) : Nat → Int
  | 0 => 0
  | i + 1 => sumF f i + f i
def sumTo (xs : List Int) (i : Nat) : Int := sumF (fun j => xs.getD j 0) i
theorem sumF_eq {f g : Nat → Int} : ∀ {n : Nat}, (∀ j, j < n → f j = g j) → sumF f n = sumF g n
  | 0, _ => rfl
  | n + 1, h => by rw [sumF, sumF, h n (by omega), sumF_eq (fun j hj => h j (by omega))]
theorem sumF_hit {f : Nat → Int} {p : Nat → Bool} {q : Nat} : ∀ {n : Nat}, (∀ j, j < n → (p j = true ↔ j = q)) → sumF (fun j => if p j = true then f j + 1 else f j) n = sumF f n + (if q < n then 1 else 0)
  | 0, _ => by simp [sumF]
  | n + 1, h => by
    rw [sumF, sumF, sumF_hit (fun j hj => h j (by omega))]
    have := h n (by omega)
    by_cases hq : n = q
    · rw [if_pos (this.2 hq)]; split <;> split <;> omega
    · rw [if_neg (fun q' => hq (this.1 q'))]; split <;> split <;> omega
theorem sumF_b {f : Nat → Int} {m : Int} : ∀ {n : Nat}, (∀ j, j < n → 0 ≤ f j ∧ f j ≤ m) → 0 ≤ sumF f n ∧ sumF f n ≤ n * m
  | 0, _ => by simp [sumF]
  | n + 1, h => by
    have h1 := sumF_b (n := n) (fun j hj => h j (by omega))
    have h2 := h n (by omega)
    rw [sumF, Int.natCast_add, Int.add_mul]
    omega
theorem picks_at {xs : List Vcpu} : ∀ {N i : Nat}, i < N → (picksTo xs N).getD i 0 = tickI (tickN xs i)
  | 0, i, h => by omega
  | N + 1, i, h => by
    have l2 := picksTo_len xs N
    rw [picksTo]
    rcases Nat.lt_succ_iff_lt_or_eq.1 h with h' | h'
    · rw [← picks_at h', List.getD_eq_getElem?_getD, List.getElem?_append_left (by omega), ← List.getD_eq_getElem?_getD]
    · subst h'
      rw [List.getD_eq_getElem?_getD, List.getElem?_append_right (by omega), l2]; simp
theorem hits_sum {ps : List Int} {L : Nat} : ∀ {n : Nat}, (∀ k, k < n → 0 ≤ ps.getD k 0 ∧ ps.getD k 0 < L) → sumF (fun j => hitTo (atP ps j) n) L = n
  | 0, _ => by
    have : ∀ L, sumF (fun j => hitTo (atP ps j) 0) L = 0 := fun L => by
      induction L with
      | zero => rfl
      | succ L ih => rw [sumF, ih]; rfl
    exact this L
  | n + 1, h => by
    have h1 := hits_sum (n := n) (L := L) (fun k hk => h k (by omega))
    have h2 := h n (by omega)
    have := sumF_hit (f := fun j => hitTo (atP ps j) n) (p := fun j => atP ps j n) (q := (ps.getD n 0).toNat) (n := L) (fun j _ => by
      unfold atP
      rw [decide_eq_true_eq]
      omega)
    rw [if_pos (by omega), h1] at this
    rw [show ((n + 1 : Nat) : Int) = n + 1 by omega, ← this]
    rfl
theorem sharesL_get {xs : List Vcpu} {n : Int} {j : Nat} (hj : j < xs.length) : (sharesL xs n).getD j 0 = hitTo (atP (picksTo xs (tkN n)) j) (tkN n) := by
  rw [List.getD_eq_getElem?_getD]; simp [sharesL, hj]
theorem sharesL_len (xs : List Vcpu) (n : Int) : (sharesL xs n).length = xs.length := by simp [sharesL]
theorem shares_rng {xs : List Vcpu} {n : Int} (h : GoodRun xs n) {j : Nat} (hj : j < xs.length) : 0 ≤ (sharesL xs n).getD j 0 ∧ (sharesL xs n).getD j 0 ≤ 200 := by
  rw [sharesL_get hj]
  have := hitTo_b (atP (picksTo xs (tkN n)) j) (tkN n)
  have h2 := h.2.1
  unfold tkN at *
  omega
theorem shares_sum {xs : List Vcpu} {n : Int} (h : GoodRun xs n) : sumTo (sharesL xs n) (sharesL xs n).length = n := by
  unfold sumTo
  rw [sharesL_len, sumF_eq (g := fun j => hitTo (atP (picksTo xs (tkN n)) j) (tkN n)) (fun j hj => sharesL_get hj)]
  have h2 := h.2.1
  rw [hits_sum (fun k hk => ?_)]
  · unfold tkN; omega
  · have := ids_picks h.1 (h.runs (by unfold tkN at hk; omega)) (tkN n) k hk
    exact ⟨this.1, this.2.1⟩
theorem shares_part {xs : List Vcpu} {n : Int} (h : GoodRun xs n) {i : Nat} (hi : i ≤ (sharesL xs n).length) : 0 ≤ sumTo (sharesL xs n) i ∧ sumTo (sharesL xs n) i ≤ 1000 := by
  rw [sharesL_len] at hi
  have := sumF_b (f := fun j => (sharesL xs n).getD j 0) (m := 200) (n := i) (fun j hj => shares_rng h (by omega))
  have := h.1.2.2
  unfold sumTo
  omega
theorem shares_count {xs : List Vcpu} {n : Int} (h : GoodRun xs n) {j : Nat} (hj : j < xs.length) : hitTo (atI (idsTo xs (tkN n)) (xs.getD j zVcpu).id) (tkN n) = (sharesL xs n).getD j 0 := by
  rw [sharesL_get hj]
  exact hitTo_eq (fun k hk => at_same h hj hk)

/-! ### Credit before and after -/
theorem credit_rng {xs : List Vcpu} (h : AreVcpus xs) : ∀ i, i ≤ xs.length → creditTo xs i = sumF (fun j => (xs.getD j zVcpu).credit) i ∧ -100 * (i : Int) ≤ creditTo xs i ∧ creditTo xs i ≤ 200 * i
  | 0, _ => ⟨rfl, by simp [creditTo], by simp [creditTo]⟩
  | i + 1, hi => by
    obtain ⟨e, h1, h2⟩ := credit_rng h i (by omega)
    have g := (h.1 i (by omega)).1.2.2.1
    have := h.2.2
    rw [creditTo, wrap_in (by unfold InI; omega), sumF, ← e]
    exact ⟨rfl, by omega, by omega⟩
theorem sumF_le {f g : Nat → Int} : ∀ {n : Nat}, (∀ j, j < n → f j ≤ g j) → sumF f n ≤ sumF g n
  | 0, _ => Int.le_refl _
  | n + 1, h => by
    have h1 := sumF_le (n := n) (f := f) (g := g) (fun j hj => h j (by omega))
    have h2 := h n (by omega)
    rw [sumF, sumF]; omega
theorem refill_more {v : Vcpu} (hc : -100 ≤ v.credit ∧ v.credit ≤ 200) (hw : 1 ≤ v.weight ∧ v.weight ≤ 10) : v.credit ≤ (refill1 v).credit := by
  have := more_eq hc hw
  unfold refill1
  split
  · dsimp only; split <;> omega
  · exact Int.le_refl _
theorem total_more {xs : List Vcpu} (h : AreVcpus xs) : (totalCredit xs).2 = true ∧ (totalCredit (refillL xs)).2 = true ∧ (totalCredit xs).1 ≤ (totalCredit (refillL xs)).1 := by
  have h' := are_refill h
  unfold totalCredit
  rw [if_pos h, if_pos h']
  refine ⟨rfl, rfl, ?_⟩
  dsimp only
  rw [(credit_rng h _ (Nat.le_refl _)).1, (credit_rng h' _ (Nat.le_refl _)).1, refillL_len]
  refine sumF_le (fun j hj => ?_)
  rw [refillL_get hj]
  have g := (h.1 j hj).1
  exact refill_more g.2.2.1 g.2.1

/-! ### Waits -/
theorem best_le {xs : List Vcpu} {w : Nat → Int} {m : Int} (h0 : -1 ≤ m) : ∀ {n : Nat}, (∀ j, j < n → w j ≤ m) → (bestTo xs w n).2 ≤ m
  | 0, _ => h0
  | n + 1, h => by
    have h1 := best_le (xs := xs) h0 (n := n) (fun j hj => h j (by omega))
    have h2 := h n (by omega)
    rw [bestTo]; split
    · exact h2
    · exact h1
theorem longest_le {xs : List Vcpu} {n : Int} (h : GoodWait xs n) : (longest xs n).2 ≤ n := by
  have h2 := h.1.2.1
  refine best_le (by omega) (fun j _ => ?_)
  have := waitTo_b (atP (picksTo xs (tkN n)) j) (tkN n)
  unfold wP
  unfold tkN at *
  omega

/-! ### Equal processors -/
def evenV (w : Int) (v : Vcpu) : Bool := !v.blocked && !v.event && decide (v.weight = w) && decide (v.credit = 0)
def sameTo (xs : List Vcpu) : Nat → Bool
  | 0 => true
  | i + 1 => sameTo xs i && evenV (xs.getD 0 zVcpu).weight (xs.getD i zVcpu)
theorem same_step {e : Bool} {w : Int} {v : Vcpu} : (e = false → false = (e && evenV w v)) ∧ (v.blocked = true → false = (e && evenV w v)) ∧ (v.event = true → false = (e && evenV w v)) ∧ (v.weight ≠ w → false = (e && evenV w v)) ∧
    (e = true → v.blocked = false → v.event = false → v.weight = w → decide (v.credit = 0) = (e && evenV w v)) := by
  refine ⟨fun h => by simp [h], fun h => by simp [evenV, h], fun h => by simp [evenV, h], fun h => by simp [evenV, h], fun h1 h2 h3 h4 => by simp [evenV, h1, h2, h3, h4]⟩
theorem sameTo_at {xs : List Vcpu} : ∀ {i : Nat}, sameTo xs i = true → ∀ j, j < i → (xs.getD j zVcpu).blocked = false ∧ (xs.getD j zVcpu).event = false ∧ (xs.getD j zVcpu).weight = (xs.getD 0 zVcpu).weight ∧ (xs.getD j zVcpu).credit = 0
  | 0, _, j, hj => by omega
  | i + 1, h, j, hj => by
    rw [sameTo, Bool.and_eq_true] at h
    rcases Nat.lt_succ_iff_lt_or_eq.1 hj with h' | h'
    · exact sameTo_at h.1 j h'
    · subst h'
      have := h.2
      simp only [evenV, Bool.and_eq_true, Bool.not_eq_true', decide_eq_true_eq] at this
      exact ⟨this.1.1.1, this.1.1.2, this.1.2, this.2⟩
structure Even (w : Int) (L : Nat) (ys : List Vcpu) (r : Nat) (c : Int) : Prop where
  len : ys.length = L
  lt : r < L
  all : ∀ j, j < L → (ys.getD j zVcpu).blocked = false ∧ (ys.getD j zVcpu).event = false ∧ (ys.getD j zVcpu).weight = w ∧ (ys.getD j zVcpu).credit = if j < r then c - 10 else c
  c0 : 0 ≤ c
  r0 : 0 < r → 10 ≤ c
  c1 : c ≤ 100
  m : ∃ m, c = 10 * m
theorem Even.pick {w : Int} {L : Nat} {ys : List Vcpu} {r : Nat} {c : Int} (h : Even w L ys r c) (h1 : 10 ≤ c) : ∀ n, n ≤ L → pickTo ys n = if n = 0 then -1 else if n ≤ r then 0 else (r : Int)
  | 0, _ => rfl
  | n + 1, hn => by
    have ih := h.pick h1 n (by omega)
    obtain ⟨a1, a2, a3, a4⟩ := h.all n (by omega)
    rw [pickTo, ih, if_neg (show ¬ n + 1 = 0 by omega)]
    by_cases h0 : n = 0
    · subst h0
      rw [if_pos rfl, if_pos ⟨a1, .inl (by decide)⟩]
      split <;> omega
    · rw [if_neg h0]
      by_cases hr : n ≤ r
      · rw [if_pos hr]
        obtain ⟨b1, b2, b3, b4⟩ := h.all 0 (by omega)
        rw [if_pos (show 0 < r by omega)] at b4
        by_cases hr2 : n = r
        · subst hr2
          rw [if_neg (by omega)] at a4
          rw [if_pos ⟨a1, .inr (.inr ⟨by rw [a2]; exact b2.symm, by rw [a4]; show (ys.getD 0 zVcpu).credit < c; omega⟩)⟩, if_neg (by omega)]
        · rw [if_pos (by omega)] at a4
          rw [if_neg, if_pos (by omega)]
          rintro ⟨_, q | q⟩
          · omega
          · rcases q with ⟨q, _⟩ | ⟨_, q⟩
            · rw [a2] at q; cases q
            · rw [a4] at q
              have q' : (ys.getD 0 zVcpu).credit < c - 10 := q
              omega
      · obtain ⟨b1, b2, b3, b4⟩ := h.all r (by omega)
        rw [if_neg (show ¬ r < r by omega)] at b4
        rw [if_neg (show ¬ n < r by omega)] at a4
        rw [if_neg hr, if_neg (show ¬ n + 1 ≤ r by omega), if_neg]
        rintro ⟨_, q | q⟩
        · omega
        · rw [Int.toNat_natCast] at q
          rcases q with ⟨q, _⟩ | ⟨_, q⟩
          · rw [a2] at q; cases q
          · omega
theorem Even.base {w : Int} {L : Nat} {ys : List Vcpu} {r : Nat} {c : Int} (hw : 1 ≤ w ∧ w ≤ 10) (h : Even w L ys r c) : ∃ c', Even w L (baseL ys) r c' ∧ 10 ≤ c' := by
  by_cases hc : 10 ≤ c
  · refine ⟨c, ?_, hc⟩
    have hr := h.all r h.lt
    rw [if_neg (by omega)] at hr
    have : ¬ hasI ys < 0 := by
      unfold hasI
      rcases first_spec (hasC ys) ys.length with ⟨_, h2⟩ | ⟨i, h1, h2, _, _⟩
      · have := h2 r (by rw [h.len]; exact h.lt)
        unfold hasC hasV at this
        rw [hr.1, decide_eq_true (by rw [hr.2.2.2]; omega)] at this
        cases this
      · omega
    rw [show baseL ys = ys from if_neg this]
    exact h
  · obtain ⟨m, hm⟩ := h.m
    have h0 := h.c0
    have hc0 : c = 0 := by omega
    have hr0 : r = 0 := by
      rcases Nat.eq_zero_or_pos r with q | q
      · exact q
      · have := h.r0 q; omega
    subst hc0 hr0
    have : hasI ys < 0 := by
      unfold hasI
      rcases first_spec (hasC ys) ys.length with ⟨h1, _⟩ | ⟨i, h1, _, h3, _⟩
      · omega
      · have := (h.all i (by rw [← h.len]; exact h1)).2.2.2
        rw [if_neg (by omega)] at this
        unfold hasC hasV at h3
        rw [this] at h3
        simp at h3
    rw [show baseL ys = refillL ys from if_pos this]
    refine ⟨10 * w, ⟨by rw [refillL_len]; exact h.len, h.lt, fun j hj => ?_, by omega, fun q => by omega, by omega, w, rfl⟩, by omega⟩
    obtain ⟨a1, a2, a3, a4⟩ := h.all j hj
    rw [if_neg (by omega)] at a4
    rw [refillL_get (by rw [h.len]; exact hj)]
    obtain ⟨e1, e2, e3, e4⟩ := refill1_id (ys.getD j zVcpu)
    refine ⟨by rw [e3]; exact a1, by rw [e4]; exact a2, by rw [e2]; exact a3, ?_⟩
    have := more_eq (v := ys.getD j zVcpu) (by omega) (by omega)
    rw [if_neg (by omega), refill1, if_pos a1]
    dsimp only
    rw [if_neg (by omega)]
    omega
theorem Even.tick {w : Int} {L : Nat} {ys : List Vcpu} {r : Nat} {c : Int} (hw : 1 ≤ w ∧ w ≤ 10) (h : Even w L ys r c) : tickI ys = r ∧ ∃ c', Even w L (tickL ys) (if r + 1 = L then 0 else r + 1) c' := by
  obtain ⟨c', h', hc⟩ := h.base hw
  have hp : tickI ys = r := by
    unfold tickI
    rw [h.len, h'.pick hc L (Nat.le_refl _), if_neg (by have := h.lt; omega), if_neg (by have := h.lt; omega)]
  refine ⟨hp, ?_⟩
  have hl := h'.lt
  have hs : ∀ j, j < L → ((tickL ys).getD j zVcpu).blocked = false ∧ ((tickL ys).getD j zVcpu).event = false ∧ ((tickL ys).getD j zVcpu).weight = w ∧ ((tickL ys).getD j zVcpu).credit = if j < r + 1 then c' - 10 else c' := fun j hj => by
    unfold tickL
    rw [hp, Int.toNat_natCast, set_get (by rw [h'.len]; exact hl)]
    obtain ⟨a1, a2, a3, a4⟩ := h'.all j hj
    split
    · rename_i e
      subst e
      rw [if_neg (by omega)] at a4
      refine ⟨a1, rfl, a3, ?_⟩
      unfold spend
      dsimp only
      rw [if_neg (by omega), if_pos (by omega)]
      omega
    · refine ⟨a1, a2, a3, ?_⟩
      rw [a4]
      split <;> split <;> omega
  obtain ⟨m, hm⟩ := h'.m
  have c1 := h'.c1
  by_cases he : r + 1 = L
  · rw [if_pos he]
    refine ⟨c' - 10, ⟨by rw [tickL_len]; exact h.len, by omega, fun j hj => ?_, by omega, fun q => by omega, by omega, m - 1, by omega⟩⟩
    have := hs j hj
    rw [if_pos (by omega)] at this
    rw [if_neg (by omega)]
    exact this
  · rw [if_neg he]
    exact ⟨c', ⟨by rw [tickL_len]; exact h.len, by omega, hs, by omega, fun _ => hc, c1, m, hm⟩⟩
theorem even_run {xs : List Vcpu} (hA : AreVcpus xs) (h : sameTo xs xs.length = true) (N : Nat) : ∀ k, k ≤ N → ∃ (q : Int) (r : Nat) (c : Int), Even (xs.getD 0 zVcpu).weight xs.length (tickN xs k) r c ∧
    ∀ j, j < xs.length → hitTo (atP (picksTo xs N) j) k = q + (if j < r then 1 else 0)
  | 0, _ => by
    have h1 := hA.2.1
    refine ⟨0, 0, 0, ⟨rfl, by omega, fun j hj => ?_, by omega, fun q => by omega, by omega, 0, rfl⟩, fun j _ => by simp [hitTo]⟩
    have := sameTo_at h j hj
    exact ⟨this.1, this.2.1, this.2.2.1, by rw [if_neg (by omega)]; exact this.2.2.2⟩
  | k + 1, hk => by
    obtain ⟨q, r, c, h1, h2⟩ := even_run hA h N k (by omega)
    have hw : 1 ≤ (xs.getD 0 zVcpu).weight ∧ (xs.getD 0 zVcpu).weight ≤ 10 := (hA.1 0 (by have := hA.2.1; omega)).1.2.1
    obtain ⟨ht, c', he⟩ := h1.tick hw
    have hp : ∀ j, atP (picksTo xs N) j k = true ↔ j = r := fun j => by
      unfold atP
      rw [decide_eq_true_eq, picks_at (by omega), ht]
      omega
    have hlt := h1.lt
    by_cases hr : r + 1 = xs.length
    · rw [if_pos hr] at he
      refine ⟨q + 1, 0, c', he, fun j hj => ?_⟩
      rw [hitTo, h2 j hj, if_neg (show ¬ j < 0 by omega)]
      by_cases hj2 : j = r
      · rw [if_pos ((hp j).2 hj2), if_neg (by omega)]; omega
      · rw [if_neg (fun x => hj2 ((hp j).1 x)), if_pos (by omega)]; omega
    · rw [if_neg hr] at he
      refine ⟨q, r + 1, c', he, fun j hj => ?_⟩
      rw [hitTo, h2 j hj]
      by_cases hj2 : j = r
      · rw [if_pos ((hp j).2 hj2), if_neg (by omega), if_pos (by omega)]; omega
      · rw [if_neg (fun x => hj2 ((hp j).1 x))]
        split <;> split <;> omega
theorem fair {xs : List Vcpu} {n : Int} (h : GoodRun xs n) (hs : sameTo xs xs.length = true) {j : Nat} (hj : j < xs.length) : 0 ≤ (sharesL xs n).getD 0 0 - (sharesL xs n).getD j 0 ∧ (sharesL xs n).getD 0 0 - (sharesL xs n).getD j 0 ≤ 1 := by
  obtain ⟨q, r, c, _, h2⟩ := even_run h.1 hs (tkN n) (tkN n) (Nat.le_refl _)
  rw [sharesL_get hj, sharesL_get (show 0 < xs.length by omega), h2 j hj, h2 0 (by omega)]
  split <;> split <;> omega

section
variable {P : Program} {G : Gh} {Y : World → World → Prop} {fr : Fr} {st : Store} {dst : Option Tmp} {ty : TypeId} {pos : String} {aft : Array Edge} {gd : Option (Nat × Bool)} {t t' : TypeId} {x y : Operand} {k : IntKind} {m n : Int}
theorem p_lssF (hx : opv fr x = some (.int k m)) (hy : opv fr y = some (.int k n)) (h : n ≤ m) : Pure P G Y fr st ⟨dst, .binOp .lss t x y t', ty, pos, aft, gd⟩ (.bool false) := by
  rw [show false = decide (m < n) from (decide_eq_false (by omega)).symm]; exact p_lss hx hy
theorem p_leqT (hx : opv fr x = some (.int k m)) (hy : opv fr y = some (.int k n)) (h : m ≤ n) : Pure P G Y fr st ⟨dst, .binOp .leq t x y t', ty, pos, aft, gd⟩ (.bool true) := by
  rw [show true = decide (m ≤ n) from (decide_eq_true (by omega)).symm]; exact p_leq hx hy
end

end Go.Hv
