/-
  Mails: all are delivered, in order; who is quiet. No condition.
-/
import Derived.Test.YtmdhojgkhbihaaaMailPd
namespace Go.Hv
open Go Go.Fw
set_option linter.unusedSimpArgs false
set_option linter.unusedVariables false

def pickS (c : Prop) [Decidable c] (p : List (List Int)) : List (List Int) := if c then p else []
theorem pickS_y {c : Prop} [Decidable c] {p : List (List Int)} (h : c) : pickS c p = p := if_pos h
theorem pickS_n {c : Prop} [Decidable c] {p : List (List Int)} (h : ¬ c) : pickS c p = [] := if_neg h
theorem pickS_lt {c : Prop} [Decidable c] {p : List (List Int)} {i : Nat} (h : i < (pickS c p).length) : c := by
  unfold pickS at h; split at h
  · assumption
  · exact absurd h (Nat.not_lt_zero _)
theorem pickS_deep {c : Prop} [Decidable c] {p : List (List Int)} (h : c → DeepL p) : DeepL (pickS c p) := by
  unfold pickS; split
  · exact h (by assumption)
  · exact ⟨Nat.zero_le _, fun j hj => absurd hj (Nat.not_lt_zero _)⟩

/-! ### In order -/
theorem sel_least (c : Int) : ∀ (xs : List Mail) (a : Option Mail) (m : Mail), m.dst = c → (m ∈ xs ∨ ∃ r, a = some r ∧ ¬ Sooner m r) → ∃ r, xs.foldl (selO c) a = some r ∧ ¬ Sooner m r
  | [], a, m, _, h => by
    rcases h with h | ⟨r, h1, h2⟩
    · cases h
    · exact ⟨r, h1, h2⟩
  | x :: xs, a, m, hm, h => by
    rw [List.foldl_cons]
    refine sel_least c xs _ m hm ?_
    rcases h with h | ⟨r, h1, h2⟩
    · rcases List.mem_cons.1 h with e | e
      · subst e
        right
        unfold selO
        split
        · exact ⟨m, rfl, by unfold Sooner; omega⟩
        · rename_i q
          cases a with
          | none => exact absurd ⟨hm, fun b hb => by cases hb⟩ q
          | some b => exact ⟨b, rfl, fun q2 => q ⟨hm, fun b' hb => by cases hb; exact q2⟩⟩
      · exact .inl e
    · right
      subst h1
      unfold selO
      split
      · rename_i q
        have := q.2 r rfl
        exact ⟨x, rfl, by unfold Sooner at *; omega⟩
      · exact ⟨r, rfl, h2⟩
theorem take_least {xs : List Mail} {c : Int} (h0 : 0 ≤ takeI xs c) {m : Mail} (hm : m ∈ toc xs c) : (takeM xs c).irq ≤ m.irq := by
  obtain ⟨r, h1, h2⟩ := sel_least c (toc xs c) none m (of_decide_eq_true (List.mem_filter.1 hm).2) (.inl hm)
  rw [take_fold, if_neg (by omega)] at h1
  cases h1
  unfold Sooner at h2
  omega
theorem take_mem {xs : List Mail} {c : Int} (h0 : 0 ≤ takeI xs c) : takeM xs c ∈ toc xs c := by
  have h1 := (takeI_lt xs c).2
  exact List.mem_filter.2 ⟨getD_mem' (by omega), decide_eq_true (nextTo_dst xs c xs.length h0)⟩
theorem irq_step {xs : List Mail} (h : IsBox xs) (c : Int) {k : Nat} (hk : k + 1 < nN xs c) : (takeM (dN xs c k) c).irq ≤ (takeM (dN xs c (k + 1)) c).irq := by
  have d0 := dInv h c k (by omega)
  have d1 := dInv h c (k + 1) (by omega)
  have h0 := d0.more.2 (by omega)
  have h1 := d1.more.2 hk
  have hm : takeM (dN xs c (k + 1)) c ∈ (toc (dN xs c k) c).erase (takeM (dN xs c k) c) := by
    rw [← (toc_take d0.box h0).1]
    exact take_mem h1
  exact take_least h0 (List.mem_of_mem_erase hm)
theorem gN_at (xs : List Mail) (c : Int) : ∀ {n k : Nat}, k < n → (gN xs c n).getD k 0 = (takeM (dN xs c k) c).irq
  | 0, k, h => by omega
  | n + 1, k, h => by
    have l := gN_len xs c n
    rw [gN]
    rcases Nat.lt_succ_iff_lt_or_eq.1 h with h' | h'
    · rw [← gN_at xs c h', List.getD_eq_getElem?_getD, List.getElem?_append_left (by omega), ← List.getD_eq_getElem?_getD]
    · subst h'
      rw [List.getD_eq_getElem?_getD, List.getElem?_append_right (by omega), l]; simp
theorem gets_sorted {xs : List Mail} (h : IsBox xs) {c j : Nat} (hc : c < 4) (h1 : 1 ≤ j) (hj : j < ((getsL xs).getD c []).length) : ((getsL xs).getD c []).getD (j - 1) 0 ≤ ((getsL xs).getD c []).getD j 0 := by
  rw [getsL, getsTo_get xs hc] at *
  rw [gets_len] at hj
  unfold gets
  rw [gN_at xs _ hj, gN_at xs _ (show j - 1 < nN xs (c : Int) by omega)]
  obtain ⟨i, rfl⟩ : ∃ i, j = i + 1 := ⟨j - 1, by omega⟩
  exact irq_step h _ hj

/-! ### All of them -/
def lenTo (g : List (List Int)) : Nat → Int
  | 0 => 0
  | i + 1 => lenTo g i + ((g.getD i []).length : Int)
theorem toc_cons (m : Mail) (xs : List Mail) (c : Int) : (toc (m :: xs) c).length = (toc xs c).length + if m.dst = c then 1 else 0 := by
  unfold toc
  rw [List.filter_cons]
  by_cases h : m.dst = c
  · rw [if_pos (show isD c m = true from decide_eq_true h), if_pos h, List.length_cons]
  · rw [if_neg (show ¬ isD c m = true from by unfold isD; rw [decide_eq_false h]; decide), if_neg h]; rfl
theorem toc_all : ∀ {xs : List Mail}, (∀ m ∈ xs, 0 ≤ m.dst ∧ m.dst ≤ 3) → (toc xs 0).length + (toc xs 1).length + (toc xs 2).length + (toc xs 3).length = xs.length
  | [], _ => rfl
  | m :: xs, h => by
    have ih := toc_all (xs := xs) (fun x hx => h x (List.mem_cons_of_mem _ hx))
    have hm := h m List.mem_cons_self
    rw [toc_cons, toc_cons, toc_cons, toc_cons, List.length_cons]
    have : m.dst = 0 ∨ m.dst = 1 ∨ m.dst = 2 ∨ m.dst = 3 := by omega
    (repeat' split) <;> omega
theorem lenTo_all {xs : List Mail} (h : IsBox xs) : lenTo (getsL xs) 4 = xs.length := by
  have := toc_all (xs := xs) (fun m hm => ((box_iff.1 h).1 m hm).2.1)
  simp only [lenTo, getsL, getsTo_get xs (show 0 < 4 by decide), getsTo_get xs (show 1 < 4 by decide), getsTo_get xs (show 2 < 4 by decide), getsTo_get xs (show 3 < 4 by decide), gets_len]
  unfold nN
  simp only [Int.natCast_zero, Int.natCast_one] at *
  show 0 + ((toc xs 0).length : Int) + ((toc xs 1).length : Int) + ((toc xs 2).length : Int) + ((toc xs 3).length : Int) = _
  omega
theorem lenTo_b {xs : List Mail} (h : IsBox xs) : ∀ i, i ≤ 4 → 0 ≤ lenTo (getsL xs) i ∧ lenTo (getsL xs) i ≤ 20 * i
  | 0, _ => ⟨Int.le_refl _, by simp [lenTo]⟩
  | i + 1, hi => by
    have := lenTo_b h i (by omega)
    have h2 := nN_le h (i : Int)
    rw [lenTo, show (getsL xs).getD i [] = gets xs (i : Int) from getsTo_get xs (by omega), gets_len]
    omega

/-! ### Who is quiet -/
theorem val4_bits : ∀ (b0 b1 b2 b3 : Bool), (decide (bitAt (val4 b0 b1 b2 b3) 0) = b0 ∧ decide (bitAt (val4 b0 b1 b2 b3) 1) = b1) ∧ decide (bitAt (val4 b0 b1 b2 b3) 2) = b2 ∧ decide (bitAt (val4 b0 b1 b2 b3) 3) = b3 := by decide +kernel
theorem quiet_bit {xs : List Mail} (h : IsBox xs) {i : Nat} (hi : i < 4) : decide (bitAt (quietCpus xs).1 (i : Int)) = decide (((getsL xs).getD i []).length = 0) := by
  have e : ∀ c : Nat, noMail xs xs.length (c : Int) = decide ((gets xs (c : Int)).length = 0) := fun c => by
    unfold noMail
    rw [decide_eq_decide, gets_len]
    unfold nN
    rw [List.length_eq_zero_iff]
    exact toc_nil
  rw [getsL, getsTo_get xs hi, quietCpus, if_pos h]
  dsimp only
  rw [setTo_val, ← e i]
  obtain ⟨⟨h0, h1⟩, h2, h3⟩ := val4_bits (noMail xs xs.length 0) (noMail xs xs.length 1) (noMail xs xs.length 2) (noMail xs xs.length 3)
  have : i = 0 ∨ i = 1 ∨ i = 2 ∨ i = 3 := by omega
  rcases this with e | e | e | e <;> subst e
  · exact h0
  · exact h1
  · exact h2
  · exact h3
theorem quiet_b (xs : List Mail) : 0 ≤ (quietCpus xs).1 ∧ (quietCpus xs).1 ≤ 15 := by
  unfold quietCpus
  split
  · dsimp only
    rw [setTo_val]
    unfold val4
    (repeat' split) <;> omega
  · exact ⟨Int.le_refl _, by decide⟩

/-! ### A processor that is offline gets nothing more -/
theorem off_none (xs : List Mail) (c : Int) : ∀ i, i ≤ xs.length → ∀ m ∈ offTo xs c i, m.dst ≠ c ∧ m ∈ xs
  | 0, _, m, hm => by cases hm
  | i + 1, hi, m, hm => by
    have ih := off_none xs c i (by omega)
    rw [offTo] at hm
    split at hm
    · rename_i q
      rcases List.mem_append.1 hm with h | h
      · exact ih m h
      · rw [List.mem_singleton] at h
        subst h
        exact ⟨q, getD_mem' (by omega)⟩
    · exact ih m hm
theorem off_take {xs : List Mail} {c : Int} : ¬ GoodTake (offL xs c) c := fun h => by
  have h1 := (takeI_lt (offL xs c) c).2
  have h2 := h.2.2
  have := nextTo_dst (offL xs c) c (offL xs c).length h2
  exact (off_none xs c xs.length (Nat.le_refl _) _ (getD_mem' (show (takeI (offL xs c) c).toNat < (offL xs c).length by omega))).1 this
theorem offL_len (xs : List Mail) (c : Int) : (offL xs c).length ≤ xs.length := offTo_len xs c xs.length

end Go.Hv
