/-
  Mails: the plain law. No condition.
-/
import Derived.Test.YtmdhojgkhbihaaaFwO
import Derived.Test.YtmdhojgkhbihaaaMailDd
namespace Go.Hv
open Go Go.Fw
set_option linter.unusedSimpArgs false
set_option linter.unusedVariables false

def pickM (c : Prop) [Decidable c] (p : List Mail) : List Mail := if c then p else []
def pickL (c : Prop) [Decidable c] (p : List Int) : List Int := if c then p else []
def pickI (c : Prop) [Decidable c] (n : Int) : Int := if c then n else 0
def pick1 (c : Prop) [Decidable c] (m : Mail) : Mail := if c then m else zMail
theorem pickM_y {c : Prop} [Decidable c] {p : List Mail} (h : c) : pickM c p = p := if_pos h
theorem pickM_n {c : Prop} [Decidable c] {p : List Mail} (h : ¬ c) : pickM c p = [] := if_neg h
theorem pickL_y {c : Prop} [Decidable c] {p : List Int} (h : c) : pickL c p = p := if_pos h
theorem pickL_n {c : Prop} [Decidable c] {p : List Int} (h : ¬ c) : pickL c p = [] := if_neg h
theorem pickI_y {c : Prop} [Decidable c] {n : Int} (h : c) : pickI c n = n := if_pos h
theorem pickI_n {c : Prop} [Decidable c] {n : Int} (h : ¬ c) : pickI c n = 0 := if_neg h
theorem pick1_y {c : Prop} [Decidable c] {m : Mail} (h : c) : pick1 c m = m := if_pos h
theorem pick1_n {c : Prop} [Decidable c] {m : Mail} (h : ¬ c) : pick1 c m = zMail := if_neg h
theorem pickM_small {c : Prop} [Decidable c] {p : List Mail} (h : c → p.length ≤ 1048576) : (pickM c p).length ≤ 1048576 := by
  unfold pickM; split
  · exact h (by assumption)
  · exact Nat.zero_le _
theorem pickL_small {c : Prop} [Decidable c] {p : List Int} (h : c → p.length ≤ 1048576) : (pickL c p).length ≤ 1048576 := by
  unfold pickL; split
  · exact h (by assumption)
  · exact Nat.zero_le _

/-! ### Boxes as lists without doubles -/
theorem getD_mem' {xs : List Mail} {i : Nat} (h : i < xs.length) : xs.getD i zMail ∈ xs := by
  rw [List.getD_eq_getElem?_getD, List.getElem?_eq_getElem h]; exact List.getElem_mem h
theorem has_iff {xs : List Mail} {m : Mail} : Has xs m ↔ m ∈ xs := by
  constructor
  · intro h
    obtain ⟨i, h1, h2⟩ := idx_mem h
    exact h2 ▸ getD_mem' h1
  · intro h
    obtain ⟨i, h1, h2⟩ := List.mem_iff_getElem.1 h
    unfold Has idx
    rcases first_spec (fun j => decide (m = xs.getD j zMail)) xs.length with ⟨h3, h4⟩ | ⟨j, _, h3, _, _⟩
    · have := h4 i h1
      rw [decide_eq_false_iff_not] at this
      exact absurd (by rw [List.getD_eq_getElem?_getD, List.getElem?_eq_getElem h1]; exact h2.symm) this
    · omega
theorem box_iff {xs : List Mail} : IsBox xs ↔ (∀ m ∈ xs, IsMail m) ∧ xs.Nodup ∧ xs.length ≤ 20 := by
  constructor
  · rintro ⟨h1, h2⟩
    refine ⟨fun m hm => ?_, ?_, h2⟩
    · obtain ⟨i, h3, h4⟩ := List.mem_iff_getElem.1 hm
      have := (h1 i h3).1
      rwa [List.getD_eq_getElem?_getD, List.getElem?_eq_getElem h3, Option.getD_some, h4] at this
    · rw [List.nodup_iff_pairwise_ne, List.pairwise_iff_getElem]
      intro i j hi hj hij he
      have := (h1 j hj).2
      rw [has_iff, List.getD_eq_getElem?_getD, List.getElem?_eq_getElem hj, Option.getD_some] at this
      exact this (List.mem_take_iff_getElem.2 ⟨i, by omega, he⟩)
  · rintro ⟨h1, h2, h3⟩
    refine ⟨fun j hj => ⟨h1 _ (getD_mem' hj), fun q => ?_⟩, h3⟩
    rw [has_iff, List.getD_eq_getElem?_getD, List.getElem?_eq_getElem hj, Option.getD_some] at q
    obtain ⟨i, hi, he⟩ := List.mem_take_iff_getElem.1 q
    rw [List.nodup_iff_pairwise_ne, List.pairwise_iff_getElem] at h2
    exact h2 i j (by omega) hj (by omega) he
theorem send_has (xs : List Mail) (m : Mail) : m ∈ sendOne xs m := by
  by_cases h : Has xs m
  · rw [sendOne, if_pos h]; exact has_iff.1 h
  · rw [sendOne, if_neg h]; exact List.mem_append_right _ (List.mem_singleton.2 rfl)
theorem send_keep {xs : List Mail} {m x : Mail} (h : x ∈ xs) : x ∈ sendOne xs m := by
  unfold sendOne; split
  · exact h
  · exact List.mem_append_left _ h
theorem send_again {xs : List Mail} {m : Mail} (h : GoodSend xs m) : sendOne (sendOne xs m) m = sendOne xs m ∧ GoodSend (sendOne xs m) m ∧ IsBox (sendOne xs m) := by
  have e : sendOne (sendOne xs m) m = sendOne xs m := if_pos (has_iff.2 (send_has xs m))
  have hb : IsBox (sendOne xs m) := (isBox_send h.1).2 h.2
  exact ⟨e, ⟨hb, h.2.1, by rw [e]; exact h.2.2⟩, hb⟩
theorem small_send {xs : List Mail} {m : Mail} (h : GoodSend xs m) : (sendOne xs m).length ≤ 1048576 := by have := h.2.2; omega

/-! ### Taking one out and putting it back -/
theorem split_at {xs : List Mail} {i : Nat} (h : i < xs.length) : xs = xs.take i ++ xs.getD i zMail :: xs.drop (i + 1) := by
  rw [List.getD_eq_getElem?_getD, List.getElem?_eq_getElem h, Option.getD_some, List.getElem_cons_drop, List.take_append_drop]
theorem without_box {xs : List Mail} {i : Nat} (h : IsBox xs) (hi : i < xs.length) : IsBox (without xs i) ∧ xs.getD i zMail ∉ without xs i := by
  obtain ⟨h1, h2, h3⟩ := box_iff.1 h
  have hs := split_at hi
  have hl := without_lt hi
  rw [hs] at h2
  have h4 := List.nodup_append.1 h2
  have h5 := List.nodup_cons.1 h4.2.1
  refine ⟨box_iff.2 ⟨fun m hm => h1 m ?_, ?_, by omega⟩, fun hm => ?_⟩
  · rw [hs]
    rcases List.mem_append.1 hm with q | q
    · exact List.mem_append_left _ q
    · exact List.mem_append_right _ (List.mem_cons_of_mem _ q)
  · exact List.nodup_append.2 ⟨h4.1, h5.2, fun a ha b hb => h4.2.2 a ha b (List.mem_cons_of_mem _ hb)⟩
  · rcases List.mem_append.1 hm with q | q
    · exact h4.2.2 _ q _ List.mem_cons_self rfl
    · exact h5.1 q
theorem nextTo_dst (xs : List Mail) (c : Int) : ∀ i, 0 ≤ nextTo xs c i → (xs.getD (nextTo xs c i).toNat zMail).dst = c
  | 0, h => by simp [nextTo] at h
  | i + 1, h => by
    have ih := nextTo_dst xs c i
    rw [nextTo] at h ⊢
    split
    · rename_i q; exact q.1
    · rename_i q; rw [if_neg q] at h; exact ih h
theorem take_dst {xs : List Mail} {c : Int} (h : GoodTake xs c) : (takeM xs c).dst = c := nextTo_dst xs c xs.length h.2.2
theorem take_back {xs : List Mail} {c : Int} (h : GoodTake xs c) : GoodSend (takeL xs c) (takeM xs c) ∧ (sendOne (takeL xs c) (takeM xs c)).length = xs.length := by
  have h0 := h.2.2
  have h1 := (takeI_lt xs c).2
  have hi : (takeI xs c).toNat < xs.length := by omega
  obtain ⟨hb, hn⟩ := without_box h.1 hi
  have hl := without_lt hi
  have e : sendOne (takeL xs c) (takeM xs c) = takeL xs c ++ [takeM xs c] := if_neg (fun q => hn (has_iff.1 q))
  have e2 : (sendOne (takeL xs c) (takeM xs c)).length = xs.length := by rw [e, List.length_append]; exact hl
  exact ⟨⟨hb, (box_iff.1 h.1).1 _ (getD_mem' hi), by rw [e2]; exact h.1.2⟩, e2⟩

/-! ### Sending to a set, and what arrives -/
theorem ssTo_keep {xs : List Mail} {f s q : Int} {x : Mail} : ∀ {i k : Nat}, i ≤ k → x ∈ ssTo xs f s q i → x ∈ ssTo xs f s q k
  | i, 0, h, hx => by
    have : i = 0 := by omega
    subst this; exact hx
  | i, k + 1, h, hx => by
    rcases Nat.lt_or_ge k i with h' | h'
    · have : i = k + 1 := by omega
      subst this; exact hx
    · have := ssTo_keep h' hx
      rw [ssTo]; split
      · exact send_keep this
      · exact this
theorem ssTo_has {xs : List Mail} {f s q : Int} {t : Nat} (ht : t < 4) (hb : bitAt s (t : Int)) : (⟨f, (t : Int), q⟩ : Mail) ∈ ssTo xs f s q 4 :=
  ssTo_keep (show t + 1 ≤ 4 by omega) (by rw [ssTo, if_pos hb]; exact send_has _ _)
theorem or_bits : ∀ (v : Fin 16) (s f : Fin 4), (0 ≤ bits .or .i64 (v.val : Int) (shl1 (s.val : Int)) ∧ bits .or .i64 (v.val : Int) (shl1 (s.val : Int)) ≤ 15) ∧ (bitAt (bits .or .i64 (v.val : Int) (shl1 (s.val : Int))) (f.val : Int) ↔ bitAt (v.val : Int) (f.val : Int) ∨ s = f) := by decide +kernel
theorem or_bit {v s : Int} (h0 : 0 ≤ v ∧ v ≤ 15) (hs : 0 ≤ s ∧ s ≤ 3) : (0 ≤ bits .or .i64 v (shl1 s) ∧ bits .or .i64 v (shl1 s) ≤ 15) ∧ ∀ f : Int, 0 ≤ f ∧ f ≤ 3 → (bitAt (bits .or .i64 v (shl1 s)) f ↔ bitAt v f ∨ s = f) := by
  obtain ⟨a, rfl⟩ := Int.eq_ofNat_of_zero_le h0.1
  obtain ⟨b, rfl⟩ := Int.eq_ofNat_of_zero_le hs.1
  refine ⟨(or_bits ⟨a, by omega⟩ ⟨b, by omega⟩ 0).1, fun f hf => ?_⟩
  obtain ⟨c, rfl⟩ := Int.eq_ofNat_of_zero_le hf.1
  have := (or_bits ⟨a, by omega⟩ ⟨b, by omega⟩ ⟨c, by omega⟩).2
  rw [Fin.mk.injEq] at this
  rw [show ((b : Nat) : Int) = ((c : Nat) : Int) ↔ b = c by omega]
  exact this
theorem setI_get {xs : List Int} {k j : Nat} {v : Int} (hk : k < xs.length) : (xs.set k v).getD j 0 = if k = j then v else xs.getD j 0 := by
  rw [List.getD_eq_getElem?_getD, List.getD_eq_getElem?_getD, List.getElem?_set]
  split
  · rename_i e; subst e; simp [hk]
  · rfl
theorem for_bits {xs : List Mail} {c : Int} (h : ∀ m ∈ xs, IsMail m) : ∀ i, i ≤ xs.length → ∀ q : Nat, q < 4 → (0 ≤ (forTo xs c i).getD q 0 ∧ (forTo xs c i).getD q 0 ≤ 15) ∧
    ∀ j, j < i → (xs.getD j zMail).dst = c → (xs.getD j zMail).irq = q → bitAt ((forTo xs c i).getD q 0) (xs.getD j zMail).src
  | 0, _, q, hq => by
    refine ⟨?_, fun j hj => by omega⟩
    have : q = 0 ∨ q = 1 ∨ q = 2 ∨ q = 3 := by omega
    rcases this with e | e | e | e <;> subst e <;> exact ⟨Int.le_refl _, (by decide : (0 : Int) ≤ 15)⟩
  | i + 1, hi, q, hq => by
    have ih := for_bits (c := c) h i (by omega)
    have hm := h _ (getD_mem' (show i < xs.length by omega))
    rw [forTo]
    by_cases hd : (xs.getD i zMail).dst = c
    · rw [if_pos hd]
      have hr := hm.2.2
      rw [setI_get (by rw [forTo_len]; omega)]
      by_cases he : (xs.getD i zMail).irq.toNat = q
      · rw [if_pos he]
        subst he
        obtain ⟨o1, o2⟩ := or_bit (ih _ hq).1 hm.1
        refine ⟨o1, fun j hj h1 h2 => ?_⟩
        have hmj := h _ (getD_mem' (show j < xs.length by omega))
        rw [o2 _ hmj.1]
        rcases Nat.lt_succ_iff_lt_or_eq.1 hj with h' | h'
        · exact .inl ((ih _ hq).2 j h' h1 h2)
        · subst h'; exact .inr rfl
      · rw [if_neg he]
        refine ⟨(ih q hq).1, fun j hj h1 h2 => ?_⟩
        rcases Nat.lt_succ_iff_lt_or_eq.1 hj with h' | h'
        · exact (ih q hq).2 j h' h1 h2
        · subst h'; omega
    · rw [if_neg hd]
      refine ⟨(ih q hq).1, fun j hj h1 h2 => ?_⟩
      rcases Nat.lt_succ_iff_lt_or_eq.1 hj with h' | h'
      · exact (ih q hq).2 j h' h1 h2
      · subst h'; exact absurd h1 hd
def forL (xs : List Mail) (c : Int) : List Int := forTo xs c xs.length
theorem forL_len (xs : List Mail) (c : Int) : (forL xs c).length = 4 := forTo_len xs c xs.length
theorem set_for {xs : List Mail} {f s q : Int} (h : GoodSet xs f s q) {t : Nat} (ht : t < 4) : GoodFor (ssTo xs f s q 4) (t : Int) ∧ (bitAt s (t : Int) → bitAt ((forL (ssTo xs f s q 4) (t : Int)).getD q.toNat 0) f) := by
  have hb := h.box
  refine ⟨⟨hb, by omega, by omega⟩, fun hs => ?_⟩
  obtain ⟨i, h1, h2⟩ := List.mem_iff_getElem.1 (ssTo_has (xs := xs) (f := f) (q := q) ht hs)
  have e : (ssTo xs f s q 4).getD i zMail = ⟨f, (t : Int), q⟩ := by rw [List.getD_eq_getElem?_getD, List.getElem?_eq_getElem h1]; exact h2
  have hq := h.2.2.2.1
  have := (for_bits (c := (t : Int)) (box_iff.1 hb).1 _ (Nat.le_refl _) q.toNat (by omega)).2 i h1 (by rw [e]) (by rw [e]; show q = _; omega)
  rw [e] at this
  exact this

theorem eqC_mail' {a b : Mail} (h : a = b) : eqC [true, true, true] (eMail a) (eMail b) = some true := by
  rw [eqC_mail, decide_eq_true h]
/-! ### Comparisons that are told -/
section
variable {P : Program} {G : Gh} {Y : World → World → Prop} {fr : Fr} {st : Store} {dst : Option Tmp} {ty : TypeId} {pos : String} {aft : Array Edge} {gd : Option (Nat × Bool)} {t t' : TypeId} {x y : Operand} {k : IntKind} {m n : Int} {p q : Bool}
theorem p_neqF (hx : opv fr x = some (.int k m)) (hy : opv fr y = some (.int k n)) (h : m = n) : Pure P G Y fr st ⟨dst, .binOp .neq t x y t', ty, pos, aft, gd⟩ (.bool false) := by
  subst h; exact p_neq_same hx hy
theorem p_eqlT (hx : opv fr x = some (.int k m)) (hy : opv fr y = some (.int k n)) (h : m = n) : Pure P G Y fr st ⟨dst, .binOp .eql t x y t', ty, pos, aft, gd⟩ (.bool true) := by
  subst h; exact p_eql_same hx hy
theorem p_geqF (hx : opv fr x = some (.int k m)) (hy : opv fr y = some (.int k n)) (h : m < n) : Pure P G Y fr st ⟨dst, .binOp .geq t x y t', ty, pos, aft, gd⟩ (.bool false) := by
  rw [show false = decide (n ≤ m) from (decide_eq_false (by omega)).symm]; exact p_geq hx hy
theorem p_lssF (hx : opv fr x = some (.int k m)) (hy : opv fr y = some (.int k n)) (h : n ≤ m) : Pure P G Y fr st ⟨dst, .binOp .lss t x y t', ty, pos, aft, gd⟩ (.bool false) := by
  rw [show false = decide (m < n) from (decide_eq_false (by omega)).symm]; exact p_lss hx hy
theorem p_neqBF (ht : P.underlying t = some .bool) (hx : opv fr x = some (.bool p)) (hy : opv fr y = some (.bool q)) (h : p = q) : Pure P G Y fr st ⟨dst, .binOp .neq t x y t', ty, pos, aft, gd⟩ (.bool false) := by
  subst h; exact p_neq_bsame ht hx hy
end

end Go.Hv
