/-
  Contexts: what is drawn; images loaded and saved again; the law on contexts. No condition.
-/
import Derived.Test.YtejlhpmmgjfllaaCtxDd
namespace Go.Fw
open Go
theorem ERep.takeN {M : Nat → Prop} {w : World} {b t s : Nat} {rows : List (List AV)} (n : Nat) (h : ERep M w b (.arr t s rows)) : ERep M w b (.arr t s (rows.take n)) := by
  obtain ⟨cs, h1, h2, h3, h4, h5⟩ := h
  have htk : ∀ (i : Nat) row, (rows.take n)[i]? = some row → rows[i]? = some row := fun i row hi => by
    rw [List.getElem?_take] at hi; split at hi
    · exact hi
    · cases hi
  exact ⟨cs, h1, Nat.le_trans (Nat.mul_le_mul_right _ (by rw [List.length_take]; omega)) h2, h3, fun i row hi => h4 i row (htk i row hi), fun i row j av hi hj => h5 i row j av (htk i row hi) hj⟩
section
variable {P : Program} {G : Gh} {Y : World → World → Prop} {Q : Post} {fr : Fr} {st rest : Store}
/-- Of a block less is told. -/
theorem a_cut {α : Type} {c : Code} {b t s : Nat} {f : α → List AV} {xs : List α} (n : Nat) (hp : Pick st b (.arr t s (xs.map f)) rest) (h : awp P G c Q fr ((b, .arr t s ((xs.take n).map f)) :: rest)) : awp P G c Q fr st :=
  a_less h (fun a w ⟨M, hM⟩ => ⟨M, hM.write hp (Tr.refl [b] w) (by rw [List.map_take]; exact (hM.sim.ent _ _ hp.mem).takeN n)⟩)
variable {dst : Option Tmp} {ty : TypeId} {pos : String} {aft : Array Edge} {gd : Option (Nat × Bool)} {x y : Operand} {t t' : TypeId} {p q : Bool}
theorem p_neqBF (ht : P.underlying t = some .bool) (hx : opv fr x = some (.bool p)) (hy : opv fr y = some (.bool q)) (h : p = q) : Pure P G Y fr st ⟨dst, .binOp .neq t x y t', ty, pos, aft, gd⟩ (.bool false) := by
  subst h
  exact p_neq_bsame ht hx hy
end
end Go.Fw
namespace Go.Hv
open Go Go.Fw
set_option linter.unusedSimpArgs false
set_option linter.unusedVariables false

/-! ### Drawn lists -/
def DrawnL (ps rs : List BC) : Prop := ps.length ≤ 4 ∧ rs.length ≤ 5 ∧ (∀ p ∈ ps, p.2.regs.words.length ≤ 4) ∧ ∀ r ∈ rs, r ∈ ps
theorem drawn_same {ps : List BC} (h1 : ps.length ≤ 4) (h2 : ∀ p ∈ ps, p.2.regs.words.length ≤ 4) : DrawnL ps ps := ⟨h1, by omega, h2, fun _ h => h⟩
theorem drawn_app {ps : List BC} (h1 : ps.length ≤ 4) (h2 : ∀ p ∈ ps, p.2.regs.words.length ≤ 4) (h0 : 0 < ps.length) : DrawnL ps (ps ++ [ps.getD 0 zBC]) := by
  refine ⟨h1, by rw [List.length_append]; simp; omega, h2, fun r hr => ?_⟩
  rcases List.mem_append.1 hr with h | h
  · exact h
  · rw [List.mem_singleton] at h
    rw [h, List.getD_eq_getElem?_getD, List.getElem?_eq_getElem h0]
    exact List.getElem_mem h0
theorem drawn_mem {ps : List BC} {v : BC} (h2 : ∀ p ∈ ps, p.2.regs.words.length ≤ 4) (hv : v.2.regs.words.length ≤ 4) : ∀ p ∈ ps ++ [v], p.2.regs.words.length ≤ 4 := fun p hp => by
  rcases List.mem_append.1 hp with h | h
  · exact h2 p h
  · rw [List.mem_singleton] at h; rw [h]; exact hv
theorem drawn_vw {ps rs : List BC} {t b : Nat} {e : Entry} (h : DrawnL ps rs) : ∀ x ∈ fam (famC t) rs, x ∈ (b, e) :: fam (famC t) ps := fun x hx => by
  obtain ⟨r, hr, rfl⟩ := List.mem_map.1 hx
  exact List.mem_cons_of_mem _ (mem_fam (h.2.2.2 r hr))
theorem drawn_small {ps rs : List BC} (h : DrawnL ps rs) : SmallL (rs.map (·.2)) := by
  refine ⟨by rw [List.length_map]; have := h.2.1; omega, fun j hj => ?_⟩
  rw [List.length_map] at hj
  have : (rs.map (·.2)).getD j zContext = rs[j].2 := by simp [List.getD_eq_getElem?_getD, hj]
  rw [this]
  have := h.2.2.1 _ (h.2.2.2 _ (List.getElem_mem hj))
  unfold SmallC; omega
theorem all_set {l : List Int} {m lo hi : Int} (k : Nat) (h : ∀ x ∈ l, lo ≤ x ∧ x ≤ hi) (hm : lo ≤ m ∧ m ≤ hi) : ∀ x ∈ l.set k m, lo ≤ x ∧ x ≤ hi := fun x hx => by
  rcases List.mem_or_eq_of_mem_set hx with h' | rfl
  · exact h x h'
  · exact hm
theorem all_wide {l : List Int} {lo hi lo' hi' : Int} (h : ∀ x ∈ l, lo ≤ x ∧ x ≤ hi) (h1 : lo' ≤ lo) (h2 : hi ≤ hi') : ∀ x ∈ l, lo' ≤ x ∧ x ≤ hi' := fun x hx => by have := h x hx; omega
theorem at_rng {xs : List Int} {lo hi : Int} (h : ∀ x ∈ xs, lo ≤ x ∧ x ≤ hi) {j : Nat} (hj : j < xs.length) : lo ≤ xs.getD j 0 ∧ xs.getD j 0 ≤ hi := by
  rw [List.getD_eq_getElem?_getD, List.getElem?_eq_getElem hj]
  exact h _ (List.getElem_mem hj)
theorem mul_w {a w : Int} (h : -1 ≤ w ∧ w ≤ 65536) (h0 : 0 ≤ a) (h1 : a ≤ 11) : -11 ≤ w * a ∧ w * a ≤ 720896 := by
  have h2 : w * a ≤ 65536 * a := Int.mul_le_mul_of_nonneg_right h.2 h0
  have h3 : -1 * a ≤ w * a := Int.mul_le_mul_of_nonneg_right h.1 h0
  omega

/-! ### Images -/
theorem chk_rng {c : Context} (h : IsContext c) : 0 ≤ chk (wordsV c) ∧ chk (wordsV c) ≤ 65535 := by unfold chk; omega
theorem image_rng {c : Context} (h : IsContext c) : ∀ x ∈ imageV c, 0 ≤ x ∧ x ≤ 65535 := fun x hx => by
  unfold imageV at hx
  rcases List.mem_append.1 hx with h' | h'
  · obtain ⟨j, hj, rfl⟩ := List.getElem_of_mem h'
    have := word_b (words_ok h) hj
    rwa [List.getD_eq_getElem?_getD, List.getElem?_eq_getElem hj] at this
  · rw [List.mem_singleton] at h'; rw [h']; exact chk_rng h
theorem ctx_image {c : Context} (h : IsContext c) : ctxOf (imageV c) = c := by
  obtain ⟨w0, w1, w2, w3, e, _⟩ := words_four h
  obtain ⟨id, ⟨ws, pc, f, g⟩, wt, pd⟩ := c
  simp only at e
  subst e
  cases f <;> cases g <;> rfl
theorem load_image {c : Context} (h : IsContext c) : GoodLoad (imageV c) := by
  have hl := image_len h
  refine ⟨⟨hl, ?_⟩, rfl, ?_, by rw [ctx_image h]; exact h, ?_⟩
  · rw [first_none fun j hj => ?_]
    · omega
    · have := at_rng (image_rng h) hj
      unfold NotWord; rw [decide_eq_true this]; rfl
  · rw [image_take h]
    unfold imageV
    rw [List.getD_eq_getElem?_getD, List.getElem?_append_right (by rw [words_len h]; omega), words_len h]; rfl
  · rw [image_at h (by omega)]
    obtain ⟨w0, w1, w2, w3, e, _⟩ := words_four h
    have := flags_rng c
    unfold wordsV; rw [e]
    exact this.2
theorem eleven {xs : List Int} (h : xs.length = 11) : ∃ x0 x1 x2 x3 x4 x5 x6 x7 x8 x9 x10, xs = [x0, x1, x2, x3, x4, x5, x6, x7, x8, x9, x10] := by
  match xs, h with
  | [x0, x1, x2, x3, x4, x5, x6, x7, x8, x9, x10], _ => exact ⟨x0, x1, x2, x3, x4, x5, x6, x7, x8, x9, x10, rfl⟩
theorem flags_of {x : Int} (h0 : 0 ≤ x) (h3 : x ≤ 3) : (if decide (x % 2 = 1) = true then (1 : Int) else 0) + (if decide (x / 2 = 1) = true then 2 else 0) = x := by
  have : x = 0 ∨ x = 1 ∨ x = 2 ∨ x = 3 := by omega
  rcases this with rfl | rfl | rfl | rfl <;> decide
theorem image_ctx {xs : List Int} (h : GoodLoad xs) : imageV (ctxOf xs) = xs := by
  obtain ⟨⟨h1, h2⟩, h3, h4, h5, h6⟩ := h
  have hw := words_of h2
  have h7 := (word_b (n := xs.length) hw (j := 7) (by omega)).1
  obtain ⟨x0, x1, x2, x3, x4, x5, x6, x7, x8, x9, x10, rfl⟩ := eleven h1
  have e0 : x0 = 2 := h3
  have e7 : flagsV (ctxOf [x0, x1, x2, x3, x4, x5, x6, x7, x8, x9, x10]) = x7 := flags_of (x := x7) h7 h6
  have ew : wordsV (ctxOf [x0, x1, x2, x3, x4, x5, x6, x7, x8, x9, x10]) = [x0, x1, x2, x3, x4, x5, x6, x7, x8, x9] := by
    unfold wordsV; rw [e7, e0]; rfl
  have e10 : x10 = chk [x0, x1, x2, x3, x4, x5, x6, x7, x8, x9] := h4
  unfold imageV
  rw [ew, e10]; rfl

theorem ret_b {p : Prop} [Decidable p] {b : Bool} (h : b = true ↔ p) : Ret (.bool (decide p)) (.bool b) [] :=
  ⟨congrArg AV.bool (by rw [Bool.eq_iff_iff, h, decide_eq_true_eq]), rfl⟩

/-! ### The same context -/
def SameR (a b : Registers) : Prop := a.words = b.words ∧ a.pc = b.pc ∧ a.f = b.f ∧ a.g = b.g
instance (a b : Registers) : Decidable (SameR a b) := by unfold SameR; infer_instance
def SameC (a b : Context) : Prop := a.id = b.id ∧ SameR a.regs b.regs ∧ a.wait = b.wait ∧ a.pend = b.pend
instance (a b : Context) : Decidable (SameC a b) := by unfold SameC; infer_instance
theorem sameC_refl (a : Context) : SameC a a := ⟨rfl, ⟨rfl, rfl, rfl, rfl⟩, rfl, rfl⟩
theorem ints_ne {xs ys : List Int} {i : Nat} (h : xs.getD i 0 ≠ ys.getD i 0) : ¬ xs = ys := fun e => h (by rw [e])
theorem ints_eq {xs ys : List Int} (hl : xs.length = ys.length) (h : ∀ j, j < xs.length → xs.getD j 0 = ys.getD j 0) : xs = ys := by
  apply List.ext_getElem hl
  intro i h1 h2
  have := h i h1
  rwa [List.getD_eq_getElem?_getD, List.getElem?_eq_getElem h1, List.getD_eq_getElem?_getD, List.getElem?_eq_getElem h2] at this
theorem chg_zero (a b : Context) : ∀ n, (chgTo a b n).length = 0 ↔ ∀ j, j < n → (wordsV a).getD j 0 = (wordsV b).getD j 0
  | 0 => ⟨fun _ j hj => absurd hj (Nat.not_lt_zero _), fun _ => rfl⟩
  | n + 1 => by
    rw [chgTo]
    split
    · rename_i h
      constructor
      · intro q; rw [List.length_append] at q; simp at q
      · intro q; exact absurd (q n (by omega)) h
    · rename_i h
      rw [chg_zero a b n]
      constructor
      · intro q j hj
        rcases Nat.lt_or_ge j n with h' | h'
        · exact q j h'
        · have : j = n := by omega
          subst this; exact Classical.not_not.1 h
      · exact fun q j hj => q j (by omega)
theorem chg_same {a b : Context} (h : GoodTwo a b) : decide (((chgL a b).length : Int) = 0) = decide (SameC a b) := by
  rw [decide_eq_decide]
  have e : (((chgL a b).length : Int) = 0) ↔ ∀ j, j < 10 → (wordsV a).getD j 0 = (wordsV b).getD j 0 := by
    rw [← chg_zero a b 10]; unfold chgL; omega
  rw [e]
  obtain ⟨u0, u1, u2, u3, eu, _⟩ := words_four h.1
  obtain ⟨v0, v1, v2, v3, ev, _⟩ := words_four h.2
  obtain ⟨id, ⟨ws, pc, f, g⟩, wt, pd⟩ := a
  obtain ⟨id', ⟨ws', pc', f', g'⟩, wt', pd'⟩ := b
  simp only at eu ev
  subst eu ev
  constructor
  · intro q
    have q1 : id = id' := q 1 (by omega)
    have q2 : u0 = v0 := q 2 (by omega)
    have q3 : u1 = v1 := q 3 (by omega)
    have q4 : u2 = v2 := q 4 (by omega)
    have q5 : u3 = v3 := q 5 (by omega)
    have q6 : pc = pc' := q 6 (by omega)
    have q7 : (if f = true then (1 : Int) else 0) + (if g = true then 2 else 0) = (if f' = true then (1 : Int) else 0) + (if g' = true then 2 else 0) := q 7 (by omega)
    have q8 : wt = wt' := q 8 (by omega)
    have q9 : pd = pd' := q 9 (by omega)
    have q10 : f = f' ∧ g = g' := by
      revert q7
      cases f <;> cases g <;> cases f' <;> cases g' <;> decide
    exact ⟨q1, ⟨by show [u0, u1, u2, u3] = [v0, v1, v2, v3]; rw [q2, q3, q4, q5], q6, q10.1, q10.2⟩, q8, q9⟩
  · rintro ⟨q1, ⟨q2, q3, q4, q5⟩, q6, q7⟩ j _
    simp only at q1 q2 q3 q4 q5 q6 q7
    subst q1 q3 q4 q5 q6 q7
    unfold wordsV flagsV
    simp only [q2]

/-! ### Results in one or the other case -/
def pickL (c : Prop) [Decidable c] (p : List Int) : List Int := if c then p else []
def pickS (c : Prop) [Decidable c] (p : List (List Int)) : List (List Int) := if c then p else []
def pickX (c : Prop) [Decidable c] (p : Context) : Context := if c then p else zContext
def pickF (c : Prop) [Decidable c] (n : Int) : Int := if c then 0 else n
theorem pickL_y {c : Prop} [Decidable c] {p : List Int} (h : c) : pickL c p = p := if_pos h
theorem pickL_n {c : Prop} [Decidable c] {p : List Int} (h : ¬ c) : pickL c p = [] := if_neg h
theorem pickS_y {c : Prop} [Decidable c] {p : List (List Int)} (h : c) : pickS c p = p := if_pos h
theorem pickS_n {c : Prop} [Decidable c] {p : List (List Int)} (h : ¬ c) : pickS c p = [] := if_neg h
theorem pickX_y {c : Prop} [Decidable c] {p : Context} (h : c) : pickX c p = p := if_pos h
theorem pickX_n {c : Prop} [Decidable c] {p : Context} (h : ¬ c) : pickX c p = zContext := if_neg h
theorem pickF_y {c : Prop} [Decidable c] {p : Int} (h : c) : pickF c p = 0 := if_pos h
theorem pickF_n {c : Prop} [Decidable c] {p : Int} (h : ¬ c) : pickF c p = p := if_neg h
theorem pickL_small {c : Prop} [Decidable c] {p : List Int} (h : c → p.length ≤ 1048576) : (pickL c p).length ≤ 1048576 := by
  unfold pickL; split
  · exact h (by assumption)
  · exact Nat.zero_le _
theorem pickX_small {c : Prop} [Decidable c] {p : Context} (h : c → SmallC p) : SmallC (pickX c p) := by
  unfold pickX; split
  · exact h (by assumption)
  · exact Nat.zero_le _
theorem pickS_deep {c : Prop} [Decidable c] {p : List (List Int)} (h : c → DeepL p) : DeepL (pickS c p) := by
  unfold pickS; split
  · exact h (by assumption)
  · exact ⟨Nat.zero_le _, fun j hj => absurd hj (Nat.not_lt_zero _)⟩
theorem small_four {c : Context} (h : c.regs.words.length ≤ 4) : SmallC c := by unfold SmallC; omega

end Go.Hv
