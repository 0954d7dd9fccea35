/-
  Mails: what all processors get; marking lists of lists. No condition.
-/
import Derived.Test.YtmdhojgkhbihaaaMailEd
namespace Go.Hv
open Go Go.Fw
set_option linter.unusedSimpArgs false
set_option linter.unusedVariables false

/-! ### What is taken depends on the mails to that processor alone -/
def selO (c : Int) (acc : Option Mail) (m : Mail) : Option Mail := if m.dst = c ∧ (∀ b, acc = some b → Sooner m b) then some m else acc
def isD (c : Int) (m : Mail) : Bool := decide (m.dst = c)
def toc (xs : List Mail) (c : Int) : List Mail := xs.filter (isD c)
instance (acc : Option Mail) (m : Mail) : Decidable (∀ b, acc = some b → Sooner m b) := match acc with
  | none => .isTrue (fun _ h => by cases h)
  | some b => if h : Sooner m b then .isTrue (fun b' e => by cases e; exact h) else .isFalse (fun q => h (q b rfl))
theorem selO_iff {c : Int} {acc : Option Mail} {m : Mail} : selO c acc m = if m.dst = c ∧ (∀ b, acc = some b → Sooner m b) then some m else acc := by
  unfold selO
  split <;> rename_i h <;> simp [h]
theorem sel_filter (c : Int) : ∀ (xs : List Mail) (a : Option Mail), xs.foldl (selO c) a = (toc xs c).foldl (selO c) a
  | [], a => rfl
  | m :: xs, a => by
    rw [List.foldl_cons, sel_filter c xs, toc, toc, List.filter_cons]
    by_cases h : m.dst = c
    · rw [if_pos (show isD c m = true from decide_eq_true h), List.foldl_cons]
    · rw [if_neg (show ¬ isD c m = true from by unfold isD; rw [decide_eq_false h]; decide)]
      congr 1
      unfold selO
      rw [if_neg (fun q => h q.1)]
theorem next_fold (xs : List Mail) (c : Int) : ∀ i, i ≤ xs.length → (xs.take i).foldl (selO c) none = if nextTo xs c i < 0 then none else some (xs.getD (nextTo xs c i).toNat zMail)
  | 0, _ => by simp [nextTo]
  | i + 1, hi => by
    have ih := next_fold xs c i (by omega)
    have e : xs.take (i + 1) = xs.take i ++ [xs.getD i zMail] := by
      rw [List.take_add_one, List.getD_eq_getElem?_getD, List.getElem?_eq_getElem (by omega)]; rfl
    rw [e, List.foldl_append, ih, List.foldl_cons, List.foldl_nil, nextTo]
    have hl := nextTo_lt xs c i
    by_cases hn : Next1 xs c i (nextTo xs c i)
    · rw [if_pos hn, if_neg (show ¬ ((i : Int) < 0) by omega), Int.toNat_natCast, selO, if_pos]
      refine ⟨hn.1, fun b hb => ?_⟩
      split at hb
      · cases hb
      · rename_i h0
        cases hb
        exact hn.2.resolve_left h0
    · rw [if_neg hn, selO, if_neg]
      rintro ⟨q1, q2⟩
      refine hn ⟨q1, ?_⟩
      by_cases h0 : nextTo xs c i < 0
      · exact .inl h0
      · rw [if_neg h0] at q2
        exact .inr (q2 _ rfl)
theorem take_fold (xs : List Mail) (c : Int) : (toc xs c).foldl (selO c) none = if takeI xs c < 0 then none else some (takeM xs c) := by
  rw [← sel_filter]
  have := next_fold xs c xs.length (Nat.le_refl _)
  rwa [List.take_length] at this
theorem take_same {xs ys : List Mail} {c : Int} (h : toc xs c = toc ys c) (h0 : 0 ≤ takeI xs c) : 0 ≤ takeI ys c ∧ takeM ys c = takeM xs c := by
  have h1 := take_fold xs c
  have h2 := take_fold ys c
  rw [if_neg (show ¬ takeI xs c < 0 by omega), h, h2] at h1
  by_cases hy : takeI ys c < 0
  · rw [if_pos hy] at h1; cases h1
  · rw [if_neg hy] at h1
    exact ⟨by omega, Option.some.inj h1⟩
theorem toc_nil {xs : List Mail} {c : Int} : takeI xs c < 0 ↔ toc xs c = [] := by
  unfold takeI toc
  rw [nextTo_neg, List.filter_eq_nil_iff]
  constructor
  · intro h m hm
    obtain ⟨i, h1, h2⟩ := List.mem_iff_getElem.1 hm
    have := h i h1
    rw [List.getD_eq_getElem?_getD, List.getElem?_eq_getElem h1, Option.getD_some, h2] at this
    unfold isD; rw [decide_eq_true_eq]; exact this
  · intro h j hj e
    exact h _ (getD_mem' hj) (decide_eq_true e)
theorem toc_take {xs : List Mail} {c : Int} (hb : IsBox xs) (h0 : 0 ≤ takeI xs c) : toc (takeL xs c) c = (toc xs c).erase (takeM xs c) ∧ (toc (takeL xs c) c).length + 1 = (toc xs c).length ∧ (∀ d, d ≠ c → toc (takeL xs c) d = toc xs d) ∧ IsBox (takeL xs c) := by
  have h1 := (takeI_lt xs c).2
  have hi : (takeI xs c).toNat < xs.length := by omega
  have hs := split_at hi
  have hd : (takeM xs c).dst = c := nextTo_dst xs c xs.length h0
  have hw := without_box hb hi
  have e : toc xs c = toc (xs.take (takeI xs c).toNat) c ++ takeM xs c :: toc (xs.drop ((takeI xs c).toNat + 1)) c := by
    conv => lhs; rw [hs]
    unfold toc
    rw [List.filter_append, List.filter_cons, if_pos (show isD c (xs.getD (takeI xs c).toNat zMail) = true from decide_eq_true hd)]
    rfl
  have e2 : toc (takeL xs c) c = toc (xs.take (takeI xs c).toNat) c ++ toc (xs.drop ((takeI xs c).toNat + 1)) c := by
    unfold toc takeL without
    rw [List.filter_append]
  have hn : takeM xs c ∉ toc (xs.take (takeI xs c).toNat) c := fun q => hw.2 (List.mem_append_left _ (List.mem_filter.1 q).1)
  refine ⟨?_, ?_, fun d hdc => ?_, hw.1⟩
  · rw [e, e2, List.erase_append_right _ hn, List.erase_cons_head]
  · rw [e, e2, List.length_append, List.length_append, List.length_cons]; omega
  · conv => rhs; rw [hs]
    unfold toc takeL without
    rw [List.filter_append, List.filter_append, List.filter_cons, if_neg (show ¬ isD d (xs.getD (takeI xs c).toNat zMail) = true from fun q => hdc ((of_decide_eq_true q).symm.trans hd))]

/-! ### Taking all -/
def dN (xs : List Mail) (c : Int) : Nat → List Mail
  | 0 => xs
  | k + 1 => takeL (dN xs c k) c
def gN (xs : List Mail) (c : Int) : Nat → List Int
  | 0 => []
  | k + 1 => gN xs c k ++ [(takeM (dN xs c k) c).irq]
def nN (xs : List Mail) (c : Int) : Nat := (toc xs c).length
def gets (xs : List Mail) (c : Int) : List Int := gN xs c (nN xs c)
theorem gN_len (xs : List Mail) (c : Int) : ∀ k, (gN xs c k).length = k
  | 0 => rfl
  | k + 1 => by rw [gN, List.length_append, gN_len xs c k]; rfl
theorem gets_len (xs : List Mail) (c : Int) : (gets xs c).length = nN xs c := gN_len _ _ _
structure DInv (xs : List Mail) (c : Int) (k : Nat) : Prop where
  box : IsBox (dN xs c k)
  le : k ≤ nN xs c
  left : (toc (dN xs c k) c).length = nN xs c - k
  other : ∀ d, d ≠ c → toc (dN xs c k) d = toc xs d
theorem DInv.zero {xs : List Mail} (h : IsBox xs) (c : Int) : DInv xs c 0 := ⟨h, Nat.zero_le _, rfl, fun _ _ => rfl⟩
theorem DInv.more {xs : List Mail} {c : Int} {k : Nat} (h : DInv xs c k) : 0 ≤ takeI (dN xs c k) c ↔ k < nN xs c := by
  have h1 := toc_nil (xs := dN xs c k) (c := c)
  have h2 := h.left
  constructor
  · intro q
    have : toc (dN xs c k) c ≠ [] := fun e => by have := h1.2 e; omega
    have := List.length_pos_iff.2 this
    omega
  · intro q
    refine Int.not_lt.1 (fun q2 => ?_)
    rw [h1.1 q2] at h2
    simp at h2; omega
theorem DInv.next {xs : List Mail} {c : Int} {k : Nat} (h : DInv xs c k) (h0 : 0 ≤ takeI (dN xs c k) c) : DInv xs c (k + 1) := by
  obtain ⟨t1, t2, t3, t4⟩ := toc_take h.box h0
  have := h.left
  exact ⟨t4, h.more.1 h0, by rw [dN]; omega, fun d hd => by rw [dN, t3 d hd]; exact h.other d hd⟩
theorem DInv.end' {xs : List Mail} {c : Int} {k : Nat} (h : DInv xs c k) (h0 : ¬ 0 ≤ takeI (dN xs c k) c) : k = nN xs c := by
  have := h.more
  have := h.le
  omega
theorem dInv {xs : List Mail} (h : IsBox xs) (c : Int) : ∀ k, k ≤ nN xs c → DInv xs c k
  | 0, _ => .zero h c
  | k + 1, hk => by
    have ih := dInv h c k (by omega)
    exact ih.next (ih.more.2 hk)
theorem gN_same {xs ys : List Mail} {c : Int} (hx : IsBox xs) (hy : IsBox ys) (h : toc xs c = toc ys c) : ∀ k, k ≤ nN xs c → toc (dN xs c k) c = toc (dN ys c k) c ∧ gN xs c k = gN ys c k
  | 0, _ => ⟨h, rfl⟩
  | k + 1, hk => by
    obtain ⟨i1, i2⟩ := gN_same hx hy h k (by omega)
    have e : nN ys c = nN xs c := by unfold nN; rw [h]
    have dx := dInv hx c k (by omega)
    have dy := dInv hy c k (by omega)
    have h0 := dx.more.2 hk
    obtain ⟨j1, j2⟩ := take_same i1 h0
    have t1 := (toc_take dx.box h0).1
    have t2 := (toc_take dy.box j1).1
    refine ⟨by rw [dN, dN, t1, t2, i1, j2], by rw [gN, gN, i2, j2]⟩
theorem gets_same {xs ys : List Mail} {c : Int} (hx : IsBox xs) (hy : IsBox ys) (h : toc xs c = toc ys c) : gets xs c = gets ys c := by
  have e : nN ys c = nN xs c := by unfold nN; rw [h]
  unfold gets
  rw [e]
  exact (gN_same hx hy h _ (Nat.le_refl _)).2
/-- The box, when c processors have taken all that is theirs. -/
def bN (xs : List Mail) : Nat → List Mail
  | 0 => xs
  | c + 1 => dN (bN xs c) (c : Int) (nN (bN xs c) (c : Int))
theorem bN_is {xs : List Mail} (h : IsBox xs) : ∀ c, IsBox (bN xs c) ∧ ∀ d : Int, (c : Int) ≤ d → toc (bN xs c) d = toc xs d
  | 0 => ⟨h, fun _ _ => rfl⟩
  | c + 1 => by
    obtain ⟨h1, h2⟩ := bN_is h c
    have hd := dInv h1 (c : Int) _ (Nat.le_refl _)
    exact ⟨hd.box, fun d hc => by rw [bN, hd.other d (by omega)]; exact h2 d (by omega)⟩
theorem gets_bN {xs : List Mail} (h : IsBox xs) (c : Nat) : gets (bN xs c) (c : Int) = gets xs (c : Int) :=
  gets_same (bN_is h c).1 h ((bN_is h c).2 _ (Int.le_refl _))
def getsTo (xs : List Mail) : Nat → List (List Int)
  | 0 => []
  | c + 1 => getsTo xs c ++ [gets xs (c : Int)]
theorem getsTo_len (xs : List Mail) : ∀ c, (getsTo xs c).length = c
  | 0 => rfl
  | c + 1 => by rw [getsTo, List.length_append, getsTo_len xs c]; rfl
def getsL (xs : List Mail) : List (List Int) := getsTo xs 4
theorem getsTo_get (xs : List Mail) : ∀ {n c : Nat}, c < n → (getsTo xs n).getD c [] = gets xs (c : Int)
  | 0, c, h => by omega
  | n + 1, c, h => by
    have l := getsTo_len xs n
    rw [getsTo]
    rcases Nat.lt_succ_iff_lt_or_eq.1 h with h' | h'
    · rw [← getsTo_get xs h', List.getD_eq_getElem?_getD, List.getElem?_append_left (by omega), ← List.getD_eq_getElem?_getD]
    · subst h'
      rw [List.getD_eq_getElem?_getD, List.getElem?_append_right (by omega), l]; simp
theorem nN_le {xs : List Mail} (h : IsBox xs) (c : Int) : nN xs c ≤ 20 := Nat.le_trans (List.length_filter_le _ _) h.2
theorem gets_step {ps : List BI} {xs : List Mail} {c b : Nat} {g : List Int} (h : ps.map (·.2) = getsTo xs c) (hg : g = gets xs (c : Int)) : (ps ++ [(b, g)]).map (·.2) = getsTo xs (c + 1) := by
  rw [List.map_append, h, getsTo, hg]; rfl

/-! ### Marking lists of lists -/
def mkRow (k : Int) (n : Nat) : List Int := (List.range n).map (mkI k)
def kA (k : Int) (ps : List BI) : Nat → Int
  | 0 => k
  | j + 1 => kA k ps j + 1 * ((ps.getD j zBI).2.length : Int)
def mkP (k : Int) (ps : List BI) (j : Nat) : BI := ((ps.getD j zBI).1, mkRow (kA k ps j) (ps.getD j zBI).2.length)
def markP (k : Int) (ps : List BI) : List BI := (List.range ps.length).map (mkP k ps)
theorem kA_add (k : Int) (ps : List BI) : ∀ j, kA k ps j = k + kA 0 ps j
  | 0 => by simp [kA]
  | j + 1 => by rw [kA, kA, kA_add k ps j]; omega
def DeepI (ps : List BI) : Prop := ps.length ≤ 1048576 ∧ ∀ j, j < ps.length → (ps.getD j zBI).2.length ≤ 1048576 ∧ 0 ≤ kA 0 ps j ∧ kA 0 ps j ≤ 2000000
def DeepL (xs : List (List Int)) : Prop := xs.length ≤ 1048576 ∧ ∀ j, j < xs.length → (xs.getD j []).length ≤ 1048576
theorem mkP_row {k : Int} {ps : List BI} {i : Nat} (hi : i < ps.length) : (putTo (mkP k ps) ps i).map rowI = ps.map rowI := by
  apply List.ext_getElem?
  intro j
  rw [List.getElem?_map, List.getElem?_map, putTo]
  by_cases hj : j < i
  · rw [List.getElem?_append_left (by simp; exact hj), List.getElem?_map, List.getElem?_range hj, List.getElem?_eq_getElem (show j < ps.length by omega)]
    simp [mkP, rowI, mkRow, List.getD_eq_getElem?_getD, show j < ps.length by omega]
  · rw [List.getElem?_append_right (by simp; omega), List.length_map, List.length_range, List.getElem?_drop, show i + (j - i) = j by omega]
theorem markP_row (k : Int) (ps : List BI) : (markP k ps).map rowI = ps.map rowI := by
  apply List.ext_getElem?
  intro j
  rw [List.getElem?_map, List.getElem?_map, markP, List.getElem?_map]
  by_cases hj : j < ps.length
  · rw [List.getElem?_range hj, List.getElem?_eq_getElem hj]
    simp [mkP, rowI, mkRow, List.getD_eq_getElem?_getD, hj]
  · rw [List.getElem?_eq_none (by simp; omega), List.getElem?_eq_none (by omega)]; rfl
theorem markP_len (k : Int) (ps : List BI) : (markP k ps).length = ps.length := by simp [markP]
theorem rowG2 {α β : Type} (e : β → List AV) (h : α → β) (g : Nat → α) {n i : Nat} (hi : i < n) : ((((List.range n).map g).map h).map e)[i]? = some (e (h (g i))) := by
  rw [List.getElem?_map, List.getElem?_map, List.getElem?_map, List.getElem?_range hi]; rfl
theorem deep_gets {xs : List Mail} (h : IsBox xs) : DeepL (getsL xs) := by
  refine ⟨by rw [getsL, getsTo_len]; omega, fun j hj => ?_⟩
  rw [getsL, getsTo_len] at hj
  rw [getsL, getsTo_get xs hj, gets_len]
  have := nN_le h (j : Int)
  omega
theorem deepI_of {ps : List BI} {xs : List (List Int)} (h : ps.map (·.2) = xs) (hl : xs.length ≤ 1000) (hr : ∀ j, j < xs.length → (xs.getD j []).length ≤ 1000) : DeepI ps := by
  subst h
  rw [List.length_map] at hl
  have hr' : ∀ j, j < ps.length → (ps.getD j zBI).2.length ≤ 1000 := fun j hj => by
    have := hr j (by rw [List.length_map]; exact hj)
    rwa [List.getD_eq_getElem?_getD, List.getElem?_map, List.getElem?_eq_getElem hj] at this
      |> fun q => by simpa [List.getD_eq_getElem?_getD, List.getElem?_eq_getElem hj] using q
  have hk : ∀ j, j ≤ ps.length → 0 ≤ kA 0 ps j ∧ kA 0 ps j ≤ 1000 * j := fun j => by
    induction j with
    | zero => intro _; exact ⟨Int.le_refl _, by simp [kA]⟩
    | succ j ih =>
      intro hj
      have := ih (by omega)
      have := hr' j (by omega)
      rw [kA]; omega
  exact ⟨by omega, fun j hj => ⟨by have := hr' j hj; omega, (hk j (by omega)).1, by have := (hk j (by omega)).2; omega⟩⟩
theorem deep_ps {xs : List Mail} {ps : List BI} (h : IsBox xs) (hp : ps.map (·.2) = getsL xs) : DeepI ps :=
  deepI_of hp (by rw [getsL, getsTo_len]; omega) (fun j hj => by
    rw [getsL, getsTo_len] at hj
    rw [getsL, getsTo_get xs hj, gets_len]
    have := nN_le h (j : Int)
    omega)

theorem fam_put {α : Type} (f : α → Nat × Entry) (g : Nat → α) (z : α) {ps : List α} {i : Nat} (hi : i < ps.length) : fam f (putTo g ps i) = fam f ((putTo g ps i).take i) ++ f (ps.getD i z) :: fam f ((putTo g ps i).drop (i + 1)) := by
  have h := fam_split f (ps := putTo g ps i) (i := i) z (by rw [putTo_length _ _ (by omega)]; exact hi)
  have e : (putTo g ps i).getD i z = ps.getD i z := by
    rw [List.getD_eq_getElem?_getD, List.getD_eq_getElem?_getD, putTo, List.getElem?_append_right (by simp), List.length_map, List.length_range, List.getElem?_drop, Nat.sub_self, Nat.add_zero]
  rwa [e] at h
theorem fam_put' {α : Type} (f : α → Nat × Entry) (g : Nat → α) {ps : List α} {i : Nat} (hi : i < ps.length) : fam f (putTo g ps (i + 1)) = fam f ((putTo g ps i).take i) ++ f (g i) :: fam f ((putTo g ps i).drop (i + 1)) := by
  rw [← putTo_set _ _ hi, fam_set f (g i) (by rw [putTo_length _ _ (by omega)]; exact hi)]
theorem deep_kA {ps : List BI} (h : DeepI ps) {k : Int} (h0 : 0 ≤ k) : ∀ i, i ≤ ps.length → k ≤ kA k ps i ∧ kA k ps i ≤ k + 4000000 := fun i hi => by
  rw [kA_add]
  cases i with
  | zero => simp only [kA]; omega
  | succ i =>
    have := h.2 i (by omega)
    rw [kA]; omega
theorem deepL_of {ps : List BI} (h : DeepI ps) : DeepL (ps.map (·.2)) := by
  refine ⟨by rw [List.length_map]; exact h.1, fun j hj => ?_⟩
  rw [List.length_map] at hj
  have := (h.2 j hj).1
  simpa [List.getD_eq_getElem?_getD, hj] using this

theorem aops_app {P : Program} {G : Gh} {ops : Array Oper} {l : List Oper} {K : Fr → Store → Prop} {fr : Fr} {r : Store} (A A' : Store) (h : A = A') (k : Aops P G ops l K fr (A' ++ r)) : Aops P G ops l K fr (A ++ r) := h ▸ k

end Go.Hv
