/-
  Contexts: lists of them, each with words of its own; marking. No condition.
-/
import Derived.Test.YtejlhpmmgjfllaaCtxCd
namespace Go.Hv
open Go Go.Fw
set_option linter.unusedSimpArgs false
set_option linter.unusedVariables false

/-! ### Pairs of a block and a context -/
abbrev BC := Nat × Context
def zBC : BC := (0, zContext)
def famC (t : TypeId) (p : BC) : Nat × Entry := (p.1, .arr t 1 (p.2.regs.words.map eInt))
def rowC (p : BC) : List AV := [.int .i64 p.2.id, .own 1 p.1 0 p.2.regs.words.length, .int .i64 p.2.regs.pc, .bool p.2.regs.f, .bool p.2.regs.g, .int .i64 p.2.wait, .int .i64 p.2.pend]
theorem closed_famC (t : TypeId) (p : BC) : ClosedE (famC t p).2 := closedAll _ _ _ _ (fun _ => all_cons' (closed_int _ _) all_nil')
theorem closed_rowC : ∀ p, ∀ c ∈ rowC p, Closed c := fun _ => all_cons' (closed_int _ _) (all_cons' (closed_own _ _ _ _) (all_cons' (closed_int _ _) (all_cons' (closed_bool _) (all_cons' (closed_bool _) (all_cons' (closed_int _ _) (all_cons' (closed_int _ _) all_nil'))))))
theorem vwR_ctx {t : TypeId} {st : Store} {ps : List BC} (h : ∀ x ∈ fam (famC t) ps, x ∈ st) : VwR st (ps.map rowC) ((ps.map (·.2)).map eContext) :=
  vwR_map (fun p hp => .cons (.refl _) (.cons (.own (h _ (mem_fam hp)) (List.length_map _)) (.cons (.refl _) (.cons (.refl _) (.cons (.refl _) (.cons (.refl _) (.cons (.refl _) .nil)))))))
theorem vwR_ctx' {t : TypeId} {st : Store} {ps : List BC} {xs : List Context} (he : ps.map (·.2) = xs) (h : ∀ x ∈ fam (famC t) ps, x ∈ st) : VwR st (ps.map rowC) (xs.map eContext) := he ▸ vwR_ctx h
def oC : Option BC → List AV
  | none => [.int .i64 0, .nil, .int .i64 0, .bool false, .bool false, .int .i64 0, .int .i64 0]
  | some p => rowC p
theorem oC_len (c : Option BC) : (oC c).length = 7 := by cases c <;> rfl
def fillC (ps : List BC) (n : Nat) : List (Option BC) := ps.map some ++ List.replicate (n - ps.length) none
theorem fillC_len {ps : List BC} {n : Nat} (h : ps.length ≤ n) : (fillC ps n).length = n := by simp [fillC]; omega
theorem fillC_set {ps : List BC} {n : Nat} (p : BC) (h : ps.length < n) : (fillC ps n).set ps.length (some p) = fillC (ps ++ [p]) n := by
  unfold fillC
  rw [show n - ps.length = (n - (ps ++ [p]).length) + 1 by simp; omega, List.replicate_succ, List.set_append_right _ _ (by simp)]
  simp
theorem fillC_all {ps : List BC} {n : Nat} (h : ps.length = n) : (fillC ps n).map oC = ps.map rowC := by
  unfold fillC
  rw [h, Nat.sub_self, List.replicate_zero, List.append_nil, List.map_map]
  rfl

theorem fillC_set' {ps : List BC} {n i : Nat} (p : BC) (h : ps.length = i) (hi : i < n) : (fillC ps n).set i (some p) = fillC (ps ++ [p]) n := by subst h; exact fillC_set p hi
theorem rowS {α : Type} {f : α → List AV} {l : List α} {i : Nat} {v : α} (h : i < l.length) : ((l.set i v).map f)[i]? = some (f v) := by
  rw [List.getElem?_map, List.getElem?_set_self h]; rfl
theorem seg_getD {α : Type} {f : α → List AV} {l : List α} {i off : Nat} {z : α} {cs row : List AV} (h : i < l.length) (hr : segSet (f (l.getD i z)) off cs = row) : segSet (f (l[i]'h)) off cs = row := by
  rw [List.getD_eq_getElem?_getD, List.getElem?_eq_getElem h] at hr; exact hr
theorem szv_sub {n : Nat} {left : Int} (h : ¬ szv n left < 0) : szv n left = left - n := by
  unfold szv at *
  split
  · rename_i q; rw [if_pos q] at h; exact absurd (by decide) h
  · rfl
/-! ### Sizes -/
def totW (xs : List Context) : Nat → Int
  | 0 => 0
  | j + 1 => totW xs j + ((xs.getD j zContext).regs.words.length : Int)
theorem totW_nn (xs : List Context) : ∀ j, 0 ≤ totW xs j
  | 0 => Int.le_refl _
  | j + 1 => by have := totW_nn xs j; rw [totW]; omega
theorem totW_mono (xs : List Context) : ∀ {j k : Nat}, j ≤ k → totW xs j ≤ totW xs k
  | j, 0, h => by
    have : j = 0 := by omega
    subst this; exact Int.le_refl _
  | j, k + 1, h => by
    rcases Nat.lt_or_ge k j with h' | h'
    · have : j = k + 1 := by omega
      subst this; exact Int.le_refl _
    · have := totW_mono xs h'
      rw [totW]; omega
def SumL (xs : List Context) : Prop := (xs.length : Int) + totW xs xs.length ≤ 1048576
theorem SumL.small {xs : List Context} (h : SumL xs) : SmallL xs := by
  have h0 := totW_nn xs xs.length
  unfold SumL at h
  refine ⟨by omega, fun j hj => ?_⟩
  have h1 := totW_mono xs (show j + 1 ≤ xs.length by omega)
  have h2 := totW_nn xs j
  rw [totW] at h1
  unfold SmallC
  omega

/-! ### Marking -/
def mkRow (k : Int) (n : Nat) : List Int := (List.range n).map (mkI k)
theorem mkRow_len (k : Int) (n : Nat) : (mkRow k n).length = n := by simp [mkRow]
def mkC (k : Int) (n : Nat) : Context := ⟨k, ⟨mkRow (k + 1) n, k + 1 + 1 * (n : Int), decide ((k + 1 + 1 * (n : Int) + 1) % 3 = 0), decide ((k + 1 + 1 * (n : Int) + 1 + 1) % 3 = 0)⟩, k + 1 + 1 * (n : Int) + 1 + 1 + 1, k + 1 + 1 * (n : Int) + 1 + 1 + 1 + 1⟩
def kC (k : Int) (ps : List BC) : Nat → Int
  | 0 => k
  | j + 1 => kC k ps j + 1 + 1 * ((ps.getD j zBC).2.regs.words.length : Int) + 1 + 1 + 1 + 1 + 1
def mkPC (k : Int) (ps : List BC) (j : Nat) : BC := ((ps.getD j zBC).1, mkC (kC k ps j) (ps.getD j zBC).2.regs.words.length)
def markPC (k : Int) (ps : List BC) : List BC := (List.range ps.length).map (mkPC k ps)
theorem markPC_len (k : Int) (ps : List BC) : (markPC k ps).length = ps.length := by simp [markPC]
theorem kC_add (k : Int) (ps : List BC) : ∀ j, kC k ps j = k + kC 0 ps j
  | 0 => by simp [kC]
  | j + 1 => by rw [kC, kC, kC_add k ps j]; omega
def DeepC (ps : List BC) : Prop := ps.length ≤ 1048576 ∧ ∀ j, j < ps.length → (ps.getD j zBC).2.regs.words.length ≤ 1048576 ∧ 0 ≤ kC 0 ps (j + 1) ∧ kC 0 ps (j + 1) ≤ 8000000
theorem kC_tot {ps : List BC} : ∀ j, j ≤ ps.length → kC 0 ps j = totW (ps.map (·.2)) j + 6 * j
  | 0, _ => rfl
  | j + 1, h => by
    have e : ((ps.map (·.2)).getD j zContext) = (ps.getD j zBC).2 := by
      simp [List.getD_eq_getElem?_getD, show j < ps.length by omega]
    rw [kC, totW, kC_tot j (by omega), e]
    omega
theorem deepC_of {ps : List BC} {xs : List Context} (h : ps.map (·.2) = xs) (hs : SumL xs) : DeepC ps := by
  subst h
  have h0 := totW_nn (ps.map (·.2)) ps.length
  have h1 : (ps.length : Int) + totW (ps.map (·.2)) ps.length ≤ 1048576 := by
    unfold SumL at hs; rwa [List.length_map] at hs
  refine ⟨by omega, fun j hj => ?_⟩
  have h2 := totW_mono (ps.map (·.2)) (show j + 1 ≤ ps.length by omega)
  have h3 := totW_nn (ps.map (·.2)) (j + 1)
  have h4 := totW_nn (ps.map (·.2)) j
  have e : ((ps.map (·.2)).getD j zContext) = (ps.getD j zBC).2 := by simp [List.getD_eq_getElem?_getD, hj]
  have h5 : totW (ps.map (·.2)) (j + 1) = totW (ps.map (·.2)) j + ((ps.getD j zBC).2.regs.words.length : Int) := by rw [totW, e]
  rw [kC_tot (j + 1) (by omega)]
  exact ⟨by omega, by omega, by omega⟩
theorem deep_kC {ps : List BC} (h : DeepC ps) {k : Int} (h0 : 0 ≤ k) : ∀ i, i ≤ ps.length → k ≤ kC k ps i ∧ kC k ps i ≤ k + 8000000 := fun i hi => by
  rw [kC_add]
  cases i with
  | zero => simp only [kC]; omega
  | succ i =>
    have := h.2 i (by omega)
    omega
theorem deepL_ContextS {ps : List BC} (h : DeepC ps) : SmallL (ps.map (·.2)) := by
  refine ⟨by rw [List.length_map]; exact h.1, fun j hj => ?_⟩
  rw [List.length_map] at hj
  have := (h.2 j hj).1
  unfold SmallC
  simpa [List.getD_eq_getElem?_getD, hj] using this
theorem putC_at {k : Int} {ps : List BC} {i : Nat} (hi : i < ps.length) : (putTo (mkPC k ps) ps i).getD i zBC = ps.getD i zBC := by
  rw [List.getD_eq_getElem?_getD, List.getD_eq_getElem?_getD, putTo, List.getElem?_append_right (by simp), List.length_map, List.length_range, List.getElem?_drop, Nat.sub_self, Nat.add_zero]
theorem seg_putC {k : Int} {ps : List BC} {i off : Nat} {cs row : List AV} (hi : i < ps.length) (h : i < (putTo (mkPC k ps) ps i).length) (hr : segSet (rowC (ps.getD i zBC)) off cs = row) : segSet (rowC ((putTo (mkPC k ps) ps i)[i]'h)) off cs = row := by
  have e := putC_at (k := k) hi
  rw [List.getD_eq_getElem?_getD, List.getElem?_eq_getElem h, Option.getD_some] at e
  rw [e]; exact hr
/-- One element is marked whole. -/
theorem mark_rowC {k : Int} {ps : List BC} {i : Nat} (hi : i < ps.length) {v : BC} (hv : rowC v = rowC (mkPC k ps i)) : ((putTo (mkPC k ps) ps i).set i v).map rowC = (putTo (mkPC k ps) ps (i + 1)).map rowC := by
  rw [← putTo_set _ _ hi, List.map_set, List.map_set, hv]
theorem rowC_mk (k : Int) (ps : List BC) (i : Nat) (m : Int) (hm : m = kC k ps i) : rowC ((ps.getD i zBC).1, ⟨m, ⟨(ps.getD i zBC).2.regs.words, m + 1 + 1 * ((ps.getD i zBC).2.regs.words.length : Int), decide ((m + 1 + 1 * ((ps.getD i zBC).2.regs.words.length : Int) + 1) % 3 = 0), decide ((m + 1 + 1 * ((ps.getD i zBC).2.regs.words.length : Int) + 1 + 1) % 3 = 0)⟩,
    m + 1 + 1 * ((ps.getD i zBC).2.regs.words.length : Int) + 1 + 1 + 1, m + 1 + 1 * ((ps.getD i zBC).2.regs.words.length : Int) + 1 + 1 + 1 + 1⟩) = rowC (mkPC k ps i) := by
  subst hm
  simp only [rowC, mkPC, mkC, mkRow_len]
theorem rowG2 {α β : Type} (e : β → List AV) (h : α → β) (g : Nat → α) {n i : Nat} (hi : i < n) : ((((List.range n).map g).map h).map e)[i]? = some (e (h (g i))) := by
  rw [List.getElem?_map, List.getElem?_map, List.getElem?_map, List.getElem?_range hi]; rfl
theorem fam_put {α : Type} (f : α → Nat × Entry) (g : Nat → α) (z : α) {ps : List α} {i : Nat} (hi : i < ps.length) : fam f (putTo g ps i) = fam f ((putTo g ps i).take i) ++ f (ps.getD i z) :: fam f ((putTo g ps i).drop (i + 1)) := by
  have h := fam_split f (ps := putTo g ps i) (i := i) z (by rw [putTo_length _ _ (by omega)]; exact hi)
  have e : (putTo g ps i).getD i z = ps.getD i z := by
    rw [List.getD_eq_getElem?_getD, List.getD_eq_getElem?_getD, putTo, List.getElem?_append_right (by simp), List.length_map, List.length_range, List.getElem?_drop, Nat.sub_self, Nat.add_zero]
  rwa [e] at h
theorem fam_put' {α : Type} (f : α → Nat × Entry) (g : Nat → α) {ps : List α} {i : Nat} (hi : i < ps.length) : fam f (putTo g ps (i + 1)) = fam f ((putTo g ps i).take i) ++ f (g i) :: fam f ((putTo g ps i).drop (i + 1)) := by
  rw [← putTo_set _ _ hi, fam_set f (g i) (by rw [putTo_length _ _ (by omega)]; exact hi)]
theorem aops_app {P : Program} {G : Gh} {ops : Array Oper} {l : List Oper} {K : Fr → Store → Prop} {fr : Fr} {r : Store} (A A' : Store) (h : A = A') (k : Aops P G ops l K fr (A' ++ r)) : Aops P G ops l K fr (A ++ r) := h ▸ k
theorem awp_app {P : Program} {G : Gh} {c : Code} {Q : Post} {fr : Fr} {r : Store} (A A' : Store) (h : A = A') (k : awp P G c Q fr (A' ++ r)) : awp P G c Q fr (A ++ r) := h ▸ k

/-! ### Marking lists of lists -/
def kA (k : Int) (ps : List BI) : Nat → Int
  | 0 => k
  | j + 1 => kA k ps j + 1 * ((ps.getD j zBI).2.length : Int)
def mkP (k : Int) (ps : List BI) (j : Nat) : BI := ((ps.getD j zBI).1, mkRow (kA k ps j) (ps.getD j zBI).2.length)
def markP (k : Int) (ps : List BI) : List BI := (List.range ps.length).map (mkP k ps)
theorem kA_add (k : Int) (ps : List BI) : ∀ j, kA k ps j = k + kA 0 ps j
  | 0 => by simp [kA]
  | j + 1 => by rw [kA, kA, kA_add k ps j]; omega
def DeepI (ps : List BI) : Prop := ps.length ≤ 1048576 ∧ ∀ j, j < ps.length → (ps.getD j zBI).2.length ≤ 1048576 ∧ 0 ≤ kA 0 ps j ∧ kA 0 ps j ≤ 2000000
def DeepL (xs : List (List Int)) : Prop := xs.length ≤ 1048576 ∧ ∀ j, j < xs.length → (xs.getD j []).length ≤ 1048576
theorem markP_row (k : Int) (ps : List BI) : (markP k ps).map rowI = ps.map rowI := by
  apply List.ext_getElem?
  intro j
  rw [List.getElem?_map, List.getElem?_map, markP, List.getElem?_map]
  by_cases hj : j < ps.length
  · rw [List.getElem?_range hj, List.getElem?_eq_getElem hj]
    simp [mkP, rowI, mkRow, List.getD_eq_getElem?_getD, hj]
  · rw [List.getElem?_eq_none (by simp; omega), List.getElem?_eq_none (by omega)]; rfl
theorem markP_len (k : Int) (ps : List BI) : (markP k ps).length = ps.length := by simp [markP]
theorem deep_kA {ps : List BI} (h : DeepI ps) {k : Int} (h0 : 0 ≤ k) : ∀ i, i ≤ ps.length → k ≤ kA k ps i ∧ kA k ps i ≤ k + 4000000 := fun i hi => by
  rw [kA_add]
  cases i with
  | zero => simp only [kA]; omega
  | succ i =>
    have := h.2 i (by omega)
    rw [kA]; omega
theorem deepI_of {ps : List BI} {xs : List (List Int)} (h : ps.map (·.2) = xs) (hl : xs.length ≤ 1000) (hr : ∀ j, j < xs.length → (xs.getD j []).length ≤ 1000) : DeepI ps := by
  subst h
  rw [List.length_map] at hl
  have hr' : ∀ j, j < ps.length → (ps.getD j zBI).2.length ≤ 1000 := fun j hj => by
    have := hr j (by rw [List.length_map]; exact hj)
    simpa [List.getD_eq_getElem?_getD, List.getElem?_eq_getElem hj] using this
  have hk : ∀ j, j ≤ ps.length → 0 ≤ kA 0 ps j ∧ kA 0 ps j ≤ 1000 * j := fun j => by
    induction j with
    | zero => intro _; exact ⟨Int.le_refl _, by simp [kA]⟩
    | succ j ih =>
      intro hj
      have := ih (by omega)
      have := hr' j (by omega)
      rw [kA]; omega
  exact ⟨by omega, fun j hj => ⟨by have := hr' j hj; omega, (hk j (by omega)).1, by have := (hk j (by omega)).2; omega⟩⟩

/-! ### What is computed of a list -/
def isG (xs : List Context) (g : Int) (j : Nat) : Bool := decide ((xs.getD j zContext).id = g)
def findC (xs : List Context) (g : Int) : Int := first (isG xs g) xs.length
theorem findC_lt (xs : List Context) (g : Int) : -1 ≤ findC xs g ∧ findC xs g < xs.length := by
  unfold findC
  rcases first_spec (isG xs g) xs.length with ⟨h1, _⟩ | ⟨i, h1, h2, _, _⟩
  · omega
  · omega
theorem findC_id {xs : List Context} {g : Int} (h : 0 ≤ findC xs g) : (xs.getD (findC xs g).toNat zContext).id = g := by
  rcases first_spec (isG xs g) xs.length with ⟨h1, _⟩ | ⟨i, h1, h2, h3, _⟩
  · unfold findC at h; omega
  · have e : (findC xs g).toNat = i := by unfold findC; omega
    rw [e]; simpa [isG] using h3
def guestsTo (xs : List Context) (p : Context → Bool) : Nat → List Int
  | 0 => []
  | i + 1 => if p (xs.getD i zContext) = true then guestsTo xs p i ++ [(xs.getD i zContext).id] else guestsTo xs p i
theorem guestsTo_len (xs : List Context) (p : Context → Bool) : ∀ i, (guestsTo xs p i).length ≤ i
  | 0 => Nat.le_refl _
  | i + 1 => by
    have := guestsTo_len xs p i
    rw [guestsTo]; split
    · rw [List.length_append]; simp; omega
    · omega
def guests (xs : List Context) (p : Context → Bool) : List Int := guestsTo xs p xs.length
theorem guestsTo_eq {xs : List Context} {p q : Context → Bool} : ∀ {n : Nat}, (∀ j, j < n → p (xs.getD j zContext) = q (xs.getD j zContext)) → guestsTo xs p n = guestsTo xs q n
  | 0, _ => rfl
  | n + 1, h => by rw [guestsTo, guestsTo, h n (by omega), guestsTo_eq (fun j hj => h j (by omega))]
def runs (c : Context) : Bool := !c.regs.g || !decide (c.pend = 0)
def shrC (s n : Int) : Int := s.fdiv (2 ^ (min n.toNat IntKind.i64.bits))
def bitC (s n : Int) : Prop := bits .and .i64 (shrC s n) 1 = 1
instance (s n : Int) : Decidable (bitC s n) := by unfold bitC; infer_instance
def hasIrq (q : Int) (c : Context) : Bool := decide (bitC c.pend q)
theorem u64_irq {n : Int} (h0 : 0 ≤ n) (h1 : n ≤ 7) : IntKind.u64.wrap n = n := by
  rcases (by omega : n = 0 ∨ n = 1 ∨ n = 2 ∨ n = 3 ∨ n = 4 ∨ n = 5 ∨ n = 6 ∨ n = 7) with rfl | rfl | rfl | rfl | rfl | rfl | rfl | rfl <;> decide
def GoodIrq (xs : List Context) (q : Int) : Prop := AreContexts xs ∧ (0 ≤ q ∧ q ≤ 7)
instance (xs : List Context) (q : Int) : Decidable (GoodIrq xs q) := by unfold GoodIrq; infer_instance
def shlC (n : Int) : Int := IntKind.i64.wrap (1 * 2 ^ (min n.toNat IntKind.i64.bits))
def raise1 (c : Context) (q : Int) : Context := ⟨c.id, c.regs, c.wait, bits .or .i64 c.pend (shlC q)⟩
def GoodRaise (xs : List Context) (g q : Int) : Prop := AreContexts xs ∧ 0 ≤ findC xs g ∧ (0 ≤ q ∧ q ≤ 7)
instance (xs : List Context) (g q : Int) : Decidable (GoodRaise xs g q) := by unfold GoodRaise; infer_instance
def raiseL (xs : List Context) (g q : Int) : List Context := xs.set (findC xs g).toNat (raise1 (xs.getD (findC xs g).toNat zContext) q)
theorem are_at {xs : List Context} (h : AreContexts xs) {j : Nat} (hj : j < xs.length) : IsContext (xs.getD j zContext) := (h.1 j hj).1
theorem are_words {xs : List Context} (h : AreContexts xs) : ∀ j, j ≤ xs.length → totW xs j = 4 * j
  | 0, _ => rfl
  | j + 1, hj => by
    have := (are_at h (show j < xs.length by omega)).2.1.1
    rw [totW, are_words h j (by omega), this]; omega
theorem are_sum {xs : List Context} (h : AreContexts xs) : SumL xs := by
  have := are_words h xs.length (Nat.le_refl _)
  have := h.2
  unfold SumL; omega
theorem raise_len (xs : List Context) (g q : Int) : (raiseL xs g q).length = xs.length := List.length_set
theorem setC_get {xs : List Context} {k j : Nat} {v : Context} (hk : k < xs.length) : (xs.set k v).getD j zContext = if k = j then v else xs.getD j zContext := by
  rw [List.getD_eq_getElem?_getD, List.getD_eq_getElem?_getD, List.getElem?_set]
  split
  · rename_i e; subst e; simp [hk]
  · rfl
theorem raise_sum {xs : List Context} {g q : Int} (h : GoodRaise xs g q) : SumL (raiseL xs g q) := by
  have h0 := h.2.1
  have h1 := (findC_lt xs g).2
  have e : ∀ j, totW (raiseL xs g q) j = totW xs j := fun j => by
    induction j with
    | zero => rfl
    | succ j ih =>
      rw [totW, totW, ih, raiseL, setC_get (by omega)]
      split
      · rename_i e; subst e; rfl
      · rfl
  have := are_sum h.1
  unfold SumL at *
  rw [raise_len, e]; exact this
theorem raise_map {ps : List BC} {xs : List Context} (h : ps.map (·.2) = xs) (g q : Int) (hk : 0 ≤ findC xs g) : (ps.set (findC xs g).toNat ((ps.getD (findC xs g).toNat zBC).1, raise1 (ps.getD (findC xs g).toNat zBC).2 q)).map (·.2) = raiseL xs g q := by
  subst h
  have h1 := (findC_lt (ps.map (·.2)) g).2
  rw [List.length_map] at h1
  have e : ((ps.map (·.2)).getD (findC (ps.map (·.2)) g).toNat zContext) = (ps.getD (findC (ps.map (·.2)) g).toNat zBC).2 := by
    simp [List.getD_eq_getElem?_getD, show (findC (ps.map (·.2)) g).toNat < ps.length by omega]
  rw [raiseL, e, List.map_set]
theorem fam_raise (t : TypeId) {ps : List BC} {i : Nat} (hi : i < ps.length) (q : Int) : fam (famC t) (ps.set i ((ps.getD i zBC).1, raise1 (ps.getD i zBC).2 q)) = fam (famC t) ps := by
  rw [fam_set _ _ hi, fam_split (famC t) zBC hi]; rfl
theorem runs_eq {c : Context} (h : IsContext c) : (!c.regs.g || decide (0 < c.pend)) = runs c := by
  unfold runs
  congr 1
  have := h.2.2.2.2
  rw [Bool.eq_iff_iff, decide_eq_true_eq, Bool.not_eq_true', decide_eq_false_iff_not]
  omega
theorem not_t {b : Bool} (h : b = false) : ¬ b = true := by rw [h]; decide
theorem runs_t1 {c : Context} (h : c.regs.g = false) : runs c = true := by unfold runs; rw [h]; rfl
theorem runs_t2 {c : Context} (hc : IsContext c) (h2 : 0 < c.pend) : runs c = true := by
  rw [← runs_eq hc, decide_eq_true h2, Bool.or_true]
theorem runs_f {c : Context} (hc : IsContext c) (h : c.regs.g = true) (h2 : ¬ 0 < c.pend) : ¬ runs c = true := by
  rw [← runs_eq hc, decide_eq_false h2, h]; decide
/-- The images of all of them. -/
def swapTo (xs : List Context) : Nat → List (List Int)
  | 0 => []
  | i + 1 => swapTo xs i ++ [imageV (xs.getD i zContext)]
def swapL (xs : List Context) : List (List Int) := swapTo xs xs.length
theorem swapTo_len (xs : List Context) : ∀ i, (swapTo xs i).length = i
  | 0 => rfl
  | i + 1 => by rw [swapTo, List.length_append, swapTo_len xs i]; rfl
theorem swapTo_get (xs : List Context) : ∀ {n c : Nat}, c < n → (swapTo xs n).getD c [] = imageV (xs.getD c zContext)
  | 0, c, h => by omega
  | n + 1, c, h => by
    have l := swapTo_len xs n
    rw [swapTo]
    rcases Nat.lt_succ_iff_lt_or_eq.1 h with h' | h'
    · rw [← swapTo_get xs h', List.getD_eq_getElem?_getD, List.getElem?_append_left (by omega), ← List.getD_eq_getElem?_getD]
    · subst h'
      rw [List.getD_eq_getElem?_getD, List.getElem?_append_right (by omega), l]; simp
theorem swap_row {xs : List Context} (h : AreContexts xs) {j : Nat} (hj : j < (swapL xs).length) : ((swapL xs).getD j []).length = 11 := by
  rw [swapL, swapTo_len] at hj
  rw [swapL, swapTo_get xs hj, image_len (are_at h hj)]
theorem swap_deep {xs : List Context} (h : AreContexts xs) : DeepL (swapL xs) :=
  ⟨by rw [swapL, swapTo_len]; have := h.2; omega, fun j hj => by rw [swap_row h hj]; omega⟩
theorem swap_ps {xs : List Context} {ps : List BI} (h : AreContexts xs) (hp : ps.map (·.2) = swapL xs) : DeepI ps :=
  deepI_of hp (by rw [swapL, swapTo_len]; have := h.2; omega) (fun j hj => by rw [swap_row h hj]; omega)
theorem swap_step {ps : List BI} {xs : List Context} {i b : Nat} {g : List Int} (h : ps.map (·.2) = swapTo xs i) (hg : g = imageV (xs.getD i zContext)) : (ps ++ [(b, g)]).map (·.2) = swapTo xs (i + 1) := by
  rw [List.map_append, h, swapTo, hg]; rfl
theorem take_step {ps : List BC} {xs : List Context} {i b : Nat} {c : Context} (h : ps.map (·.2) = xs.take i) (hi : i < xs.length) (hc : c = xs.getD i zContext) : (ps ++ [(b, c)]).map (·.2) = xs.take (i + 1) := by
  rw [List.map_append, h, List.take_add_one, hc, List.getD_eq_getElem?_getD, List.getElem?_eq_getElem hi]; rfl

end Go.Hv
