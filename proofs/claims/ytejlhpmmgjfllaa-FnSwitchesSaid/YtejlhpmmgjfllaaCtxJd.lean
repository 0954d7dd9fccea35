/-
  Contexts: switched there and back; an interrupt that is raised is pending; the law on switches. No condition.
-/
import Derived.Test.YtejlhpmmgjfllaaCtxGd
import Derived.Test.YtejlhpmmgjfllaaCtxHd
namespace Go.Fw
open Go
section
variable {P : Program} {G : Gh} {Y : World → World → Prop} {fr : Fr} {st : Store}
variable {dst : Option Tmp} {ty : TypeId} {pos : String} {aft : Array Edge} {gd : Option (Nat × Bool)} {x y : Operand} {t t' : TypeId} {k : IntKind} {m n : Int}
theorem p_neqF (hx : opv fr x = some (.int k m)) (hy : opv fr y = some (.int k n)) (h : m = n) : Pure P G Y fr st ⟨dst, .binOp .neq t x y t', ty, pos, aft, gd⟩ (.bool false) := by
  subst h
  exact p_neq_same hx hy
end
end Go.Fw
namespace Go.Hv
open Go Go.Fw
set_option linter.unusedSimpArgs false
set_option linter.unusedVariables false

theorem drawn_fam {ps rs : List BC} {t : TypeId} (h : DrawnL ps rs) : ∀ x ∈ fam (famC t) rs, x ∈ fam (famC t) ps := fun x hx => by
  obtain ⟨r, hr, rfl⟩ := List.mem_map.1 hx
  exact mem_fam (h.2.2.2 r hr)

/-! ### Lists in order -/
def Up (xs : List Context) : Prop := xs.Pairwise (fun a b => a.id < b.id)
theorem getD_eq {xs : List Context} {j : Nat} (h : j < xs.length) : xs.getD j zContext = xs[j] := by
  rw [List.getD_eq_getElem?_getD, List.getElem?_eq_getElem h]; rfl
theorem are_up {xs : List Context} (h : AreContexts xs) : Up xs := by
  unfold Up
  rw [List.pairwise_iff_getElem]
  intro i j hi hj hij
  have := are_lt h hij hj
  rwa [getD_eq hi, getD_eq hj] at this
theorem are_all {xs : List Context} (h : AreContexts xs) : ∀ c ∈ xs, IsContext c := fun c hc => by
  obtain ⟨j, hj, rfl⟩ := List.getElem_of_mem hc
  have := are_at h hj
  rwa [getD_eq hj] at this
theorem are_of {xs : List Context} (h1 : ∀ c ∈ xs, IsContext c) (h2 : Up xs) (h3 : xs.length ≤ 6) : AreContexts xs := by
  refine ⟨fun j hj => ⟨by rw [getD_eq hj]; exact h1 _ (List.getElem_mem hj), fun h0 => ?_⟩, h3⟩
  rw [getD_eq hj, getD_eq (show j - 1 < xs.length by omega)]
  exact (List.pairwise_iff_getElem.1 h2) _ _ _ _ (by omega)
theorem woB_sub {xs : List Context} {g : Nat} : (woB xs g).Sublist xs := by
  unfold woB
  have h1 : (xs.drop (g + 1)).Sublist (xs.drop g) := by
    rw [← List.drop_drop]; exact List.drop_sublist _ _
  have := (List.Sublist.refl (xs.take g)).append h1
  rwa [List.take_append_drop] at this
theorem wo_ins {xs : List Context} {g : Nat} (h : g < xs.length) : insB (woB xs g) g (xs.getD g zContext) = xs := by
  have hl : (xs.take g).length = g := by rw [List.length_take]; omega
  unfold insB woB
  rw [List.take_append_of_le_length (by omega), List.take_of_length_le (by omega), List.drop_append_of_le_length (by omega), List.drop_of_length_le (by omega), List.nil_append, getD_eq h, List.getElem_cons_drop, List.take_append_drop]
theorem ins_wo {r : List Context} {p : Nat} {v : Context} (h : p ≤ r.length) : woB (insB r p v) p = r := by
  have hl : (r.take p).length = p := by rw [List.length_take]; omega
  unfold insB woB
  rw [List.take_append_of_le_length (by omega), List.take_of_length_le (by omega), List.drop_append, List.drop_of_length_le (by omega), List.nil_append, hl, Nat.add_sub_cancel_left, List.drop_succ_cons, List.drop_zero, List.take_append_drop]
theorem ins_at {r : List Context} {p : Nat} {v : Context} (h : p ≤ r.length) : (insB r p v).getD p zContext = v := by
  have hl : (r.take p).length = p := by rw [List.length_take]; omega
  unfold insB
  rw [List.getD_eq_getElem?_getD, List.getElem?_append_right (by omega), hl, Nat.sub_self]; rfl
theorem ins_lt {r : List Context} {p j : Nat} {v : Context} (h : p ≤ r.length) (hj : j < p) : (insB r p v).getD j zContext = r.getD j zContext := by
  have hl : (r.take p).length = p := by rw [List.length_take]; omega
  unfold insB
  rw [List.getD_eq_getElem?_getD, List.getElem?_append_left (by omega), List.getElem?_take, if_pos hj, ← List.getD_eq_getElem?_getD]
theorem wo_lt {xs : List Context} {g j : Nat} (h : g < xs.length) (hj : j < g) : (woB xs g).getD j zContext = xs.getD j zContext := by
  have hl : (xs.take g).length = g := by rw [List.length_take]; omega
  unfold woB
  rw [List.getD_eq_getElem?_getD, List.getElem?_append_left (by omega), List.getElem?_take, if_pos hj, ← List.getD_eq_getElem?_getD]
theorem wo_at {xs : List Context} {g : Nat} (h : g < xs.length) : (woB xs g).getD g zContext = xs.getD (g + 1) zContext := by
  have hl : (xs.take g).length = g := by rw [List.length_take]; omega
  unfold woB
  rw [List.getD_eq_getElem?_getD, List.getElem?_append_right (by omega), hl, Nat.sub_self, List.getElem?_drop, Nat.add_zero, ← List.getD_eq_getElem?_getD]
theorem pos_ex (r : List Context) (now : Context) : ∃ p, PosOf r now p := by
  rcases first_spec (fun j => !decide ((r.getD j zContext).id < now.id)) r.length with ⟨_, h2⟩ | ⟨i, h1, h2, h3, h4⟩
  · exact ⟨r.length, pos_less fun j hj => by have := h2 j hj; simpa using this⟩
  · exact ⟨i, by omega, fun j hj => by have := h4 j hj; simpa using this, fun _ => by simpa using h3⟩
theorem up_ins {r : List Context} {now : Context} {p : Nat} (h : Up r) (hp : PosOf r now p) (hn : ∀ c ∈ r, c.id ≠ now.id) : Up (insB r p now) := by
  obtain ⟨h1, h2, h3⟩ := hp
  have hb : ∀ b ∈ r.drop p, now.id < b.id := fun b hb => by
    obtain ⟨j, hj, rfl⟩ := List.getElem_of_mem hb
    rw [List.length_drop] at hj
    rw [List.getElem_drop]
    have h4 := h3 (by omega)
    have h5 := hn _ (List.getElem_mem (show p < r.length by omega))
    rw [getD_eq (show p < r.length by omega)] at h4
    rcases Nat.eq_or_lt_of_le (Nat.le_add_right p j) with h6 | h6
    · have : r[p + j] = r[p] := by congr 1; omega
      rw [this]; omega
    · have := (List.pairwise_iff_getElem.1 h) p (p + j) (by omega) (by omega) h6
      omega
  have ha : ∀ a ∈ r.take p, a.id < now.id := fun a ha => by
    obtain ⟨j, hj, rfl⟩ := List.getElem_of_mem ha
    rw [List.length_take] at hj
    rw [List.getElem_take]
    have := h2 j (by omega)
    rwa [getD_eq (by omega)] at this
  unfold Up insB
  refine List.pairwise_append.2 ⟨h.sublist (List.take_sublist _ _), List.pairwise_cons.2 ⟨hb, h.sublist (List.drop_sublist _ _)⟩, fun a h4 b h5 => ?_⟩
  rcases List.mem_cons.1 h5 with rfl | h5
  · exact ha a h4
  · have := ha a h4; have := hb b h5; omega
theorem find_at {xs : List Context} {g : Int} {k : Nat} (hk : k < xs.length) (h1 : ∀ j, j < k → (xs.getD j zContext).id ≠ g) (h2 : (xs.getD k zContext).id = g) : findC xs g = k :=
  first_at hk (fun j hj => by unfold isG; exact decide_eq_false (h1 j hj)) (by unfold isG; exact decide_eq_true h2)
theorem find_no {xs : List Context} {g : Int} (h : ∀ c ∈ xs, c.id ≠ g) : findC xs g < 0 := by
  have : findC xs g = -1 := first_none fun j hj => by unfold isG; exact decide_eq_false (by rw [getD_eq hj]; exact h _ (List.getElem_mem hj))
  omega
/-- A switch there and back. -/
theorem switch_back {xs : List Context} {now : Context} {g : Int} (h : GoodSwitch xs now g) :
    let i := (findC xs g).toNat; let out := switchL xs now i; let nx := xs.getD i zContext
    GoodSwitch out nx now.id ∧ switchL out nx (findC out now.id).toNat = xs ∧ out.getD (findC out now.id).toNat zContext = now ∧ nx.id = g := by
  intro i out nx
  obtain ⟨h1, h2, h3, h4⟩ := h
  have hi : i < xs.length := by have := (findC_lt xs g).2; show (findC xs g).toNat < xs.length; omega
  have hN := find_none h3
  obtain ⟨p, hp⟩ := pos_ex (woB xs i) now
  have ho : out = insB (woB xs i) p now := (sw_pos h1 hN hi hp).symm
  have hup := are_up h1
  have hN' : ∀ c ∈ woB xs i, c.id ≠ now.id := fun c hc => by
    obtain ⟨j, hj, rfl⟩ := List.getElem_of_mem (woB_sub.mem hc)
    have := hN j hj
    rwa [getD_eq hj] at this
  have hup2 : Up (woB xs i) := hup.sublist woB_sub
  have hlen : out.length = xs.length := switch_len h1 hN hi
  have hnx : nx.id = g := findC_id h4
  have hmem : ∀ c ∈ out, c = now ∨ c ∈ woB xs i := fun c hc => by
    rw [ho] at hc
    unfold insB at hc
    rcases List.mem_append.1 hc with hc | hc
    · exact .inr (List.mem_of_mem_take hc)
    · rcases List.mem_cons.1 hc with rfl | hc
      · exact .inl rfl
      · exact .inr (List.mem_of_mem_drop hc)
  have hAo : AreContexts out := are_of (fun c hc => by
    rcases hmem c hc with rfl | hc
    · exact h2
    · exact are_all h1 c (woB_sub.mem hc)) (by rw [ho]; exact up_ins hup2 hp hN') (by rw [hlen]; exact h1.2)
  have hfp : findC out now.id = p := by
    rw [ho]
    exact find_at (by rw [insB_len hp.1]; have := hp.1; omega) (fun j hj => by rw [ins_lt hp.1 hj]; have := hp.2.1 j hj; omega) (by rw [ins_at hp.1])
  have hpx : PosOf (woB xs i) nx i := by
    have hl := woB_len hi
    refine ⟨by omega, fun j hj => by rw [wo_lt hi hj]; exact are_lt h1 hj hi, fun hq => ?_⟩
    rw [wo_at hi]
    have := are_lt h1 (show i < i + 1 by omega) (show i + 1 < xs.length by omega)
    show ¬ (xs.getD (i + 1) zContext).id < (xs.getD i zContext).id
    omega
  have hnn : nx.id ≠ now.id := hN i hi
  have hwn : ∀ c ∈ woB xs i, c.id ≠ nx.id := fun c hc => by
    unfold woB at hc
    rcases List.mem_append.1 hc with hc | hc
    · obtain ⟨j, hj, rfl⟩ := List.getElem_of_mem hc
      rw [List.length_take] at hj
      rw [List.getElem_take]
      have := are_lt h1 (show j < i by omega) hi
      rw [getD_eq (show j < xs.length by omega)] at this
      show xs[j].id ≠ (xs.getD i zContext).id
      omega
    · obtain ⟨j, hj, rfl⟩ := List.getElem_of_mem hc
      rw [List.length_drop] at hj
      rw [List.getElem_drop]
      have := are_lt h1 (show i < i + 1 + j by omega) (by omega)
      rw [getD_eq (show i + 1 + j < xs.length by omega)] at this
      show xs[i + 1 + j].id ≠ (xs.getD i zContext).id
      omega
  have hno : ∀ c ∈ out, c.id ≠ nx.id := fun c hc => by
    rcases hmem c hc with rfl | hc
    · exact fun e => hnn e.symm
    · exact hwn c hc
  have hfn := find_no hno
  refine ⟨⟨hAo, are_at h1 hi, hfn, by omega⟩, ?_, ?_, hnx⟩
  · have ht : (findC out now.id).toNat = p := by omega
    have hpo : p < out.length := by rw [ho, insB_len hp.1]; have := hp.1; omega
    have hw : woB out p = woB xs i := by rw [ho, ins_wo hp.1]
    rw [ht, ← sw_pos (g := p) hAo (find_none hfn) hpo (p := i) (by rw [hw]; exact hpx), hw]
    exact wo_ins hi
  · have ht : (findC out now.id).toNat = p := by omega
    rw [ht, ho, ins_at hp.1]

theorem switch_back' {xs : List Context} {now : Context} {g : Int} (h : GoodSwitch xs now g) : GoodSwitch (switchL xs now (findC xs g).toNat) (xs.getD (findC xs g).toNat zContext) now.id ∧
    switchL (switchL xs now (findC xs g).toNat) (xs.getD (findC xs g).toNat zContext) (findC (switchL xs now (findC xs g).toNat) now.id).toNat = xs ∧ (switchL xs now (findC xs g).toNat).getD (findC (switchL xs now (findC xs g).toNat) now.id).toNat zContext = now ∧ (xs.getD (findC xs g).toNat zContext).id = g := switch_back h

/-! ### Raised -/
theorem or_all : ∀ (p : Fin 256) (q : Fin 8), 0 < bits .or .i64 ((p.val : Nat) : Int) (shlC ((q.val : Nat) : Int)) ∧ bits .or .i64 ((p.val : Nat) : Int) (shlC ((q.val : Nat) : Int)) ≤ 255 ∧ bitC (bits .or .i64 ((p.val : Nat) : Int) (shlC ((q.val : Nat) : Int))) ((q.val : Nat) : Int) := by decide +kernel
theorem or_ok {p q : Int} (h0 : 0 ≤ p) (h1 : p ≤ 255) (h2 : 0 ≤ q) (h3 : q ≤ 7) : 0 < bits .or .i64 p (shlC q) ∧ bits .or .i64 p (shlC q) ≤ 255 ∧ bitC (bits .or .i64 p (shlC q)) q := by
  have := or_all ⟨p.toNat, by omega⟩ ⟨q.toNat, by omega⟩
  have e1 : ((p.toNat : Nat) : Int) = p := by omega
  have e2 : ((q.toNat : Nat) : Int) = q := by omega
  simp only [e1, e2] at this
  exact this
theorem raise_get {xs : List Context} {g q : Int} {j : Nat} (hj : j < xs.length) : ((raiseL xs g q).getD j zContext).id = (xs.getD j zContext).id := by
  have := (findC_lt xs g).2
  rw [raiseL, setC_get (by omega)]
  split
  · rename_i e; rw [e]; rfl
  · rfl
theorem raise_are {xs : List Context} {g q : Int} (h : GoodRaise xs g q) : AreContexts (raiseL xs g q) := by
  obtain ⟨h1, h2, h3, h4⟩ := h
  have hlt := (findC_lt xs g).2
  refine ⟨fun j hj => ?_, by rw [raise_len]; exact h1.2⟩
  rw [raise_len] at hj
  refine ⟨?_, fun h0 => ?_⟩
  · rw [raiseL, setC_get (by omega)]
    split
    · obtain ⟨c1, c2, c3, c4, c5⟩ := are_at h1 (show (findC xs g).toNat < xs.length by omega)
      have := or_ok c5.1 c5.2 h3 h4
      exact ⟨c1, c2, c3, c4, by show 0 ≤ bits .or .i64 _ (shlC q) ∧ bits .or .i64 _ (shlC q) ≤ 255; omega⟩
    · exact are_at h1 hj
  · rw [raise_get hj, raise_get (show j - 1 < xs.length by omega)]
    exact (h1.1 j hj).2 h0
theorem raise_irq {xs : List Context} {g q : Int} (h : GoodRaise xs g q) : GoodIrq (raiseL xs g q) q := ⟨raise_are h, h.2.2⟩
theorem guests_has {xs : List Context} {p : Context → Bool} : ∀ {n k : Nat}, k < n → p (xs.getD k zContext) = true → (xs.getD k zContext).id ∈ guestsTo xs p n
  | 0, k, h, _ => absurd h (Nat.not_lt_zero _)
  | n + 1, k, h, hp => by
    rw [guestsTo]
    rcases Nat.lt_succ_iff_lt_or_eq.1 h with h' | h'
    · have := guests_has h' hp
      split
      · exact List.mem_append_left _ this
      · exact this
    · subst h'
      rw [if_pos hp]
      exact List.mem_append_right _ (List.mem_singleton.2 rfl)
theorem raise_has {xs : List Context} {g q : Int} (h : GoodRaise xs g q) : g ∈ guests (raiseL xs g q) (hasIrq q) ∧ g ∈ guests (raiseL xs g q) runs := by
  obtain ⟨h1, h2, h3, h4⟩ := h
  have hlt := (findC_lt xs g).2
  have hk : (findC xs g).toNat < (raiseL xs g q).length := by rw [raise_len]; omega
  have c5 := (are_at h1 (show (findC xs g).toNat < xs.length by omega)).2.2.2.2
  have e : (raiseL xs g q).getD (findC xs g).toNat zContext = raise1 (xs.getD (findC xs g).toNat zContext) q := by
    rw [raiseL, setC_get (by omega), if_pos rfl]
  have hid : ((raiseL xs g q).getD (findC xs g).toNat zContext).id = g := by rw [e]; exact findC_id h2
  have ho := or_ok c5.1 c5.2 h3 h4
  have m1 := guests_has (p := hasIrq q) hk (by rw [e]; exact decide_eq_true ho.2.2)
  have m2 := guests_has (p := runs) hk (by
    rw [e]
    have : ¬ (bits .or .i64 (xs.getD (findC xs g).toNat zContext).pend (shlC q) = 0) := by omega
    show (!(xs.getD (findC xs g).toNat zContext).regs.g || !decide (bits .or .i64 (xs.getD (findC xs g).toNat zContext).pend (shlC q) = 0)) = true
    rw [decide_eq_false this]; simp)
  rw [hid] at m1 m2
  exact ⟨m1, m2⟩
theorem mem_getD {xs : List Int} {x : Int} (h : x ∈ xs) : ¬ ∀ j, j < xs.length → xs.getD j 0 ≠ x := fun q => by
  obtain ⟨j, hj, rfl⟩ := List.getElem_of_mem h
  have := q j hj
  rw [List.getD_eq_getElem?_getD, List.getElem?_eq_getElem hj] at this
  exact this rfl
def pickC (c : Prop) [Decidable c] (p : List Context) : List Context := if c then p else []
theorem pickC_y {c : Prop} [Decidable c] {p : List Context} (h : c) : pickC c p = p := if_pos h
theorem pickC_n {c : Prop} [Decidable c] {p : List Context} (h : ¬ c) : pickC c p = [] := if_neg h
theorem pickC_small {c : Prop} [Decidable c] {p : List Context} (h : c → SmallL p) : SmallL (pickC c p) := by
  unfold pickC; split
  · exact h (by assumption)
  · exact ⟨Nat.zero_le _, fun j hj => absurd hj (Nat.not_lt_zero _)⟩
theorem guests_small {xs : List Context} {p : Context → Bool} (h : SmallL xs) : (guests xs p).length ≤ 1048576 := by
  have := guestsTo_len xs p xs.length
  have := h.1
  unfold guests; omega
theorem next_small {xs : List Context} {now : Context} {g : Int} (hs : SmallL xs) (h : GoodSwitch xs now g) : SmallC (xs.getD (findC xs g).toNat zContext) := hs.2 _ (by have := (findC_lt xs g).2; have := h.2.2.2; omega)

end Go.Hv
