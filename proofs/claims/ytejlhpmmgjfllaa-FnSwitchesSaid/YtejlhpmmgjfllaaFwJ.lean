/-
  Slices told by value: elements with a default, what is frozen, filling a fresh slice. No condition.
-/
import Derived.Test.YtejlhpmmgjfllaaFwI
namespace Go.Fw
open Go

theorem rowD {α : Type} (f : α → List AV) (xs : List α) (z : α) {j : Nat} (h : j < xs.length) : (xs.map f)[j]? = some (f (xs.getD j z)) := by
  simp [List.getD_eq_getElem?_getD, h]

/-- What a callee hands over as its own may be told by value, if nobody writes it later. -/
theorem ACalls.freeze {P : Program} {f : FuncId} {args : List AV} {R : AV → Store → Prop} {r' : AV} (h : ACalls P f args [] R) (hf : ∀ r st', R r st' → Vw st' r r') : ACalls P f args [] (Ret r') := fun M w vs h1 h2 h3 =>
  (h M w vs h1 h2 h3).mono fun e w' ⟨v, r, st', M', e1, hR, hr, hs, ht, hm, hm', hk⟩ =>
    ⟨v, r', [], fun b => M' b ∨ b ∈ keys st', e1, ⟨rfl, rfl⟩, vw_rep hs (fun _ h => .inl h) (fun _ h => .inr h) _ _ _ (hf r st' hR) hr,
      ⟨List.nodup_nil, (fun _ _ hb => by cases hb), (fun _ _ hb => by cases hb), fun b hb => hb.elim (hs.lt b) hs.key_lt⟩, ht, fun b hb => .inl (hm b hb),
      fun b hb => hb.elim (hm' b) (fun h => (hk b h).elim (fun h => by cases h) (fun h => .inr (.inr h))), fun b hb => by cases hb⟩

/-- A slice of the callee's own. -/
def RetOwn (t s : Nat) (rows : List (List AV)) (r : AV) (st : Store) : Prop := ∃ b, r = .own s b 0 rows.length ∧ st = [(b, .arr t s rows)]
theorem RetOwn.vw {t s : Nat} {rows : List (List AV)} {r : AV} {st : Store} (h : RetOwn t s rows r st) : Vw st r (.sl rows) := by
  obtain ⟨b, rfl, rfl⟩ := h
  exact .own (List.Mem.head _) rfl

/-- The list, as far as it was filled. -/
def fillTo {α : Type} (z : α) (xs : List α) (i : Nat) : List α := xs.take i ++ List.replicate (xs.length - i) z
theorem fillTo_zero {α : Type} (z : α) (xs : List α) : fillTo z xs 0 = List.replicate xs.length z := by simp [fillTo]
theorem fillTo_len {α : Type} (z : α) (xs : List α) {i : Nat} (h : ¬ i < xs.length) : fillTo z xs i = xs := by
  rw [fillTo, List.take_of_length_le (by omega), show xs.length - i = 0 by omega]; simp
theorem fillTo_length {α : Type} (z : α) (xs : List α) {i : Nat} (h : i ≤ xs.length) : (fillTo z xs i).length = xs.length := by
  simp [fillTo]; omega
theorem fillTo_set {α : Type} (z : α) (xs : List α) {i : Nat} (h : i < xs.length) : (fillTo z xs i).set i (xs.getD i z) = fillTo z xs (i + 1) := by
  apply List.ext_getElem?
  intro j
  simp only [fillTo, List.getElem?_set, List.getElem?_append, List.length_append, List.length_take, List.length_replicate, List.getElem?_take, List.getElem?_replicate, List.getD_eq_getElem?_getD]
  rcases Nat.lt_trichotomy j i with hj | hj | hj
  · simp [show ¬ i = j by omega, show j < min i xs.length by omega, show j < min (i + 1) xs.length by omega, show j < i by omega, show j < i + 1 by omega]
  · subst hj
    simp [show j < min (j + 1) xs.length by omega, h, show min j xs.length + (xs.length - j) = xs.length by omega]
  · simp [show ¬ i = j by omega, show ¬ j < min i xs.length by omega, show ¬ j < min (i + 1) xs.length by omega, show j - min i xs.length < xs.length - i ↔ j - min (i + 1) xs.length < xs.length - (i + 1) by omega]

/-- The same where the elements that are not filled yet are no data's. -/
def fillO {α : Type} (xs : List α) (i : Nat) : List (Option α) := (xs.take i).map some ++ List.replicate (xs.length - i) none
theorem fillO_eq {α : Type} (xs : List α) (i : Nat) : fillO xs i = fillTo none (xs.map some) i := by simp [fillO, fillTo, List.map_take]
theorem fillO_set {α : Type} (z : α) (xs : List α) {i : Nat} (h : i < xs.length) : (fillO xs i).set i (some (xs.getD i z)) = fillO xs (i + 1) := by
  rw [fillO_eq, fillO_eq, ← fillTo_set none (xs.map some) (by simpa using h)]
  congr 1
  simp [List.getD_eq_getElem?_getD, h]
theorem fillO_len {α : Type} (xs : List α) {i : Nat} (h : ¬ i < xs.length) : fillO xs i = xs.map some := by
  rw [fillO_eq, fillTo_len _ _ (by simpa using h)]
theorem fillO_length {α : Type} (xs : List α) {i : Nat} (h : i ≤ xs.length) : (fillO xs i).length = xs.length := by
  simp [fillO]; omega
theorem segSet_all {cells cs : List AV} (h : cells.length = cs.length) : segSet cells 0 cs = cs := by simp [segSet, h]

theorem below_succ {p : Nat → Prop} {i : Nat} (h : ∀ j, j < i → p j) (hi : p i) : ∀ j, j < i + 1 → p j := fun j hj => by
  rcases Nat.lt_succ_iff_lt_or_eq.1 hj with h' | h'
  · exact h j h'
  · exact h' ▸ hi
theorem below_zero {p : Nat → Prop} : ∀ j, j < 0 → p j := fun j hj => by omega
theorem below_all {p : Nat → Prop} {i n : Nat} (h : ∀ j, j < i → p j) (hi : ¬ (i : Int) < (n : Int)) : ∀ j, j < n → p j := fun j hj => h j (by omega)

/-- A variable that nobody writes later: told by value. -/
theorem w_box_v {P : Program} {G : Gh} {X : Option (List Nat × List Nat)} {K : Fr → Store → Prop} {fr : Fr} {st : Store} {d : Nat} {ty : TypeId} {pos : String} {aft : Array Edge} {gd : Option (Nat × Bool)} {x : Operand} {t : TypeId} {av : AV} {cs : List AV}
    (hd : Nat.blt d G.n = true) (hx : opv fr x = some av) (hc : cellsOf av = some cs) (k : K ((d, .vptr cs) :: fr) st) : Aop P G X ⟨some d, .box t x, ty, pos, aft, gd⟩ K fr st := fun a w ⟨M, hM⟩ Q => by
  obtain ⟨h1, h2⟩ := cells_rep (opv_rep hM hx) hc
  have hT := Tr.alloc w (a.eval x).cells t
  have hM1 := hM.tr' hT
  have hM2 := hM1.more (M' := fun b => M b ∨ b = w.heap.size) (fun b hb => .inl hb) (fun b hb => hb.imp id (fun h => by rw [h]; exact hM.tr.size)) (fun b hb => by
    rcases hb with hb | rfl
    · exact hM1.sim.lt b hb
    · simp) (fun b hb hb' => by
    rcases hb' with hb' | rfl
    · obtain ⟨e', he'⟩ := of_mem_keys hb
      exact hM.sim.notM b e' he' hb'
    · exact Nat.lt_irrefl _ (hM.sim.key_lt hb))
  simp only [Oper.wp, execOp, Instr.box, Sem.run_bind, run_newVar, Result.andThen_ok, Sem.run_pure, Oper.upon_value]
  refine ⟨TrX.of_nil hT, _, _, fun _ hx => .inl hx, k, _, hM2.put (dst := some d) (av := .vptr cs) hd ?_⟩
  exact Rep.vptr (M := fun b => M b ∨ b = w.heap.size) w.heap.size 0 cs (fun j => (a.eval x).cells.getD j undef) (.inr rfl) (fun j av' hj => by
      have hjl := (List.getElem?_eq_some_iff.1 hj).1
      rw [Nat.zero_add]
      exact cell_of_heap (heap_alloc_new w _) (by omega))
    (fun j av' hj => (h2 j av' hj).mono (fun b hb => .inl hb) (fun b hb => hT.same b (hM.sim.lt b hb) (by simp)) hT.bs)

theorem w_makeN {P : Program} {G : Gh} {X : Option (List Nat × List Nat)} {K : Fr → Store → Prop} {fr : Fr} {st : Store} {d : Nat} {ty : TypeId} {pos : String} {aft : Array Edge} {gd : Option (Nat × Bool)} {α : Type} (f : α → List AV) (z : α) {t e : TypeId} {s by' : Nat} {x y : Operand} {k1 k2 : IntKind} {n : Int} (c : Nat) (hd : Nat.blt d G.n = true) (he : elemOfT P t = some (e, s, by')) (hz : zeroOf P e = some (f z)) (hx : opv fr x = some (.int k1 n)) (hy : opv fr y = some (.int k2 n))
    (hc : n = (c : Int)) (hb : by' * c ≤ 281474976710656) (h63 : c ≤ 9223372036854775807)
    (k : ∀ b, K ((d, .own s b 0 c) :: fr) ((b, .arr e s ((List.replicate c z).map f)) :: st)) : Aop P G X ⟨some d, .makeSlice t x y, ty, pos, aft, gd⟩ K fr st :=
  op_make c hd he hz hx hy hc hb h63 (fun b => by
    have := k b
    rw [List.map_replicate] at this
    exact this)

/-- What is left of a size, or -1. -/
def szv (n : Nat) (left : Int) : Int := if left - (n : Int) < 0 then -1 else left - n
theorem szv_b {n : Nat} {left : Int} (h : 0 ≤ left) : -1 ≤ szv n left ∧ szv n left ≤ left := by
  unfold szv; split <;> omega
theorem szv_le {n : Nat} {left : Int} (h : ¬ szv n left < 0) : (n : Int) ≤ left := by
  unfold szv at h; split at h <;> omega

/-- The first index at which p holds, or -1. -/
def first (p : Nat → Bool) : Nat → Int
  | 0 => -1
  | n + 1 => if 0 ≤ first p n then first p n else if p n = true then (n : Int) else -1
theorem first_none {p : Nat → Bool} : ∀ {n : Nat}, (∀ j, j < n → p j = false) → first p n = -1
  | 0, _ => rfl
  | n + 1, h => by
    have h1 := first_none (n := n) (fun j hj => h j (by omega))
    simp [first, h1, h n (by omega)]
theorem first_at {p : Nat → Bool} : ∀ {n i : Nat}, i < n → (∀ j, j < i → p j = false) → p i = true → first p n = (i : Int)
  | 0, i, h, _, _ => by omega
  | n + 1, i, h, h0, h1 => by
    rcases Nat.lt_succ_iff_lt_or_eq.1 h with h' | h'
    · have h2 := first_at h' h0 h1
      simp [first, h2]
    · subst h'
      have h2 := first_none (p := p) (n := i) h0
      simp [first, h2, h1]
theorem first_spec (p : Nat → Bool) : ∀ (n : Nat), (first p n = -1 ∧ ∀ j, j < n → p j = false) ∨ ∃ i, i < n ∧ first p n = (i : Int) ∧ p i = true ∧ ∀ j, j < i → p j = false
  | 0 => .inl ⟨rfl, fun j hj => by omega⟩
  | n + 1 => by
    rcases first_spec p n with ⟨h1, h2⟩ | ⟨i, h1, h2, h3, h4⟩
    · by_cases hp : p n = true
      · exact .inr ⟨n, by omega, by simp [first, h1, hp], hp, h2⟩
      · exact .inl ⟨by simp [first, h1, hp], fun j hj => by
          rcases Nat.lt_succ_iff_lt_or_eq.1 hj with h' | h'
          · exact h2 j h'
          · subst h'; simpa using hp⟩
    · exact .inr ⟨i, by omega, by simp [first, h2], h3, h4⟩

/-! ### Operations that are passed over: the slot is undefined, and so is what it guards passed over too -/
section
variable {P : Program} {G : Gh} {K : Fr → Store → Prop} {fr : Fr} {st : Store} {o : Oper}

theorem rep_undef (M : Nat → Prop) (w : World) : Rep M w undef (.tup []) := .tup #[] [] rfl (fun i av hi => by simp at hi)
theorem yields_un {ops : Array Oper} {g d : Nat} {a : Act} {M : Nat → Prop} {w : World} (hM : StM G M fr st a w) (hd : (ops[g]?).bind (·.dst) = some d) (hl : look fr d = some (.tup [])) : yielded ops a.tmps g = none := by
  obtain ⟨h1, h2⟩ := hM.fr d _ hl
  unfold yielded
  rw [hd]
  have : a.tmps[d]? = some (a.tmps.getD d undef) := by simp [h1]
  simp only [Option.bind_some, this]
  generalize a.tmps.getD d undef = v at h2
  cases h2
  rfl

theorem aops_split {ops : Array Oper} {rest : List Oper} {b : Bool} (d : Nat) (hl : look fr d = some (.bool b)) (ht : b = true → Aops P G ops rest K ((d, .bool true) :: fr) st) (hf : b = false → Aops P G ops rest K ((d, .bool false) :: fr) st) : Aops P G ops rest K fr st := fun a w ⟨M, hM⟩ => by
  have hlit : ∀ b', b = b' → StM G M ((d, .bool b') :: fr) st a w := by
    rintro b' rfl
    refine ⟨hM.size, hM.defers, hM.tr, hM.m0, hM.m1, hM.k1, ?_, hM.sim⟩
    intro s av hs
    by_cases hds : d = s
    · subst hds; rw [look_cons_self] at hs; cases hs; exact hM.fr d _ hl
    · rw [look_cons_ne _ _ hds] at hs; exact hM.fr s av hs
  cases hb : b with
  | true => exact ht hb a w ⟨M, hlit _ hb⟩
  | false => exact hf hb a w ⟨M, hlit _ hb⟩
theorem aops_split_d {ops : Array Oper} {rest : List Oper} {p : Prop} [Decidable p] (d : Nat) (hl : look fr d = some (.bool (decide p))) (ht : p → Aops P G ops rest K ((d, .bool true) :: fr) st) (hf : ¬ p → Aops P G ops rest K ((d, .bool false) :: fr) st) : Aops P G ops rest K fr st :=
  aops_split d hl (fun h => ht (of_decide_eq_true h)) (fun h => hf (of_decide_eq_false h))

theorem g_pass' {ops : Array Oper} {rest : List Oper} {g e d : Nat} {want : Bool} (hg : o.guard = some (g, want)) (hd : (ops[g]?).bind (·.dst) = some e) (ho : o.dst = some d) (hn : Nat.blt d G.n = true) (hl : look fr e = some (.bool (!want)))
    (h : Aops P G ops rest K ((d, .tup []) :: fr) st) : Aops P G ops (o :: rest) K fr st := fun a w hs => by
  obtain ⟨M, hM⟩ := hs
  have hy := yields_of hM hd hl
  unfold wpList
  rw [if_neg (by simp [Region.wanted, hg, hy]), ho]
  exact h _ _ ⟨M, hM.put (dst := some d) hn (rep_undef _ _)⟩
theorem g_pass_u {ops : Array Oper} {rest : List Oper} {g e d : Nat} {want : Bool} (hg : o.guard = some (g, want)) (hd : (ops[g]?).bind (·.dst) = some e) (ho : o.dst = some d) (hn : Nat.blt d G.n = true) (hl : look fr e = some (.tup []))
    (h : Aops P G ops rest K ((d, .tup []) :: fr) st) : Aops P G ops (o :: rest) K fr st := fun a w hs => by
  obtain ⟨M, hM⟩ := hs
  have hy := yields_un hM hd hl
  unfold wpList
  rw [if_neg (by simp [Region.wanted, hg, hy]), ho]
  exact h _ _ ⟨M, hM.put (dst := some d) hn (rep_undef _ _)⟩

variable {d : Nat} {ty : TypeId} {pos : String} {aft : Array Edge} {ops : Array Oper} {Xl Ko : List Nat} {first : Bool} {fuel : Nat} {listed : Array Bool} {op : Op}
theorem d_pass' {g e : Nat} {want : Bool} (i : Nat) (hi : ops[i]? = some ⟨some d, op, ty, pos, aft, some (g, want)⟩) (hs : Region.noSelect ops = true) (hf : Region.free .any ops listed i = true)
    (hr : (Region.ready .any ops listed).contains i = true) (hgd : (ops[g]?).bind (·.dst) = some e) (hl : look fr e = some (.bool (!want))) (hd : Nat.blt d G.n = true)
    (k : ADraw P G ops Xl Ko first fuel (listed.setIfInBounds i true) K ((d, .tup []) :: fr) st) : ADraw P G ops Xl Ko first (fuel + 1) listed K fr st := fun ws a w ⟨M, hM⟩ h1 h2 h3 h4 => by
  have hy := yields_of hM hgd hl
  exact wpAnyH_take hi hs hf hr (fun _ _ _ hh => (Lift.noPanic hh).elim) (.inr ⟨by simp [Region.wanted, hy], rfl⟩) h1 (k ws _ _ ⟨M, hM.put (dst := some d) hd (rep_undef _ _)⟩ h1 h2 h3 h4)
theorem d_pass_u {g e : Nat} {want : Bool} (i : Nat) (hi : ops[i]? = some ⟨some d, op, ty, pos, aft, some (g, want)⟩) (hs : Region.noSelect ops = true) (hf : Region.free .any ops listed i = true)
    (hr : (Region.ready .any ops listed).contains i = true) (hgd : (ops[g]?).bind (·.dst) = some e) (hl : look fr e = some (.tup [])) (hd : Nat.blt d G.n = true)
    (k : ADraw P G ops Xl Ko first fuel (listed.setIfInBounds i true) K ((d, .tup []) :: fr) st) : ADraw P G ops Xl Ko first (fuel + 1) listed K fr st := fun ws a w ⟨M, hM⟩ h1 h2 h3 h4 => by
  have hy := yields_un hM hgd hl
  exact wpAnyH_take hi hs hf hr (fun _ _ _ hh => (Lift.noPanic hh).elim) (.inr ⟨by simp [Region.wanted, hy], rfl⟩) h1 (k ws _ _ ⟨M, hM.put (dst := some d) hd (rep_undef _ _)⟩ h1 h2 h3 h4)
end

end Go.Fw
