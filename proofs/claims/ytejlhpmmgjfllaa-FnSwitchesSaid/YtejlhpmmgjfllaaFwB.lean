/-
  The framework, part B: one operation, one region. It holds for every program. Condition: none.
-/
import Derived.Test.YtejlhpmmgjfllaaFwA
namespace Go.Fw
open Go

/-- In a region that draws its order: what may be written is of Xl, or was made in the region itself (Ko: the blocks that were there when it began). -/
def TrX (X : Option (List Nat × List Nat)) (st : Store) (w w' : World) : Prop := match X with
  | none => True
  | some (Xl, Ko) => ∃ T, Tr T w w' ∧ ∀ x ∈ T, x ∈ Xl ∨ (x ∈ keys st ∧ x ∉ Ko)

theorem TrX.of_nil {X : Option (List Nat × List Nat)} {st : Store} {w w' : World} (h : Tr [] w w') : TrX X st w w' := by
  cases X with
  | none => trivial
  | some l => exact ⟨[], h, fun _ hx => by cases hx⟩

/-- What operation o comes to: K of the frame and of the blocks behind it. -/
def Aop (P : Program) (G : Gh) (X : Option (List Nat × List Nat)) (o : Oper) (K : Fr → Store → Prop) (fr : Fr) (st : Store) : Prop :=
  ∀ a w, St G fr st a w → ∀ Q, o.wp P a w (fun a' w' => TrX X st w w' ∧ ∃ fr' st', (∀ x ∈ keys st', x ∈ keys st ∨ w.heap.size ≤ x) ∧ K fr' st' ∧ St G fr' st' a' w') Q

def putF (fr : Fr) (dst : Option Tmp) (v : AV) : Fr := match dst with | some d => (d, v) :: fr | none => fr
def okDst (n : Nat) (dst : Option Tmp) : Bool := match dst with | some d => Nat.blt d n | none => true

/-- What an operation yields that changes nothing: in the world at hand, and in each that Y lets. -/
def Pure (P : Program) (G : Gh) (Y : World → World → Prop) (fr : Fr) (st : Store) (o : Oper) (av : AV) : Prop :=
  ∀ M a w, StM G M fr st a w → ∃ v, Rep M w v av ∧ ∀ w', Y w w' → (execOp a.eval o).run P w' = .ok (.value v) w'

def Keep (X : List Nat) (w w' : World) : Prop := ∀ b, b < w.heap.size → b ∉ X → w'.heap[b]? = w.heap[b]?
def NoMem (_ _ : World) : Prop := True

theorem StM.put {G : Gh} {M : Nat → Prop} {fr : Fr} {st : Store} {a : Act} {w : World} (h : StM G M fr st a w) {dst : Option Tmp} {v : Value} {av : AV} (hd : okDst G.n dst = true)
    (hr : Rep M w v av) : StM G M (putF fr dst av) st (a.put dst v) w := by
  cases dst with
  | none => exact h
  | some d =>
    simp only [okDst] at hd
    have hd' : d < G.n := Nat.le_of_ble_eq_true hd
    refine ⟨by simp [Act.put, h.size], h.defers, h.tr, h.m0, h.m1, h.k1, ?_, h.sim⟩
    intro s av' hs
    by_cases hds : d = s
    · subst hds
      rw [putF, look_cons_self] at hs
      cases hs
      refine ⟨by simp [Act.put, h.size, hd'], ?_⟩
      have : (a.put (some d) v).tmps.getD d undef = v := by
        have : d < a.tmps.size := by rw [h.size]; exact hd'
        simp [Act.put, Array.getD, this]
      rw [this]; exact hr
    · rw [putF, look_cons_ne _ _ hds] at hs
      obtain ⟨h1, h2⟩ := h.fr s av' hs
      refine ⟨by simp [Act.put, h1], ?_⟩
      have : (a.put (some d) v).tmps.getD s undef = a.tmps.getD s undef := by
        simp [Act.put, Array.getElem?_setIfInBounds_ne hds]
      rw [this]; exact h2

/-- A world that changed in none of the blocks spoken of. -/
theorem StM.tr' {G : Gh} {M : Nat → Prop} {fr : Fr} {st : Store} {a : Act} {w w' : World} (h : StM G M fr st a w) (t : Tr [] w w') : StM G M fr st a w' :=
  ⟨h.size, h.defers, h.tr.trans0 t, h.m0, h.m1, h.k1, fun s av hs => ⟨(h.fr s av hs).1, (h.fr s av hs).2.mono (fun _ h => h) (fun b hb => t.same b (h.sim.lt b hb) (by simp)) t.bs⟩,
    h.sim.tr t (fun _ hx => by cases hx)⟩

theorem wanted_none {o : Oper} (hg : o.guard = none) (y : Nat → Option Bool) : Region.wanted o y = true := by simp [Region.wanted, hg]

section
variable {P : Program} {G : Gh} {X : Option (List Nat × List Nat)} {K : Fr → Store → Prop} {fr : Fr} {st : Store} {o : Oper}

theorem op_pure {av : AV} (hd : okDst G.n o.dst = true) (h : Pure P G (Keep []) fr st o av) (k : K (putF fr o.dst av) st) : Aop P G X o K fr st := fun a w ⟨M, hM⟩ Q => by
  obtain ⟨v, hr, hrun⟩ := h M a w hM
  unfold Oper.wp
  rw [hrun w (fun _ _ _ => rfl)]
  exact ⟨TrX.of_nil (Tr.refl _ _), _, _, fun _ hx => .inl hx, k, M, hM.put hd hr⟩

def thenN (K : Fr → Store → Prop) : Post := fun e fr st => e = .normal ∧ K fr st

def Aops (P : Program) (G : Gh) (ops : Array Oper) (rest : List Oper) (K : Fr → Store → Prop) (fr : Fr) (st : Store) : Prop :=
  ∀ a w, St G fr st a w → wpList P ops (Lift G (thenN K)) rest a w

theorem aops_nil {ops : Array Oper} (k : K fr st) : Aops P G ops [] K fr st := fun _ _ h => ⟨fr, st, ⟨rfl, k⟩, h⟩

theorem aops_cons {ops : Array Oper} {rest : List Oper} (hg : o.guard = none) (h : Aop P G none o (Aops P G ops rest K) fr st) : Aops P G ops (o :: rest) K fr st := fun a w hs => by
  refine wpList_plain hg (fun K' hK => ?_)
  refine Oper.wp_mono ?_ (h a w hs _)
  rintro a' w' ⟨_, fr', st', _, hk, hs'⟩
  exact hK _ _ (hk a' w' hs')

theorem yields_of {ops : Array Oper} {g d : Nat} {a : Act} {M : Nat → Prop} {w : World} {b : Bool} (hM : StM G M fr st a w) (hd : (ops[g]?).bind (·.dst) = some d) (hl : look fr d = some (.bool b)) :
    yielded ops a.tmps g = some b := by
  obtain ⟨h1, h2⟩ := hM.fr d _ hl
  unfold yielded
  rw [hd]
  have : a.tmps[d]? = some (a.tmps.getD d undef) := by simp [h1]
  simp only [Option.bind_some, this]
  generalize a.tmps.getD d undef = v at h2
  cases h2
  rfl

theorem aops_guard {ops : Array Oper} {rest : List Oper} {g d : Nat} {want b : Bool} (hg : o.guard = some (g, want)) (hd : (ops[g]?).bind (·.dst) = some d) (hn : okDst G.n o.dst = true) (hl : look fr d = some (.bool b))
    (ht : b = want → Aop P G none o (Aops P G ops rest K) ((d, .bool want) :: fr) st) (hf : b = !want → Aops P G ops rest K (putF ((d, .bool (!want)) :: fr) o.dst .any) st) : Aops P G ops (o :: rest) K fr st := fun a w hs => by
  obtain ⟨M, hM⟩ := hs
  have hy := yields_of hM hd hl
  have hw : Region.wanted o (yielded ops a.tmps) = (b == want) := by simp [Region.wanted, hg, hy]
  have hlit : ∀ b', b = b' → StM G M ((d, .bool b') :: fr) st a w := by
    rintro b' rfl
    refine ⟨hM.size, hM.defers, hM.tr, hM.m0, hM.m1, hM.k1, ?_, hM.sim⟩
    intro s av hs
    by_cases hds : d = s
    · subst hds; rw [look_cons_self] at hs; cases hs; exact hM.fr d _ hl
    · rw [look_cons_ne _ _ hds] at hs; exact hM.fr s av hs
  unfold wpList
  by_cases hb : b = want
  · rw [if_pos (by rw [hw]; simp [hb])]
    refine .inl (Oper.wp_mono ?_ (ht hb a w ⟨M, hlit _ hb⟩ _))
    rintro a' w' ⟨_, fr', st', _, hk, hs'⟩
    exact hk a' w' hs'
  · have hb' : b = !want := by cases b <;> cases want <;> simp_all
    rw [if_neg (by rw [hw]; simp [hb])]
    exact hf hb' _ _ ⟨M, (hlit _ hb').put hn (.any _)⟩

/-- The guard is known. -/
theorem aops_guard_t {ops : Array Oper} {rest : List Oper} {g d : Nat} {want : Bool} (hg : o.guard = some (g, want)) (hd : (ops[g]?).bind (·.dst) = some d) (hl : look fr d = some (.bool want))
    (h : Aop P G none o (Aops P G ops rest K) fr st) : Aops P G ops (o :: rest) K fr st := fun a w hs => by
  obtain ⟨M, hM⟩ := hs
  have hy := yields_of hM hd hl
  unfold wpList
  rw [if_pos (by simp [Region.wanted, hg, hy])]
  refine .inl (Oper.wp_mono ?_ (h a w ⟨M, hM⟩ _))
  rintro a' w' ⟨_, fr', st', _, hk, hs'⟩
  exact hk a' w' hs'

theorem aops_guard_f {ops : Array Oper} {rest : List Oper} {g d : Nat} {want : Bool} (hg : o.guard = some (g, want)) (hd : (ops[g]?).bind (·.dst) = some d) (hn : okDst G.n o.dst = true) (hl : look fr d = some (.bool (!want)))
    (h : Aops P G ops rest K (putF fr o.dst .any) st) : Aops P G ops (o :: rest) K fr st := fun a w hs => by
  obtain ⟨M, hM⟩ := hs
  have hy := yields_of hM hd hl
  unfold wpList
  rw [if_neg (by simp [Region.wanted, hg, hy])]
  exact h _ _ ⟨M, hM.put hn (.any _)⟩

theorem a_region {Q : Post} {id : Nat} {l : List Oper} (h : Aops P G l.toArray l (fun fr st => Q .normal fr st) fr st) : awp P G (.region id l.toArray false) Q fr st := fun a w hs => by
  refine wp_mono (wp_region_lit (h a w hs)) ?_
  rintro e a' w' ⟨fr', st', ⟨rfl, q⟩, s⟩
  exact ⟨fr', st', q, s⟩

/-! ### A region that draws its order -/

/-- Whatever order is picked from here on. 'first': nothing has been made or written yet in this region. -/
def ADraw (P : Program) (G : Gh) (ops : Array Oper) (Xl Ko : List Nat) (first : Bool) (fuel : Nat) (listed : Array Bool) (K : Fr → Store → Prop) (fr : Fr) (st : Store) : Prop :=
  ∀ ws a w, St G fr st a w → Keep Xl ws w → ws.heap.size ≤ w.heap.size → (first = true → w.heap.size = ws.heap.size) → (∀ x ∈ keys st, x ∈ Ko ∨ ws.heap.size ≤ x) → wpAnyH P .any ops (Lift G (thenN K)) (Keep Xl ws) fuel listed a w

theorem Keep.refl (Xl : List Nat) (w : World) : Keep Xl w w := fun _ _ _ => rfl

theorem Lift.noPanic {c : List PanicEntry} {a : Act} {w : World} (h : Lift G (thenN K) (.panic c) a w) : False := by
  obtain ⟨_, _, ⟨h1, _⟩, _⟩ := h
  cases h1

theorem a_draw {Q : Post} {id : Nat} {l : List Oper} (Xl : List Nat) (hm : P.follows .mixedOrders = true)
    (h : ADraw P G l.toArray Xl (keys st) true l.length (Array.replicate l.length false) (fun fr st => Q .normal fr st) fr st) : awp P G (.region id l.toArray true) Q fr st := fun a w hs => by
  obtain ⟨M, hM⟩ := hs
  have ht : Tr [] w { w with drawn := w.drawn + 1 } := ⟨rfl, rfl, rfl, Nat.le_refl _, fun _ _ _ => rfl, fun _ _ => rfl⟩
  refine wp_mono (wp_region_held (S := Keep Xl { w with drawn := w.drawn + 1 }) hm ?_) (Q := Lift G (thenN fun fr st => Q .normal fr st)) ?_
  · have := h { w with drawn := w.drawn + 1 } a _ ⟨M, hM.tr' ht⟩ (Keep.refl _ _) (Nat.le_refl _) (fun _ => rfl) (fun _ hx => .inl hx)
    simpa using this
  · rintro e a' w' ⟨fr', st', ⟨rfl, q⟩, s⟩
    exact ⟨fr', st', q, s⟩

theorem draw_done {ops : Array Oper} {Xl Ko : List Nat} {first : Bool} {fuel : Nat} {listed : Array Bool} (hr : Region.ready .any ops listed = []) (k : K fr st) :
    ADraw P G ops Xl Ko first fuel listed K fr st := fun _ _ _ hs _ _ _ _ => wpAnyH_done hr ⟨fr, st, ⟨rfl, k⟩, hs⟩ _

/-- Take number i, which is no operation on memory. -/
theorem draw_take {ops : Array Oper} {Xl Ko : List Nat} {first : Bool} {fuel : Nat} {listed : Array Bool} {av : AV} (i : Nat) (hi : ops[i]? = some o) (hs : Region.noSelect ops = true) (hf : Region.free .any ops listed i = true)
    (hr : (Region.ready .any ops listed).contains i = true) (hg : o.guard = none) (hd : okDst G.n o.dst = true) (h : Pure P G NoMem fr st o av)
    (k : ADraw P G ops Xl Ko first fuel (listed.setIfInBounds i true) K (putF fr o.dst av) st) : ADraw P G ops Xl Ko first (fuel + 1) listed K fr st := fun ws a w ⟨M, hM⟩ h1 h2 h3 h4 => by
  obtain ⟨v, hr', hrun⟩ := h M a w hM
  exact wpAnyH_take hi hs hf hr (fun _ _ _ hh => (Lift.noPanic hh).elim) (.inl ⟨wanted_none hg _, fun w' _ => hrun w' trivial⟩) h1 (k ws _ _ ⟨M, hM.put hd hr'⟩ h1 h2 h3 h4)

/-- Take number i, a load, while nothing has been made or written. -/
theorem draw_load {ops : Array Oper} {Xl Ko : List Nat} {fuel : Nat} {listed : Array Bool} {av : AV} (i : Nat) (hi : ops[i]? = some o) (hs : Region.noSelect ops = true) (hf : Region.free .any ops listed i = true)
    (hr : (Region.ready .any ops listed).contains i = true) (hg : o.guard = none) (hd : okDst G.n o.dst = true) (h : Pure P G (Keep Xl) fr st o av)
    (k : ADraw P G ops Xl Ko true fuel (listed.setIfInBounds i true) K (putF fr o.dst av) st) : ADraw P G ops Xl Ko true (fuel + 1) listed K fr st := fun ws a w ⟨M, hM⟩ h1 h2 h3 h4 => by
  obtain ⟨v, hr', hrun⟩ := h M a w hM
  exact wpAnyH_take hi hs hf hr (fun _ _ _ hh => (Lift.noPanic hh).elim) (.inl ⟨wanted_none hg _, fun w' hw' => hrun w' (fun b hb hx => by
    rw [h3 rfl] at hb
    exact (hw' b hb hx).trans (h1 b hb hx).symm)⟩) h1 (k ws _ _ ⟨M, hM.put hd hr'⟩ h1 h2 h3 h4)

/-- The same, the operation's guard being known. -/
theorem draw_take_t {ops : Array Oper} {Xl Ko : List Nat} {first : Bool} {fuel : Nat} {listed : Array Bool} {av : AV} {g d : Nat} {want : Bool} (i : Nat) (hi : ops[i]? = some o) (hs : Region.noSelect ops = true) (hf : Region.free .any ops listed i = true)
    (hr : (Region.ready .any ops listed).contains i = true) (hg : o.guard = some (g, want)) (hgd : (ops[g]?).bind (·.dst) = some d) (hl : look fr d = some (.bool want)) (hd : okDst G.n o.dst = true) (h : Pure P G NoMem fr st o av)
    (k : ADraw P G ops Xl Ko first fuel (listed.setIfInBounds i true) K (putF fr o.dst av) st) : ADraw P G ops Xl Ko first (fuel + 1) listed K fr st := fun ws a w ⟨M, hM⟩ h1 h2 h3 h4 => by
  obtain ⟨v, hr', hrun⟩ := h M a w hM
  have hy := yields_of hM hgd hl
  exact wpAnyH_take hi hs hf hr (fun _ _ _ hh => (Lift.noPanic hh).elim) (.inl ⟨by simp [Region.wanted, hg, hy], fun w' _ => hrun w' trivial⟩) h1 (k ws _ _ ⟨M, hM.put hd hr'⟩ h1 h2 h3 h4)

theorem draw_load_t {ops : Array Oper} {Xl Ko : List Nat} {fuel : Nat} {listed : Array Bool} {av : AV} {g d : Nat} {want : Bool} (i : Nat) (hi : ops[i]? = some o) (hs : Region.noSelect ops = true) (hf : Region.free .any ops listed i = true)
    (hr : (Region.ready .any ops listed).contains i = true) (hg : o.guard = some (g, want)) (hgd : (ops[g]?).bind (·.dst) = some d) (hl : look fr d = some (.bool want)) (hd : okDst G.n o.dst = true) (h : Pure P G (Keep Xl) fr st o av)
    (k : ADraw P G ops Xl Ko true fuel (listed.setIfInBounds i true) K (putF fr o.dst av) st) : ADraw P G ops Xl Ko true (fuel + 1) listed K fr st := fun ws a w ⟨M, hM⟩ h1 h2 h3 h4 => by
  obtain ⟨v, hr', hrun⟩ := h M a w hM
  have hy := yields_of hM hgd hl
  exact wpAnyH_take hi hs hf hr (fun _ _ _ hh => (Lift.noPanic hh).elim) (.inl ⟨by simp [Region.wanted, hg, hy], fun w' hw' => hrun w' (fun b hb hx => by
    rw [h3 rfl] at hb
    exact (hw' b hb hx).trans (h1 b hb hx).symm)⟩) h1 (k ws _ _ ⟨M, hM.put hd hr'⟩ h1 h2 h3 h4)

/-- The operation is passed over, its guard being known. -/
theorem draw_pass {ops : Array Oper} {Xl Ko : List Nat} {first : Bool} {fuel : Nat} {listed : Array Bool} {g d : Nat} {want : Bool} (i : Nat) (hi : ops[i]? = some o) (hs : Region.noSelect ops = true) (hf : Region.free .any ops listed i = true)
    (hr : (Region.ready .any ops listed).contains i = true) (hg : o.guard = some (g, want)) (hgd : (ops[g]?).bind (·.dst) = some d) (hl : look fr d = some (.bool (!want))) (hd : okDst G.n o.dst = true)
    (k : ADraw P G ops Xl Ko first fuel (listed.setIfInBounds i true) K (putF fr o.dst .any) st) : ADraw P G ops Xl Ko first (fuel + 1) listed K fr st := fun ws a w ⟨M, hM⟩ h1 h2 h3 h4 => by
  have hy := yields_of hM hgd hl
  exact wpAnyH_take hi hs hf hr (fun _ _ _ hh => (Lift.noPanic hh).elim) (.inr ⟨by simp [Region.wanted, hg, hy], rfl⟩) h1 (k ws _ _ ⟨M, hM.put hd (.any _)⟩ h1 h2 h3 h4)

/-- A slot is known to be this Bool or that. -/
theorem draw_split {ops : Array Oper} {Xl Ko : List Nat} {first : Bool} {fuel : Nat} {listed : Array Bool} {b : Bool} (d : Nat) (hl : look fr d = some (.bool b))
    (ht : b = true → ADraw P G ops Xl Ko first fuel listed K ((d, .bool true) :: fr) st) (hf : b = false → ADraw P G ops Xl Ko first fuel listed K ((d, .bool false) :: fr) st) : ADraw P G ops Xl Ko first fuel listed K fr st := fun ws a w ⟨M, hM⟩ h1 h2 h3 h4 => by
  have hlit : ∀ b', b = b' → StM G M ((d, .bool b') :: fr) st a w := by
    rintro b' rfl
    refine ⟨hM.size, hM.defers, hM.tr, hM.m0, hM.m1, hM.k1, ?_, hM.sim⟩
    intro s av hs
    by_cases hds : d = s
    · subst hds; rw [look_cons_self] at hs; cases hs; exact hM.fr d _ hl
    · rw [look_cons_ne _ _ hds] at hs; exact hM.fr s av hs
  cases hb : b with
  | true => exact ht hb ws a w ⟨M, hlit _ hb⟩ h1 h2 h3 h4
  | false => exact hf hb ws a w ⟨M, hlit _ hb⟩ h1 h2 h3 h4

/-- Whichever of those that may come up comes up. -/
def ADrawAll (P : Program) (G : Gh) (ops : Array Oper) (Xl Ko : List Nat) (fuel : Nat) (listed : Array Bool) (K : Fr → Store → Prop) (fr : Fr) (st : Store) (rs : List Nat) : Prop :=
  ∀ i ∈ rs, ∀ ws a w, St G fr st a w → Keep Xl ws w → ws.heap.size ≤ w.heap.size → (∀ x ∈ keys st, x ∈ Ko ∨ ws.heap.size ≤ x) → wpOp P ops (Lift G (thenN K)) i (fun a' w' => Keep Xl ws w' ∧ wpAnyH P .any ops (Lift G (thenN K)) (Keep Xl ws) fuel (listed.setIfInBounds i true) a' w') a w

theorem draw_all {ops : Array Oper} {Xl Ko : List Nat} {first : Bool} {fuel : Nat} {listed : Array Bool} (rs : List Nat) (hr : Region.ready .any ops listed = rs) (hne : rs ≠ [])
    (h : ADrawAll P G ops Xl Ko fuel listed K fr st rs) : ADraw P G ops Xl Ko first (fuel + 1) listed K fr st := fun ws a w hs h1 h2 _ h4 =>
  wpAnyH_all hr hne (fun i hi => h i hi ws a w hs h1 h2 h4)

theorem all_nil {ops : Array Oper} {Xl Ko : List Nat} {fuel : Nat} {listed : Array Bool} : ADrawAll P G ops Xl Ko fuel listed K fr st [] := fun _ h => by cases h

theorem Keep.tr {Xl Ko T : List Nat} {ws w w' : World} (h : Keep Xl ws w) (hs : ws.heap.size ≤ w.heap.size) (t : Tr T w w') (hT : ∀ x ∈ T, x ∈ Xl ∨ (x ∈ keys st ∧ x ∉ Ko)) (hk : ∀ x ∈ keys st, x ∈ Ko ∨ ws.heap.size ≤ x) : Keep Xl ws w' := fun b hb hx =>
  (t.same b (by omega) (fun hT' => by
    rcases hT b hT' with h1 | ⟨h1, h2⟩
    · exact hx h1
    · rcases hk b h1 with h3 | h3
      · exact h2 h3
      · omega)).trans (h b hb hx)

theorem all_cons {ops : Array Oper} {Xl Ko : List Nat} {fuel : Nat} {listed : Array Bool} {i : Nat} {rs : List Nat} (ho : ops[i]? = some o) (hg : o.guard = none)
    (h : Aop P G (some (Xl, Ko)) o (ADraw P G ops Xl Ko false fuel (listed.setIfInBounds i true) K) fr st) (hrest : ADrawAll P G ops Xl Ko fuel listed K fr st rs) : ADrawAll P G ops Xl Ko fuel listed K fr st (i :: rs) := fun j hj ws a w hs h1 h2 h4 => by
  rcases List.mem_cons.1 hj with rfl | hj
  · unfold wpOp
    simp only [ho, wanted_none hg, if_true]
    refine .inl (Oper.wp_mono ?_ (h a w hs _))
    rintro a' w' ⟨⟨T, ht, hT⟩, fr', st', hks, hk, hs'⟩
    have h5 := h1.tr h2 ht hT h4
    exact ⟨h5, hk ws a' w' hs' h5 (Nat.le_trans h2 ht.size) (fun h => by cases h) (fun x hx => by
      rcases hks x hx with h6 | h6
      · exact h4 x h6
      · exact .inr (by omega))⟩
  · exact hrest j hj ws a w hs h1 h2 h4

theorem all_cons_t {ops : Array Oper} {Xl Ko : List Nat} {fuel : Nat} {listed : Array Bool} {i g d : Nat} {want : Bool} {rs : List Nat} (ho : ops[i]? = some o) (hg : o.guard = some (g, want)) (hgd : (ops[g]?).bind (·.dst) = some d) (hl : look fr d = some (.bool want))
    (h : Aop P G (some (Xl, Ko)) o (ADraw P G ops Xl Ko false fuel (listed.setIfInBounds i true) K) fr st) (hrest : ADrawAll P G ops Xl Ko fuel listed K fr st rs) : ADrawAll P G ops Xl Ko fuel listed K fr st (i :: rs) := fun j hj ws a w hs h1 h2 h4 => by
  rcases List.mem_cons.1 hj with rfl | hj
  · obtain ⟨M, hM⟩ := hs
    have hy := yields_of hM hgd hl
    unfold wpOp
    have hw : Region.wanted o (yielded ops a.tmps) = true := by simp [Region.wanted, hg, hy]
    simp only [ho, hw, if_true]
    refine .inl (Oper.wp_mono ?_ (h a w ⟨M, hM⟩ _))
    rintro a' w' ⟨⟨T, ht, hT⟩, fr', st', hks, hk, hs'⟩
    have h5 := h1.tr h2 ht hT h4
    exact ⟨h5, hk ws a' w' hs' h5 (Nat.le_trans h2 ht.size) (fun h => by cases h) (fun x hx => by
      rcases hks x hx with h6 | h6
      · exact h4 x h6
      · exact .inr (by omega))⟩
  · exact hrest j hj ws a w hs h1 h2 h4

end
end Go.Fw
