/-
  Halls: operations one after the other. No condition.
-/
import Derived.Test.YtdlhpomgmlcfoaaVcpuGd
namespace Go.Hv
open Go Go.Fw
set_option linter.unusedSimpArgs false
set_option linter.unusedVariables false

structure HallOp where
  kind : Int
  id : Int
def eHallOp (c : HallOp) : List AV := [.int .i64 c.kind, .int .i64 c.id]
def okHallOp (c : HallOp) : Prop := InI c.kind ∧ InI c.id ∧ True
def zHallOp : HallOp := ⟨0, 0⟩
theorem cl_eHallOp : ∀ x, ∀ c ∈ eHallOp x, Closed c := fun _ => all_cons' (closed_int _ _) (all_cons' (closed_int _ _) all_nil')
def mkO (k : Int) (j : Nat) : HallOp := ⟨k + 2 * j, k + 2 * j + 1⟩

def OpOk (h : Hall) (o : HallOp) : Prop := ((o.kind = 1 ∨ o.kind = 2) ∧ 0 ≤ findI h.list o.id) ∨ (o.kind = 3 ∧ o.id = 0)
instance (h : Hall) (o : HallOp) : Decidable (OpOk h o) := by unfold OpOk; infer_instance
def badOp (h : Hall) (ops : List HallOp) (j : Nat) : Bool := !decide (OpOk h (ops.getD j zHallOp))
def GoodOps (h : Hall) (ops : List HallOp) : Prop := IsHall h ∧ ops.length ≤ 30 ∧ first (badOp h ops) ops.length < 0
instance (h : Hall) (ops : List HallOp) : Decidable (GoodOps h ops) := by unfold GoodOps; infer_instance
theorem GoodOps.at {h : Hall} {ops : List HallOp} (g : GoodOps h ops) {j : Nat} (hj : j < ops.length) : OpOk h (ops.getD j zHallOp) := by
  rcases first_spec (badOp h ops) ops.length with ⟨_, h2⟩ | ⟨i, h1, h2, _, _⟩
  · have := h2 j hj
    simpa [badOp] using this
  · have := g.2.2
    omega
theorem no_zero {h : Hall} (k : IsHall h) : findI h.list 0 < 0 := by
  refine Int.not_le.1 (fun h0 => ?_)
  have h1 := findI_id h0
  have h2 := (findI_lt h.list 0).2
  have := (k.1.1.1 (findI h.list 0).toNat (by omega)).1.1
  omega
/-- The reference's test of an op. -/
def OpOk2 (h : Hall) (o : HallOp) : Prop := (1 ≤ o.kind ∧ o.kind ≤ 3) ∧ (o.kind = 3 ↔ o.id = 0) ∧ (o.id = 0 ∨ 0 ≤ findI h.list o.id)
instance (h : Hall) (o : HallOp) : Decidable (OpOk2 h o) := by unfold OpOk2; infer_instance
theorem opOk2 {h : Hall} (k : IsHall h) (o : HallOp) : OpOk2 h o ↔ OpOk h o := by
  have hz := no_zero k
  unfold OpOk2 OpOk
  constructor
  · rintro ⟨h1, h2, h3⟩
    by_cases h4 : o.kind = 3
    · exact .inr ⟨h4, h2.1 h4⟩
    · exact .inl ⟨by omega, h3.resolve_left (fun q => h4 (h2.2 q))⟩
  · rintro (⟨h1, h2⟩ | ⟨h1, h2⟩)
    · refine ⟨by omega, ⟨fun q => by omega, fun q => ?_⟩, .inr h2⟩
      rw [q] at h2; omega
    · exact ⟨by omega, ⟨fun _ => h2, fun _ => h1⟩, .inl h2⟩
theorem goodOps_of {h : Hall} {ops : List HallOp} (k : IsHall h) (hl : ops.length ≤ 30) (h1 : ∀ j, j < ops.length → OpOk2 h (ops.getD j zHallOp)) : GoodOps h ops :=
  ⟨k, hl, by rw [first_none (fun j hj => by unfold badOp; rw [decide_eq_true ((opOk2 k _).1 (h1 j hj))]; rfl)]; omega⟩
theorem goodOps_not {h : Hall} {ops : List HallOp} {i : Nat} (hi : i < ops.length) (h1 : ¬ OpOk2 h (ops.getD i zHallOp)) : ¬ GoodOps h ops := fun g => h1 ((opOk2 g.1 _).2 (g.at hi))

/-! ### A run -/
structure Run where
  hall : Hall
  ticks : List Int
  woken : Int
  takes : Int
def tickB (xs : List Vcpu) : List Vcpu × Int := if Runs xs then (tickL xs, tickId xs) else (xs, 0)
theorem tickB_t {xs : List Vcpu} (h : Runs xs) : tickB xs = (tickL xs, tickId xs) := if_pos h
theorem tickB_f {xs : List Vcpu} (h : ¬ Runs xs) : tickB xs = (xs, 0) := if_neg h
theorem tickH_B (l : List Vcpu) (e : List Bool) : tickH ⟨l, e⟩ = (⟨(tickB l).1, e⟩, (tickB l).2) := by
  unfold tickH tickB; dsimp only; split <;> rfl
theorem tickB_len (xs : List Vcpu) : (tickB xs).1.length = xs.length := by unfold tickB; split; exact tickL_len xs; rfl
def stepR (id : Int) (i : Nat) (r : Run) (o : HallOp) : Run :=
  if o.kind = 3 then ⟨(tickH r.hall).1, r.ticks ++ [(tickH r.hall).2], r.woken, r.takes⟩
  else if o.kind = 2 then ⟨signalH r.hall i, r.ticks, if blk r.hall i = true ∧ o.id = id then r.woken + 1 else r.woken, r.takes⟩
  else if blk r.hall i = false then ⟨waitH r.hall i, r.ticks, r.woken, if evt r.hall i = true ∧ o.id = id then r.takes + 1 else r.takes⟩
  else r
def runR (h : Hall) (ops : List HallOp) (id : Int) : Nat → Run
  | 0 => ⟨h, [], 0, 0⟩
  | k + 1 => stepR id (findI h.list (ops.getD k zHallOp).id).toNat (runR h ops id k) (ops.getD k zHallOp)
/-- The ids are as they were. -/
def SameId (xs ys : List Vcpu) : Prop := ys.length = xs.length ∧ ∀ j, j < xs.length → (ys.getD j zVcpu).id = (xs.getD j zVcpu).id
theorem SameId.trans {a b c : List Vcpu} (h : SameId a b) (k : SameId b c) : SameId a c := ⟨k.1.trans h.1, fun j hj => (k.2 j (by rw [h.1]; exact hj)).trans (h.2 j hj)⟩
theorem SameId.find {xs ys : List Vcpu} (h : SameId xs ys) (id : Int) : findI ys id = findI xs id := by
  unfold findI
  rw [h.1]
  rcases first_spec (isId xs id) xs.length with ⟨h1, h2⟩ | ⟨i, h1, h2, h3, h4⟩
  · rw [h1]
    exact first_none (fun j hj => by have := h2 j hj; unfold isId at *; rw [h.2 j hj]; exact this)
  · rw [h2]
    exact first_at h1 (fun j hj => by have := h4 j hj; unfold isId at *; rw [h.2 j (by omega)]; exact this) (by unfold isId at *; rw [h.2 i h1]; exact h3)
theorem set_sameId {xs : List Vcpu} {i : Nat} {v : Vcpu} (hi : i < xs.length) (hv : v.id = (xs.getD i zVcpu).id) : SameId xs (xs.set i v) := by
  refine ⟨List.length_set, fun j hj => ?_⟩
  rw [set_get hi]
  split
  · rename_i e; subst e; exact hv
  · rfl
theorem set_are {xs : List Vcpu} {i : Nat} {v : Vcpu} (h : AreVcpus xs) (hi : i < xs.length) (h1 : v.id = (xs.getD i zVcpu).id) (h2 : v.weight = (xs.getD i zVcpu).weight) (h3 : v.credit = (xs.getD i zVcpu).credit) (h4 : v.blocked = false ∨ v.event = false) : AreVcpus (xs.set i v) := by
  refine are_of h List.length_set (fun j hj => ?_)
  rw [set_get hi]
  obtain ⟨g1, g2, g3, g4⟩ := (h.1 j hj).1
  split
  · rename_i e; subst e; exact ⟨h1, h2, by rw [h3]; exact g3, h4⟩
  · exact ⟨rfl, rfl, g3, g4⟩
theorem getB_set {es : List Bool} {i j : Nat} {b : Bool} (hi : i < es.length) : (es.set i b).getD j false = if i = j then b else es.getD j false := by
  rw [List.getD_eq_getElem?_getD, List.getD_eq_getElem?_getD, List.getElem?_set]
  split
  · rename_i e; subst e; simp [hi]
  · rfl
theorem signal_hall {h : Hall} {i : Nat} (k : IsHall h) (hi : i < h.list.length) : IsHall (signalH h i) ∧ SameId h.list (signalH h i).list := by
  have he := k.1.2
  cases hb : (h.list.getD i zVcpu).blocked with
  | true =>
    rw [signalH_t hb]
    refine ⟨⟨⟨set_are k.1.1 hi rfl rfl rfl (.inl rfl), by rw [List.length_set]; exact he⟩, fun j hj => ?_⟩, set_sameId hi rfl⟩
    rw [List.length_set] at hj
    have := k.2 j hj
    unfold HallAt at *
    dsimp only
    rw [set_get hi]
    split
    · exact .inl rfl
    · exact this
  | false =>
    rw [signalH_f hb]
    refine ⟨⟨⟨k.1.1, by rw [List.length_set]; exact he⟩, fun j hj => ?_⟩, ⟨rfl, fun _ _ => rfl⟩⟩
    have := k.2 j hj
    unfold HallAt at *
    dsimp only
    rw [getB_set (by omega)]
    split
    · rename_i e; subst e; exact .inl hb
    · exact this
theorem wait_hall {h : Hall} {i : Nat} (k : IsHall h) (hi : i < h.list.length) : IsHall (waitH h i) ∧ SameId h.list (waitH h i).list := by
  have he := k.1.2
  cases hb : h.events.getD i false with
  | true =>
    rw [waitH_t hb]
    refine ⟨⟨⟨k.1.1, by rw [List.length_set]; exact he⟩, fun j hj => ?_⟩, ⟨rfl, fun _ _ => rfl⟩⟩
    have := k.2 j hj
    unfold HallAt at *
    dsimp only
    rw [getB_set (by omega)]
    split
    · exact .inr rfl
    · exact this
  | false =>
    rw [waitH_f hb]
    refine ⟨⟨⟨set_are k.1.1 hi rfl rfl rfl (.inr rfl), by rw [List.length_set]; exact he⟩, fun j hj => ?_⟩, set_sameId hi rfl⟩
    rw [List.length_set] at hj
    have := k.2 j hj
    unfold HallAt at *
    dsimp only
    rw [set_get hi]
    split
    · rename_i e; subst e; exact .inr hb
    · exact this
theorem tick_hall {h : Hall} (k : IsHall h) : IsHall (tickH h).1 ∧ SameId h.list (tickH h).1.list := by
  by_cases hR : Runs h.list
  · rw [tickH_t hR]
    have hs := tick_same hR
    refine ⟨⟨⟨tick_are k.1.1 hR, by rw [hs.1]; exact k.1.2⟩, fun j hj => ?_⟩, ⟨hs.1, fun j hj => (hs.2 j hj).1⟩⟩
    rw [hs.1] at hj
    have := k.2 j hj
    unfold HallAt at *
    dsimp only
    rw [(hs.2 j hj).2]
    exact this
  · rw [tickH_f hR]
    exact ⟨k, ⟨rfl, fun _ _ => rfl⟩⟩
structure RInv (h : Hall) (ops : List HallOp) (id : Int) (k : Nat) (l : List Vcpu) (e : List Bool) (tk : List Int) (w t : Int) : Prop where
  le : k ≤ ops.length
  eq : runR h ops id k = ⟨⟨l, e⟩, tk, w, t⟩
  hall : IsHall ⟨l, e⟩
  same : SameId h.list l
  ev : e.length = h.events.length
  tl : tk.length ≤ k
  wb : 0 ≤ w ∧ w ≤ k
  tb : 0 ≤ t ∧ t ≤ k
theorem RInv.zero {h : Hall} {ops : List HallOp} {id : Int} (g : GoodOps h ops) : RInv h ops id 0 h.list h.events [] 0 0 :=
  ⟨Nat.zero_le _, rfl, g.1, ⟨rfl, fun _ _ => rfl⟩, rfl, Nat.le_refl _, ⟨by decide, by simp⟩, ⟨by decide, by simp⟩⟩
theorem stepR_ok {id : Int} {i : Nat} {r : Run} {o : HallOp} (k : IsHall r.hall) (hi : o.kind = 3 ∨ i < r.hall.list.length) :
    IsHall (stepR id i r o).hall ∧ SameId r.hall.list (stepR id i r o).hall.list ∧ (stepR id i r o).hall.events.length = r.hall.events.length ∧ (stepR id i r o).ticks.length ≤ r.ticks.length + 1 ∧
    (r.woken ≤ (stepR id i r o).woken ∧ (stepR id i r o).woken ≤ r.woken + 1) ∧ (r.takes ≤ (stepR id i r o).takes ∧ (stepR id i r o).takes ≤ r.takes + 1) := by
  unfold stepR
  split
  · exact ⟨(tick_hall k).1, (tick_hall k).2, (tickH_len _).2, by simp, ⟨Int.le_refl _, by dsimp only; omega⟩, ⟨Int.le_refl _, by dsimp only; omega⟩⟩
  · rename_i h3
    have hi' := hi.resolve_left h3
    split
    · exact ⟨(signal_hall k hi').1, (signal_hall k hi').2, (signalH_len _ _).2, by simp, by dsimp only; split <;> omega, ⟨Int.le_refl _, by dsimp only; omega⟩⟩
    · split
      · exact ⟨(wait_hall k hi').1, (wait_hall k hi').2, (waitH_len _ _).2, by simp, ⟨Int.le_refl _, by dsimp only; omega⟩, by dsimp only; split <;> omega⟩
      · exact ⟨k, ⟨rfl, fun _ _ => rfl⟩, rfl, by omega, ⟨Int.le_refl _, by omega⟩, ⟨Int.le_refl _, by omega⟩⟩
theorem RInv.find {h : Hall} {ops : List HallOp} {id : Int} {k : Nat} {l e tk w t} (I : RInv h ops id k l e tk w t) (x : Int) : findI l x = findI h.list x := I.same.find x
theorem RInv.small {h : Hall} {ops : List HallOp} {id : Int} {k : Nat} {l e tk w t} (I : RInv h ops id k l e tk w t) : l.length = h.list.length ∧ e.length = h.events.length ∧ l.length ≤ 5 ∧ e.length = l.length := ⟨I.same.1, I.ev, I.hall.small.1, I.hall.small.2⟩
theorem RInv.idx {h : Hall} {ops : List HallOp} {id : Int} {k : Nat} {l e tk w t} (I : RInv h ops id k l e tk w t) (g : GoodOps h ops) (hk : k < ops.length) :
    (ops.getD k zHallOp).kind = 3 ∨ (((ops.getD k zHallOp).kind = 1 ∨ (ops.getD k zHallOp).kind = 2) ∧ 0 ≤ findI h.list (ops.getD k zHallOp).id ∧ findI h.list (ops.getD k zHallOp).id < l.length) := by
  have := (findI_lt h.list (ops.getD k zHallOp).id).2
  rw [I.same.1]
  rcases g.at hk with ⟨h1, h2⟩ | ⟨h1, _⟩
  · exact .inr ⟨h1, h2, this⟩
  · exact .inl h1
theorem RInv.next {h : Hall} {ops : List HallOp} {id : Int} {k : Nat} {l e tk w t} (I : RInv h ops id k l e tk w t) (g : GoodOps h ops) (hk : k < ops.length) {l' e' tk' w' t'}
    (hs : stepR id (findI h.list (ops.getD k zHallOp).id).toNat ⟨⟨l, e⟩, tk, w, t⟩ (ops.getD k zHallOp) = ⟨⟨l', e'⟩, tk', w', t'⟩) : RInv h ops id (k + 1) l' e' tk' w' t' := by
  have ho := stepR_ok (id := id) (i := (findI h.list (ops.getD k zHallOp).id).toNat) (r := ⟨⟨l, e⟩, tk, w, t⟩) (o := ops.getD k zHallOp) I.hall (by
    rcases I.idx g hk with h1 | ⟨_, h2, h3⟩
    · exact .inl h1
    · exact .inr (by show _ < l.length; omega))
  rw [hs] at ho
  obtain ⟨o1, o2, o3, o4, o5, o6⟩ := ho
  have := I.wb; have := I.tb; have := I.tl
  exact ⟨hk, by rw [runR, I.eq, hs], o1, I.same.trans o2, o3.trans I.ev, by dsimp only at o4; omega, by dsimp only at o5; omega, by dsimp only at o6; omega⟩
section
variable {id : Int} {i : Nat} {l : List Vcpu} {e : List Bool} {tk : List Int} {w t : Int} {o : HallOp}
theorem st_tick (h : o.kind = 3) : stepR id i ⟨⟨l, e⟩, tk, w, t⟩ o = ⟨⟨(tickB l).1, e⟩, tk ++ [(tickB l).2], w, t⟩ := by
  unfold stepR; rw [if_pos h]; simp only [tickH_B]
theorem st_tickH (h : o.kind = 3) : stepR id i ⟨⟨l, e⟩, tk, w, t⟩ o = ⟨⟨(tickH ⟨l, e⟩).1.list, (tickH ⟨l, e⟩).1.events⟩, tk ++ [(tickH ⟨l, e⟩).2], w, t⟩ := by
  unfold stepR; rw [if_pos h]
theorem st_sig1 (h : ¬ o.kind = 3) (h2 : o.kind = 2) (h3 : (l.getD i zVcpu).blocked = true) (h4 : o.id = id) : stepR id i ⟨⟨l, e⟩, tk, w, t⟩ o = ⟨⟨(signalH ⟨l, e⟩ i).list, (signalH ⟨l, e⟩ i).events⟩, tk, w + 1, t⟩ := by
  unfold stepR; rw [if_neg h, if_pos h2, if_pos ⟨h3, h4⟩]
theorem st_sig2 (h : ¬ o.kind = 3) (h2 : o.kind = 2) (h3 : (l.getD i zVcpu).blocked = true) (h4 : ¬ o.id = id) : stepR id i ⟨⟨l, e⟩, tk, w, t⟩ o = ⟨⟨(signalH ⟨l, e⟩ i).list, (signalH ⟨l, e⟩ i).events⟩, tk, w, t⟩ := by
  unfold stepR; rw [if_neg h, if_pos h2, if_neg (fun q => h4 q.2)]
theorem st_sig3 (h : ¬ o.kind = 3) (h2 : o.kind = 2) (h3 : (l.getD i zVcpu).blocked = false) : stepR id i ⟨⟨l, e⟩, tk, w, t⟩ o = ⟨⟨(signalH ⟨l, e⟩ i).list, (signalH ⟨l, e⟩ i).events⟩, tk, w, t⟩ := by
  unfold stepR; rw [if_neg h, if_pos h2, if_neg (fun q => by have := q.1; unfold blk at this; rw [h3] at this; cases this)]
theorem st_wait1 (h : ¬ o.kind = 3) (h2 : ¬ o.kind = 2) (h3 : (l.getD i zVcpu).blocked = false) (h5 : e.getD i false = true) (h4 : o.id = id) : stepR id i ⟨⟨l, e⟩, tk, w, t⟩ o = ⟨⟨(waitH ⟨l, e⟩ i).list, (waitH ⟨l, e⟩ i).events⟩, tk, w, t + 1⟩ := by
  unfold stepR; rw [if_neg h, if_neg h2, if_pos (show blk (⟨⟨l, e⟩, tk, w, t⟩ : Run).hall i = false from h3), if_pos ⟨h5, h4⟩]
theorem st_wait2 (h : ¬ o.kind = 3) (h2 : ¬ o.kind = 2) (h3 : (l.getD i zVcpu).blocked = false) (h5 : e.getD i false = true) (h4 : ¬ o.id = id) : stepR id i ⟨⟨l, e⟩, tk, w, t⟩ o = ⟨⟨(waitH ⟨l, e⟩ i).list, (waitH ⟨l, e⟩ i).events⟩, tk, w, t⟩ := by
  unfold stepR; rw [if_neg h, if_neg h2, if_pos (show blk (⟨⟨l, e⟩, tk, w, t⟩ : Run).hall i = false from h3), if_neg (fun q => h4 q.2)]
theorem st_wait3 (h : ¬ o.kind = 3) (h2 : ¬ o.kind = 2) (h3 : (l.getD i zVcpu).blocked = false) (h5 : e.getD i false = false) : stepR id i ⟨⟨l, e⟩, tk, w, t⟩ o = ⟨⟨(waitH ⟨l, e⟩ i).list, (waitH ⟨l, e⟩ i).events⟩, tk, w, t⟩ := by
  unfold stepR; rw [if_neg h, if_neg h2, if_pos (show blk (⟨⟨l, e⟩, tk, w, t⟩ : Run).hall i = false from h3), if_neg (fun q => by have := q.1; unfold evt at this; rw [h5] at this; cases this)]
theorem st_none (h : ¬ o.kind = 3) (h2 : ¬ o.kind = 2) (h3 : (l.getD i zVcpu).blocked = true) : stepR id i ⟨⟨l, e⟩, tk, w, t⟩ o = ⟨⟨l, e⟩, tk, w, t⟩ := by
  unfold stepR; rw [if_neg h, if_neg h2, if_neg (fun q => by unfold blk at q; rw [h3] at q; cases q)]
end
def fin (h : Hall) (ops : List HallOp) (id : Int) : Run := runR h ops id ops.length
theorem RInv.fin {h : Hall} {ops : List HallOp} {id : Int} {k : Nat} {l e tk w t} (I : RInv h ops id k l e tk w t) (hk : ¬ k < ops.length) : fin h ops id = ⟨⟨l, e⟩, tk, w, t⟩ := by
  have hk2 := I.le
  have : k = ops.length := by omega
  subst this; exact I.eq
theorem fin_inv {h : Hall} {ops : List HallOp} {id : Int} (g : GoodOps h ops) : ∀ k, k ≤ ops.length → RInv h ops id k (runR h ops id k).hall.list (runR h ops id k).hall.events (runR h ops id k).ticks (runR h ops id k).woken (runR h ops id k).takes
  | 0, _ => .zero g
  | k + 1, hk => (fin_inv g k (by omega)).next g hk rfl
def GoodWk (h : Hall) (ops : List HallOp) (id : Int) : Prop := GoodOps h ops ∧ 0 ≤ findI h.list id
instance (h : Hall) (ops : List HallOp) (id : Int) : Decidable (GoodWk h ops id) := by unfold GoodWk; infer_instance

end Go.Hv
