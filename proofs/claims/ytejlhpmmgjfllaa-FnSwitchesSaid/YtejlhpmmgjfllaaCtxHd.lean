/-
  Contexts: one taken out of a list, one put in; what a switch gives. No condition.
-/
import Derived.Test.YtejlhpmmgjfllaaFwM
import Derived.Test.YtejlhpmmgjfllaaFwQ
import Derived.Test.YtejlhpmmgjfllaaCtxDd
namespace Go.Fw
open Go
section
variable {P : Program} {G : Gh} {X : Option (List Nat × List Nat)} {K : Fr → Store → Prop} {fr : Fr} {st : Store} {d : Nat} {ty : TypeId} {pos : String} {aft : Array Edge} {gd : Option (Nat × Bool)}
theorem w_append_inY {α : Type} (f : α → List AV) {t e : TypeId} {s by' b len : Nat} {x y : Operand} {ay : AV} {xs : List α} (ys : List α) {rest : Store} (hd : Nat.blt d G.n = true) (he : elemOfT P t = some (e, s, by')) (hx : opv fr x = some (.own s b 0 len)) (hy : opv fr y = some ay)
    (hp : Pick st b (.arr e s (xs.map f)) rest) (hr : Rows st ay (ys.map f)) (hfit : len + ys.length ≤ xs.length) (hs : ∀ x ∈ ys, (f x).length = s) (hf : ∀ x ∈ ys, (f x).all flat = true) (hX : InT X b rest)
    (k : K ((d, .own s b 0 (len + ys.length)) :: fr) ((b, .arr e s ((xs.take len ++ ys ++ xs.drop (len + ys.length)).map f)) :: rest)) :
    Aop P G X ⟨some d, .call { callee := .builtin .append, args := #[x, y], argTypes := #[t, t] }, ty, pos, aft, gd⟩ K fr st :=
  op_append_in (dst := some d) hd he hx hy hp hr (by simpa using hfit) (fun r hr => by obtain ⟨x, hx, rfl⟩ := List.mem_map.1 hr; exact hs x hx) (fun r hr => by obtain ⟨x, hx, rfl⟩ := List.mem_map.1 hr; exact hf x hx) hX (by
    have := k
    rw [List.map_append, List.map_append, List.map_take, List.map_drop] at this
    rw [List.length_map]
    exact this)
end
def InTs2 (X : Option (List Nat × List Nat)) (st2 : Store) : Prop := match X with
  | none => True
  | some (Xl, Ko) => ∀ y ∈ Ko, y ∈ keys st2 ∨ y ∈ Xl
section
variable {P : Program} {G : Gh} {X : Option (List Nat × List Nat)} {K : Fr → Store → Prop} {fr : Fr} {st : Store} {R : AV → Store → Prop}
variable {dst : Option Tmp} {ty : TypeId} {pos : String} {aft : Array Edge} {gd : Option (Nat × Bool)}
/-- A callee that may write some of the caller's blocks (st1); nothing is lent to it. -/
theorem op_callM0x {f : FuncId} {c : Operand} {args : Array Operand} {tt : Array TypeId} {caps avs : List AV} {st1 st2 : Store} (hd : okDst G.n dst = true) (hf : opv fr c = some (.fn f caps)) (ha : argsA fr args.toList = some avs) (hc : callable P f = true) (hp : Picks st st1 st2)
    (h : ACalls P f (avs ++ caps) st1 R) (hX : InTs2 X st2) (k : ∀ r st', R r st' → K (putF fr dst r) (st' ++ st2)) : Aop P G X ⟨dst, .call { callee := .value c, args := args, argTypes := tt }, ty, pos, aft, gd⟩ K fr st := fun a w ⟨M, hM⟩ Q => by
  have hMp := hM.perm hp.perm
  have hs1 := hMp.sim.left
  have hs2 := hMp.sim.right
  have hdis : ∀ b, b ∈ keys st1 → b ∈ keys st2 → False := fun b h3 h4 => by
    have := hMp.sim.nodup
    rw [keys_append] at this
    exact (List.nodup_append.1 this).2.2 b h3 b h4 rfl
  refine call_wp hM hf ha hc (fun vs h1 h2 => (h M w vs hs1 h1 h2).mono ?_)
  rintro e w' ⟨v, r, st', M', rfl, hR, hr, hs, ht, hm, hm', hk⟩
  have hT1 : ∀ x ∈ keys st1, ¬ M x ∧ x ∉ keys st2 := fun x hx => by
    obtain ⟨e', he'⟩ := of_mem_keys hx
    exact ⟨hs1.notM x e' he', hdis x hx⟩
  have hk1 : ∀ x ∈ keys st1, x ∈ keys st := fun x hx => by
    obtain ⟨e', he'⟩ := of_mem_keys hx
    exact mem_keys (hp.perm.mem_iff.2 (List.mem_append_left _ he'))
  have hk2 : ∀ x ∈ keys st2, x ∈ keys st := fun x hx => by
    obtain ⟨e', he'⟩ := of_mem_keys hx
    exact mem_keys (hp.perm.mem_iff.2 (List.mem_append_right _ he'))
  have hs2' := hs2.tr ht hT1
  have hMs : ∀ b, M b → w'.heap[b]? = w.heap[b]? := fun b hb => ht.same b (hM.sim.lt b hb) (fun hx => (hT1 b hx).1 hb)
  have hs2'' : Sim M' w' st2 := ⟨hs2'.nodup, fun b e hb => (hs2'.ent b e hb).mono hm (fun _ _ => rfl) (fun _ _ => rfl) rfl, fun b e hb hb' => by
    rcases hm' b hb' with h | h | h
    · exact hs2.notM b e hb h
    · exact hdis b h (mem_keys hb)
    · have := (hs2.ent b e hb).lt; omega, hs.lt⟩
  refine ⟨?_, _, _, fun x hx => ?_, k r st' hR, M', StM.put (st := st' ++ st2) ⟨hM.size, hM.defers, hM.tr.trans ht (fun x hx => hM.k1 x (hk1 x hx)), fun b hb => hm b (hM.m0 b hb), fun b hb => ?_, fun b hb => ?_,
    fun s av hsl => ⟨(hM.fr s av hsl).1, (hM.fr s av hsl).2.mono hm hMs ht.bs⟩, hs.app hs2'' (fun b h3 h4 => ?_)⟩ hd hr⟩
  · cases X with
    | none => trivial
    | some l => exact ⟨keys st1, ht, fun x hx => by
        by_cases hxl : x ∈ l.1
        · exact .inl hxl
        · exact .inr ⟨hk1 x hx, fun hko => (hX x hko).elim (hdis x hx) hxl⟩⟩
  · rw [keys_append] at hx
    rcases List.mem_append.1 hx with hx | hx
    · exact (hk x hx).imp (hk1 x) id
    · exact .inl (hk2 x hx)
  · rcases hm' b hb with h | h | h
    · exact hM.m1 b h
    · exact .inr (hM.k1 b (hk1 b h))
    · exact .inr (.inr (Nat.le_trans hM.tr.size h))
  · rw [keys_append] at hb
    rcases List.mem_append.1 hb with hb | hb
    · rcases hk b hb with h | h
      · exact hM.k1 b (hk1 b h)
      · exact .inr (Nat.le_trans hM.tr.size h)
    · exact hM.k1 b (hk2 b hb)
  · rcases hk b h3 with h | h
    · exact hdis b h h4
    · have := hs2.key_lt h4; omega
theorem w_callM0x {d : Nat} {f : FuncId} {c : Operand} {args : Array Operand} {tt : Array TypeId} {caps avs : List AV} {st1 st2 : Store} (hd : Nat.blt d G.n = true) (hf : opv fr c = some (.fn f caps)) (ha : argsA fr args.toList = some avs) (hc : callable P f = true) (hp : Picks st st1 st2)
    (h : ACalls P f (avs ++ caps) st1 R) (hX : InTs2 X st2) (k : ∀ r st', R r st' → K ((d, r) :: fr) (st' ++ st2)) : Aop P G X ⟨some d, .call { callee := .value c, args := args, argTypes := tt }, ty, pos, aft, gd⟩ K fr st :=
  op_callM0x hd hf ha hc hp h hX k
end
end Go.Fw
namespace Go.Hv
open Go Go.Fw
set_option linter.unusedSimpArgs false
set_option linter.unusedVariables false

/-! ### Rows of which some are not told -/
def oX : Option BC → List AV
  | none => List.replicate 7 .any
  | some p => rowC p
theorem oX_some {l : List BC} : ∀ x ∈ l.map some, (oX x).length = 7 := fun x hx => by
  obtain ⟨p, _, rfl⟩ := List.mem_map.1 hx; rfl
theorem oX_flat {l : List BC} : ∀ x ∈ l.map some, (oX x).all flat = true := fun x hx => by
  obtain ⟨p, _, rfl⟩ := List.mem_map.1 hx; rfl
theorem map_oX (l : List BC) : (l.map some).map oX = l.map rowC := by rw [List.map_map]; rfl
def woB {α : Type} (xs : List α) (m : Nat) : List α := xs.take m ++ xs.drop (m + 1)
def insB {α : Type} (xs : List α) (k : Nat) (v : α) : List α := xs.take k ++ v :: xs.drop k
theorem woB_len {α : Type} {xs : List α} {m : Nat} (h : m < xs.length) : (woB xs m).length + 1 = xs.length := by
  unfold woB; rw [List.length_append, List.length_take, List.length_drop]; omega
theorem insB_len {α : Type} {xs : List α} {k : Nat} {v : α} (h : k ≤ xs.length) : (insB xs k v).length = xs.length + 1 := by
  unfold insB; rw [List.length_append, List.length_cons, List.length_take, List.length_drop]; omega
theorem woB_map {α β : Type} (f : α → β) (xs : List α) (m : Nat) : (woB xs m).map f = woB (xs.map f) m := by
  unfold woB; rw [List.map_append, List.map_take, List.map_drop]
theorem insB_map {α β : Type} (f : α → β) (xs : List α) (k : Nat) (v : α) : (insB xs k v).map f = insB (xs.map f) k (f v) := by
  unfold insB; rw [List.map_append, List.map_cons, List.map_take, List.map_drop]
def tellX (ps : List BC) : List (Option BC) := ps.map some ++ [none]
theorem tellX_len (ps : List BC) : (tellX ps).length = ps.length + 1 := by simp [tellX]
theorem rowX {ps : List BC} {j : Nat} (h : j < ps.length) : ((tellX ps).map oX)[j]? = some (rowC (ps.getD j zBC)) := by
  unfold tellX
  rw [List.map_append, map_oX, List.getElem?_append_left (by rw [List.length_map]; exact h)]
  exact rowD rowC ps zBC h
theorem del_any {ps : List BC} {m : Nat} (h : m < ps.length) : ((ps.take m ++ ps.drop (m + 1) ++ ps.drop (m + (ps.drop (m + 1)).length)).take (0 + (m + (ps.drop (m + 1)).length))).map rowC ++ List.replicate (ps.length - (m + (ps.drop (m + 1)).length)) (List.replicate 7 AV.any) = (tellX (woB ps m)).map oX := by
  have h1 : ps.length - (m + (ps.drop (m + 1)).length) = 1 := by rw [List.length_drop]; omega
  have h2 : (ps.take m ++ ps.drop (m + 1)).length = m + (ps.drop (m + 1)).length := by rw [List.length_append, List.length_take]; omega
  rw [h1, Nat.zero_add, List.take_append_of_le_length (by rw [h2]; exact Nat.le_refl _), List.take_of_length_le (by rw [h2]; exact Nat.le_refl _)]
  have e : ((woB ps m).map some ++ [none]).map oX = (woB ps m).map rowC ++ [List.replicate 7 AV.any] := by rw [List.map_append, map_oX]; rfl
  unfold tellX
  rw [e]
  rfl
theorem ins_end {ps : List BC} {v : BC} : ((tellX ps).take ps.length ++ [some v] ++ (tellX ps).drop (ps.length + [some v].length)).map oX = (insB ps ps.length v).map rowC := by
  have h1 : (tellX ps).take ps.length = ps.map some := by
    unfold tellX; rw [List.take_append_of_le_length (by simp), List.take_of_length_le (by simp)]
  have h2 : (tellX ps).drop (ps.length + [some v].length) = [] := List.drop_of_length_le (by rw [tellX_len]; simp)
  rw [h1, h2, ← map_oX]
  unfold insB
  simp
theorem tell_tail {ps : List BC} {k : Nat} (hk : k ≤ ps.length) : ((tellX ps).drop k).take (ps.length - k) = (ps.drop k).map some := by
  unfold tellX
  rw [List.drop_append_of_le_length (by rw [List.length_map]; exact hk), List.take_append_of_le_length (by simp), List.take_of_length_le (by simp), List.map_drop]
theorem rows_tail {st : Store} {t b k : Nat} {ps : List BC} (h : (b, Entry.arr t 7 ((tellX ps).map oX)) ∈ st) (hk : k ≤ ps.length) : Go.Fw.Rows st (.own 7 b (0 + 0 + k) (ps.length - k)) (((ps.drop k).map some).map oX) := by
  have := rowsAt (off := k) (len := ps.length - k) h (by rw [tellX_len]; omega)
  rw [tell_tail hk] at this
  rwa [show 0 + 0 + k = k by omega]
theorem ins_mid {ps : List BC} {v : BC} {k : Nat} (hk : k < ps.length) :
    ((((tellX ps).take (0 + 0 + (k + 1)) ++ (ps.drop k).map some ++ (tellX ps).drop (0 + 0 + (k + 1) + (ps.length - k))).take (0 + 0 + k) ++ [some v] ++ ((tellX ps).take (0 + 0 + (k + 1)) ++ (ps.drop k).map some ++ (tellX ps).drop (0 + 0 + (k + 1) + (ps.length - k))).drop (0 + 0 + k + 1)).map oX) = (insB ps k v).map rowC := by
  have h0 : ∀ n, 0 + 0 + n = n := fun n => by omega
  have h1 : (tellX ps).take (k + 1) = (ps.take (k + 1)).map some := by
    unfold tellX; rw [List.take_append_of_le_length (by rw [List.length_map]; omega), List.map_take]
  have h2 : (tellX ps).drop (k + 1 + (ps.length - k)) = [] := List.drop_of_length_le (by rw [tellX_len]; omega)
  rw [h0, h0, h1, h2, List.append_nil]
  have h3 : ((ps.take (k + 1)).map some ++ (ps.drop k).map some).take k = (ps.take k).map some := by
    rw [List.take_append_of_le_length (by simp; omega), ← List.map_take, List.take_take, Nat.min_eq_left (by omega)]
  have h4 : ((ps.take (k + 1)).map some ++ (ps.drop k).map some).drop (k + 1) = (ps.drop k).map some := by
    rw [List.drop_append_of_le_length (by simp; omega), List.drop_of_length_le (by simp; omega), List.nil_append]
  rw [h3, h4]
  unfold insB
  rw [← map_oX]
  simp

theorem rowsFrom {α : Type} {f : α → List AV} {st : Store} {t s b off k len : Nat} {xs : List α} (h : (b, Entry.arr t s (xs.map f)) ∈ st) (h0 : off = k) (h1 : k ≤ xs.length) (h2 : len = xs.length - k) : Go.Fw.Rows st (.own s b off len) ((xs.drop k).map f) := by
  subst h0
  have := rowsAt (off := off) (len := len) h (by omega)
  rwa [List.take_of_length_le (by rw [List.length_drop]; omega)] at this
theorem rowsNone {α : Type} {f : α → List AV} {st : Store} {xs : List α} {off : Nat} (h : xs.length ≤ off) : Go.Fw.Rows st (.sl []) ((xs.drop off).map f) := by
  rw [List.drop_eq_nil_of_le h]; exact .sl []

/-! ### Families -/
theorem picks_wo {α : Type} (f : α → Nat × Entry) {ps : List α} {i : Nat} (z : α) (h : i < ps.length) : Picks (fam f ps) (fam f (woB ps i)) [f (ps.getD i z)] := by
  rw [fam_split f z h, woB, fam_app]
  exact (Picks.whole _ _).both ((Picks.whole0 _).skip1 _)
theorem fam_ins {α : Type} (f : α → Nat × Entry) (ps : List α) (k : Nat) (v : α) : (f v :: fam f ps).Perm (fam f (insB ps k v)) := by
  unfold insB
  rw [fam_app, fam_cons]
  have : fam f ps = fam f (ps.take k) ++ fam f (ps.drop k) := by rw [← fam_app, List.take_append_drop]
  rw [this]
  exact List.perm_middle.symm

/-! ### What a switch gives -/
def swS (now x : Context) (ne : Bool) (s : Bool × List Context) : Bool × List Context :=
  if s.1 = false ∧ now.id < x.id then (true, if ne = true then s.2 ++ [now] ++ [x] else s.2 ++ [now]) else (s.1, if ne = true then s.2 ++ [x] else s.2)
def swTo (xs : List Context) (now : Context) (g : Nat) : Nat → Bool × List Context
  | 0 => (false, [])
  | k + 1 => swS now (xs.getD k zContext) (decide (k ≠ g)) (swTo xs now g k)
def switchL (xs : List Context) (now : Context) (g : Nat) : List Context := if (swTo xs now g xs.length).1 = true then (swTo xs now g xs.length).2 else (swTo xs now g xs.length).2 ++ [now]
def GoodSwitch (xs : List Context) (now : Context) (g : Int) : Prop := AreContexts xs ∧ IsContext now ∧ findC xs now.id < 0 ∧ 0 ≤ findC xs g
instance (xs : List Context) (now : Context) (g : Int) : Decidable (GoodSwitch xs now g) := by unfold GoodSwitch; infer_instance
theorem sw_yy {xs : List Context} {now : Context} {g i b b' : Nat} {dn : Bool} {ps : List BC} (hP : ps.map (·.2) = (swTo xs now g i).2) (hD : dn = (swTo xs now g i).1) (h1 : dn = false) (h2 : now.id < (xs.getD i zContext).id) (h3 : i ≠ g) :
    (ps ++ [(b, now)] ++ [(b', xs.getD i zContext)]).map (·.2) = (swTo xs now g (i + 1)).2 ∧ true = (swTo xs now g (i + 1)).1 := by
  rw [swTo, swS, ← hP, ← hD, if_pos ⟨h1, h2⟩, decide_eq_true h3]; simp
theorem sw_yn {xs : List Context} {now : Context} {g i b : Nat} {dn : Bool} {ps : List BC} (hP : ps.map (·.2) = (swTo xs now g i).2) (hD : dn = (swTo xs now g i).1) (h1 : dn = false) (h2 : now.id < (xs.getD i zContext).id) (h3 : ¬ i ≠ g) :
    (ps ++ [(b, now)]).map (·.2) = (swTo xs now g (i + 1)).2 ∧ true = (swTo xs now g (i + 1)).1 := by
  rw [swTo, swS, ← hP, ← hD, if_pos ⟨h1, h2⟩, decide_eq_false h3]; simp
theorem sw_ny {xs : List Context} {now : Context} {g i b' : Nat} {dn : Bool} {ps : List BC} (hP : ps.map (·.2) = (swTo xs now g i).2) (hD : dn = (swTo xs now g i).1) (h1 : ¬ (dn = false ∧ now.id < (xs.getD i zContext).id)) (h3 : i ≠ g) :
    (ps ++ [(b', xs.getD i zContext)]).map (·.2) = (swTo xs now g (i + 1)).2 ∧ dn = (swTo xs now g (i + 1)).1 := by
  rw [swTo, swS, ← hP, ← hD, if_neg h1, decide_eq_true h3]; simp
theorem sw_nn {xs : List Context} {now : Context} {g i : Nat} {dn : Bool} {ps : List BC} (hP : ps.map (·.2) = (swTo xs now g i).2) (hD : dn = (swTo xs now g i).1) (h1 : ¬ (dn = false ∧ now.id < (xs.getD i zContext).id)) (h3 : ¬ i ≠ g) :
    ps.map (·.2) = (swTo xs now g (i + 1)).2 ∧ dn = (swTo xs now g (i + 1)).1 := by
  rw [swTo, swS, ← hP, ← hD, if_neg h1, decide_eq_false h3]; simp
theorem find_none {xs : List Context} {g : Int} (h : findC xs g < 0) : ∀ j, j < xs.length → (xs.getD j zContext).id ≠ g := fun j hj => by
  rcases first_spec (isG xs g) xs.length with ⟨_, h2⟩ | ⟨i, _, h2, _, _⟩
  · have := h2 j hj
    simpa [isG] using this
  · unfold findC at h; omega
theorem are_lt {xs : List Context} (h : AreContexts xs) : ∀ {j k : Nat}, j < k → k < xs.length → (xs.getD j zContext).id < (xs.getD k zContext).id
  | j, 0, hj, _ => by omega
  | j, k + 1, hj, hk => by
    have h1 := (h.1 (k + 1) hk).2 (by omega)
    rw [Nat.add_sub_cancel] at h1
    rcases Nat.lt_or_ge j k with h2 | h2
    · have := are_lt h h2 (by omega); omega
    · have : j = k := by omega
      subst this; exact h1
/-- What is left of the first k, without the g-th. -/
def leftTo (xs : List Context) (g : Nat) : Nat → List Context
  | 0 => []
  | k + 1 => if k ≠ g then leftTo xs g k ++ [xs.getD k zContext] else leftTo xs g k
theorem left_before {xs : List Context} {g : Nat} : ∀ {k : Nat}, k ≤ g → k ≤ xs.length → leftTo xs g k = xs.take k
  | 0, _, _ => rfl
  | k + 1, h, hk => by
    rw [leftTo, if_pos (by omega), left_before (by omega) (by omega), List.take_add_one, List.getD_eq_getElem?_getD, List.getElem?_eq_getElem (by omega)]; rfl
theorem left_after {xs : List Context} {g : Nat} : ∀ {k : Nat}, g < k → k ≤ xs.length → leftTo xs g k = xs.take g ++ (xs.take k).drop (g + 1)
  | 0, h, _ => by omega
  | k + 1, h, hk => by
    rw [leftTo]
    rcases Nat.lt_or_ge g k with h' | h'
    · rw [if_pos (by omega), left_after h' (by omega), List.take_add_one, List.drop_append_of_le_length (by rw [List.length_take]; omega), List.getD_eq_getElem?_getD, List.getElem?_eq_getElem (by omega), List.append_assoc]; rfl
    · have : k = g := by omega
      subst this
      rw [if_neg (by omega), left_before (Nat.le_refl _) (by omega), List.drop_of_length_le (by rw [List.length_take]; omega), List.append_nil]
theorem left_all {xs : List Context} {g : Nat} (h : g < xs.length) : leftTo xs g xs.length = woB xs g := by
  rw [left_after h (Nat.le_refl _), List.take_length]; rfl
theorem getD_app {l m : List Context} {j : Nat} (h : j < l.length) : (l ++ m).getD j zContext = l.getD j zContext := by
  rw [List.getD_eq_getElem?_getD, List.getElem?_append_left h, ← List.getD_eq_getElem?_getD]
theorem getD_last (l : List Context) (x : Context) : (l ++ [x]).getD l.length zContext = x := by
  rw [List.getD_eq_getElem?_getD, List.getElem?_append_right (Nat.le_refl _), Nat.sub_self]; rfl
def PosOf (r : List Context) (now : Context) (p : Nat) : Prop := p ≤ r.length ∧ (∀ j, j < p → (r.getD j zContext).id < now.id) ∧ (p < r.length → ¬ (r.getD p zContext).id < now.id)
theorem pos_one {r : List Context} {now : Context} {p q : Nat} (hp : PosOf r now p) (hq : PosOf r now q) : p = q := by
  rcases Nat.lt_trichotomy p q with h | h | h
  · exact absurd (hq.2.1 p h) (hp.2.2 (by have := hq.1; omega))
  · exact h
  · exact absurd (hp.2.1 q h) (hq.2.2 (by have := hp.1; omega))
theorem insB_app {l : List Context} {k : Nat} {v x : Context} (h : k ≤ l.length) : insB l k v ++ [x] = insB (l ++ [x]) k v := by
  unfold insB
  rw [List.take_append_of_le_length h, List.drop_append_of_le_length h, List.append_assoc, List.cons_append]
theorem insB_end (l : List Context) (v : Context) : insB l l.length v = l ++ [v] := by
  unfold insB; rw [List.take_length, List.drop_length]
theorem pos_app {l : List Context} {now x : Context} {q : Nat} (h : PosOf l now q) (hx : now.id < x.id) : PosOf (l ++ [x]) now q := by
  obtain ⟨h1, h2, h3⟩ := h
  refine ⟨by rw [List.length_append]; omega, fun j hj => by rw [getD_app (by omega)]; exact h2 j hj, fun hq => ?_⟩
  rcases Nat.lt_or_ge q l.length with h' | h'
  · rw [getD_app h']; exact h3 h'
  · have : q = l.length := by omega
    rw [this, getD_last]; omega
theorem pos_less {l : List Context} {now : Context} (h : ∀ j, j < l.length → (l.getD j zContext).id < now.id) : PosOf l now l.length := ⟨Nat.le_refl _, h, fun h' => absurd h' (Nat.lt_irrefl _)⟩
theorem less_app {l : List Context} {now x : Context} (h : ∀ j, j < l.length → (l.getD j zContext).id < now.id) (hx : x.id < now.id) : ∀ j, j < (l ++ [x]).length → ((l ++ [x]).getD j zContext).id < now.id := fun j hj => by
  rw [List.length_append] at hj
  rcases Nat.lt_or_ge j l.length with h' | h'
  · rw [getD_app h']; exact h j h'
  · have : j = l.length := by simp at hj; omega
    rw [this, getD_last]; exact hx
/-- As far as the list has been gone through: nothing is put in yet, and all are less; or it is put in at its place. -/
theorem sw_inv {xs : List Context} {now : Context} {g : Nat} (hA : AreContexts xs) (hN : ∀ j, j < xs.length → (xs.getD j zContext).id ≠ now.id) : ∀ k, k ≤ xs.length →
    ((swTo xs now g k).1 = false ∧ (swTo xs now g k).2 = leftTo xs g k ∧ (∀ j, j < k → (xs.getD j zContext).id < now.id) ∧ (∀ j, j < (leftTo xs g k).length → ((leftTo xs g k).getD j zContext).id < now.id)) ∨
    ((swTo xs now g k).1 = true ∧ (∃ j, j < k ∧ now.id < (xs.getD j zContext).id) ∧ ∃ q, PosOf (leftTo xs g k) now q ∧ (swTo xs now g k).2 = insB (leftTo xs g k) q now)
  | 0, _ => .inl ⟨rfl, rfl, fun j hj => absurd hj (Nat.not_lt_zero _), fun j hj => absurd hj (Nat.not_lt_zero _)⟩
  | k + 1, hk => by
    have hne := hN k (by omega)
    rw [swTo, swS, leftTo]
    rcases sw_inv hA hN k (by omega) with ⟨e1, e2, e3, e4⟩ | ⟨e1, ⟨j0, hj0, e2⟩, q, e3, e4⟩
    · by_cases hc : now.id < (xs.getD k zContext).id
      · rw [if_pos ⟨e1, hc⟩, e2]
        refine .inr ⟨rfl, ⟨k, by omega, hc⟩, (leftTo xs g k).length, ?_⟩
        by_cases hg : k ≠ g
        · rw [if_pos hg, if_pos (decide_eq_true hg)]
          exact ⟨pos_app (pos_less e4) hc, by rw [← insB_app (Nat.le_refl _), insB_end]⟩
        · rw [if_neg hg, if_neg (by rw [decide_eq_false hg]; decide)]
          exact ⟨pos_less e4, by rw [insB_end]⟩
      · rw [if_neg (fun h => hc h.2), e1, e2]
        have hlt : (xs.getD k zContext).id < now.id := by omega
        refine .inl ⟨rfl, ?_, fun j hj => ?_, ?_⟩
        · by_cases hg : k ≠ g
          · rw [if_pos hg, if_pos (decide_eq_true hg)]
          · rw [if_neg hg, if_neg (by rw [decide_eq_false hg]; decide)]
        · rcases Nat.lt_or_ge j k with h' | h'
          · exact e3 j h'
          · have : j = k := by omega
            subst this; exact hlt
        · by_cases hg : k ≠ g
          · rw [if_pos hg]; exact less_app e4 hlt
          · rw [if_neg hg]; exact e4
    · have hc : now.id < (xs.getD k zContext).id := by
        have := are_lt hA hj0 (show k < xs.length by omega); omega
      rw [if_neg (fun h => by rw [e1] at h; exact absurd h.1 (by decide)), e1, e4]
      refine .inr ⟨rfl, ⟨j0, by omega, e2⟩, q, ?_⟩
      by_cases hg : k ≠ g
      · rw [if_pos hg, if_pos (decide_eq_true hg)]
        exact ⟨pos_app e3 hc, insB_app e3.1⟩
      · rw [if_neg hg, if_neg (by rw [decide_eq_false hg]; decide)]
        exact ⟨e3, rfl⟩
theorem sw_pos {xs : List Context} {now : Context} {g : Nat} (hA : AreContexts xs) (hN : ∀ j, j < xs.length → (xs.getD j zContext).id ≠ now.id) (hg : g < xs.length) {p : Nat} (hp : PosOf (woB xs g) now p) : insB (woB xs g) p now = switchL xs now g := by
  unfold switchL
  rw [← left_all hg] at *
  rcases sw_inv hA hN (g := g) xs.length (Nat.le_refl _) with ⟨e1, e2, _, e4⟩ | ⟨e1, _, q, e3, e4⟩
  · rw [if_neg (by rw [e1]; decide), e2, pos_one hp (pos_less e4), insB_end]
  · rw [if_pos e1, e4, pos_one hp e3]
theorem switch_len {xs : List Context} {now : Context} {g : Nat} (hA : AreContexts xs) (hN : ∀ j, j < xs.length → (xs.getD j zContext).id ≠ now.id) (hg : g < xs.length) : (switchL xs now g).length = xs.length := by
  unfold switchL
  have hl := left_all hg
  have hw := woB_len hg
  rcases sw_inv hA hN (g := g) xs.length (Nat.le_refl _) with ⟨e1, e2, _, _⟩ | ⟨e1, _, q, e3, e4⟩
  · rw [if_neg (by rw [e1]; decide), e2, hl, List.length_append]; simp; omega
  · rw [if_pos e1, e4, insB_len e3.1, hl]; omega
/-- A switch as it is made in place: at the place p of what is left. -/
theorem sw_impl {xs : List Context} {now : Context} {g : Int} {ws : List BC} {b p : Nat} (h : GoodSwitch xs now g) (hw : ws.map (·.2) = woB xs (findC xs g).toNat) (h1 : p ≤ ws.length) (h2 : ∀ j, j < p → (ws.getD j zBC).2.id < now.id) (h3 : p < ws.length → ¬ (ws.getD p zBC).2.id < now.id) :
    (insB ws p (b, now)).map (·.2) = switchL xs now (findC xs g).toNat := by
  have hlt := (findC_lt xs g).2
  have h4 := h.2.2.2
  have e : ∀ j, j < ws.length → ((woB xs (findC xs g).toNat).getD j zContext) = (ws.getD j zBC).2 := fun j hj => by
    rw [← hw]; simp [List.getD_eq_getElem?_getD, hj]
  have hl : (woB xs (findC xs g).toNat).length = ws.length := by rw [← hw, List.length_map]
  rw [insB_map, hw]
  exact sw_pos h.1 (find_none h.2.2.1) (by omega) ⟨by omega, fun j hj => by rw [e j (by omega)]; exact h2 j hj, fun hp => by rw [e p (by omega)]; exact h3 (by omega)⟩
theorem tot_app (l : List Context) (x : Context) : ∀ j, j ≤ l.length → totW (l ++ [x]) j = totW l j
  | 0, _ => rfl
  | j + 1, h => by rw [totW, totW, tot_app l x j (by omega), getD_app (by omega)]
theorem words_all {l : List Context} (h : ∀ c ∈ l, c.regs.words.length = 4) : ∀ j, j ≤ l.length → totW l j = 4 * j
  | 0, _ => rfl
  | j + 1, hj => by
    have : (l.getD j zContext).regs.words.length = 4 := h _ (by rw [List.getD_eq_getElem?_getD, List.getElem?_eq_getElem (by omega)]; exact List.getElem_mem (by omega))
    rw [totW, words_all h j (by omega), this]; omega
theorem sw_mem {xs : List Context} {now : Context} {g : Nat} : ∀ k, k ≤ xs.length → ∀ c ∈ (swTo xs now g k).2, c = now ∨ c ∈ xs
  | 0, _, c, h => by cases h
  | k + 1, hk, c, h => by
    have ih := sw_mem (xs := xs) (now := now) (g := g) k (by omega) c
    have hx : xs.getD k zContext ∈ xs := by rw [List.getD_eq_getElem?_getD, List.getElem?_eq_getElem (by omega)]; exact List.getElem_mem (by omega)
    rw [swTo, swS] at h
    split at h <;> split at h <;> simp only [List.mem_append, List.mem_singleton] at h
    · rcases h with (h | h) | h
      · exact ih h
      · exact .inl h
      · rw [h]; exact .inr hx
    · rcases h with h | h
      · exact ih h
      · exact .inl h
    · rcases h with h | h
      · exact ih h
      · rw [h]; exact .inr hx
    · exact ih h
theorem switch_mem {xs : List Context} {now : Context} {g : Nat} : ∀ c ∈ switchL xs now g, c = now ∨ c ∈ xs := fun c h => by
  unfold switchL at h
  split at h
  · exact sw_mem _ (Nat.le_refl _) c h
  · rcases List.mem_append.1 h with h | h
    · exact sw_mem _ (Nat.le_refl _) c h
    · rw [List.mem_singleton] at h; exact .inl h
theorem switch_sum {xs : List Context} {now : Context} {g : Int} (h : GoodSwitch xs now g) : SumL (switchL xs now (findC xs g).toNat) := by
  have hlt := (findC_lt xs g).2
  have h4 := h.2.2.2
  have hl := switch_len (g := (findC xs g).toNat) h.1 (find_none h.2.2.1) (by omega)
  have h6 := h.1.2
  have := words_all (l := switchL xs now (findC xs g).toNat) (fun c hc => by
    rcases switch_mem c hc with rfl | hc
    · exact h.2.1.2.1.1
    · obtain ⟨j, hj, rfl⟩ := List.getElem_of_mem hc
      have := (are_at h.1 hj).2.1.1
      rwa [List.getD_eq_getElem?_getD, List.getElem?_eq_getElem hj] at this) _ (Nat.le_refl _)
  unfold SumL; omega

end Go.Hv
