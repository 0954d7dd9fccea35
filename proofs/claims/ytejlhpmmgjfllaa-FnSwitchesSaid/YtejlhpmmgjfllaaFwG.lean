/-
  The framework, part G: calls; a function's beginning and end; loops. It holds for every program. Condition: none.
-/
import Derived.Test.YtejlhpmmgjfllaaFwF
namespace Go.Fw
open Go

/-- A value of which nothing hangs on the blocks that nobody writes. -/
def Closed (av : AV) : Prop := ∀ (M M' : Nat → Prop) (w : World) (v : Value), Rep M w v av → Rep M' w v av

theorem closed_any : Closed .any := fun _ _ _ _ _ => .any _
theorem closed_int (k : IntKind) (n : Int) : Closed (.int k n) := fun _ _ _ _ h => by cases h; exact .int _ _
theorem closed_bool (b : Bool) : Closed (.bool b) := fun _ _ _ _ h => by cases h; exact .bool _
theorem closed_nil : Closed .nil := fun _ _ _ _ h => by cases h; exact .nil _
theorem closed_sl0 : Closed (.sl []) := fun _ _ _ _ h => by
  cases h with
  | sl0 => exact .sl0 _ _
  | sl => exact .sl0 _ _
theorem closed_own (s b o l : Nat) : Closed (.own s b o l) := fun _ _ _ _ h => by
  cases h with
  | own _ _ _ _ c n h1 h2 h3 h4 => exact .own _ _ _ _ c n h1 h2 h3 h4
theorem closed_ptr (b o : Nat) : Closed (.ptr b o) := fun _ _ _ _ h => by cases h; exact .ptr _ _
theorem closed_agg {cs : List AV} (h : ∀ c ∈ cs, Closed c) : Closed (.agg cs) := fun M M' w v hr => by
  cases hr with
  | agg arr _ hl hi => exact .agg arr cs hl (fun i av hav => h av (List.mem_of_getElem? hav) M M' w _ (hi i av hav))
theorem closed_tup {cs : List AV} (h : ∀ c ∈ cs, Closed c) : Closed (.tup cs) := fun M M' w v hr => by
  cases hr with
  | tup arr _ hl hi => exact .tup arr cs hl (fun i av hav => h av (List.mem_of_getElem? hav) M M' w _ (hi i av hav))

def ClosedE : Entry → Prop
  | .box cells => ∀ c ∈ cells, Closed c
  | .arr _ _ rows => ∀ r ∈ rows, ∀ c ∈ r, Closed c
def ClosedS (st : Store) : Prop := ∀ b e, (b, e) ∈ st → ClosedE e

theorem closedS_nil : ClosedS [] := fun _ _ h => by cases h
theorem closedS_cons {b : Nat} {e : Entry} {st : Store} (h : ClosedE e) (hs : ClosedS st) : ClosedS ((b, e) :: st) := fun b' e' hb => by
  rcases List.mem_cons.1 hb with hb | hb
  · cases hb; exact h
  · exact hs b' e' hb
theorem all_nil' {p : AV → Prop} : ∀ c ∈ ([] : List AV), p c := fun _ h => by cases h
theorem all_cons' {p : AV → Prop} {a : AV} {l : List AV} (h : p a) (hl : ∀ c ∈ l, p c) : ∀ c ∈ a :: l, p c := fun c hc => by
  rcases List.mem_cons.1 hc with rfl | hc
  · exact h
  · exact hl c hc

theorem ERep.closed {M M' : Nat → Prop} {w : World} {b : Nat} {e : Entry} (hc : ClosedE e) (h : ERep M w b e) : ERep M' w b e := by
  cases e with
  | box cells =>
    obtain ⟨cs, t, h1, h2, h3⟩ := h
    exact ⟨cs, t, h1, h2, fun i av hi => hc av (List.mem_of_getElem? hi) M M' w _ (h3 i av hi)⟩
  | arr t s rows =>
    obtain ⟨cs, h1, h2, h3, h4, h5⟩ := h
    exact ⟨cs, h1, h2, h3, h4, fun i row j av hi hj => hc row (List.mem_of_getElem? hi) av (List.mem_of_getElem? hj) M M' w _ (h5 i row j av hi hj)⟩

mutual
/-- What is the call's own may be lent to a callee that only reads: it is told by value. -/
inductive Vw (st : Store) : AV → AV → Prop
  | refl (a : AV) : Vw st a a
  | own {t s b len : Nat} {rows : List (List AV)} (h : (b, .arr t s rows) ∈ st) (hl : rows.length = len) : Vw st (.own s b 0 len) (.sl rows)
  | own2 {t s b len : Nat} {rows rows' : List (List AV)} (h : (b, .arr t s rows) ∈ st) (hl : rows.length = len) (hr : VwR st rows rows') : Vw st (.own s b 0 len) (.sl rows')
  | nil : Vw st .nil (.sl [])
  | ptr {b off : Nat} {cells : List AV} (h : (b, .box cells) ∈ st) : Vw st (.ptr b off) (.vptr (cells.drop off))
  | agg {cs cs' : List AV} (h : VwL st cs cs') : Vw st (.agg cs) (.agg cs')
  | tup {cs cs' : List AV} (h : VwL st cs cs') : Vw st (.tup cs) (.tup cs')
inductive VwL (st : Store) : List AV → List AV → Prop
  | nil : VwL st [] []
  | cons {a a' : AV} {l l' : List AV} (h : Vw st a a') (hs : VwL st l l') : VwL st (a :: l) (a' :: l')
inductive VwR (st : Store) : List (List AV) → List (List AV) → Prop
  | nil : VwR st [] []
  | cons {r r' : List AV} {l l' : List (List AV)} (h : VwL st r r') (hs : VwR st l l') : VwR st (r :: l) (r' :: l')
end

theorem VwL.refl (st : Store) : ∀ l, VwL st l l
  | [] => .nil
  | _ :: l => .cons (.refl _) (VwL.refl st l)

theorem vw_len {st : Store} : ∀ {l l' : List AV}, VwL st l l' → l.length = l'.length
  | _, _, .nil => rfl
  | _, _, .cons _ h => by rw [List.length_cons, List.length_cons, vw_len h]

section
variable {M M1 : Nat → Prop} {w : World} {st : Store}

mutual
theorem vw_rep (hs : Sim M w st) (hM : ∀ b, M b → M1 b) (hk : ∀ b ∈ keys st, M1 b) : ∀ (av av' : AV) (v : Value), Vw st av av' → Rep M w v av → Rep M1 w v av'
  | _, _, v, .refl a, h => h.mono hM (fun _ _ => rfl) (fun _ _ => rfl)
  | _, _, v, .nil, h => by cases h; exact .sl0 _ _
  | _, _, v, .own (t := t) (s := s) (b := b) (len := len) (rows := rows) h1 hl, h => by
    subst hl
    cases h with
    | own _ _ _ _ c n g1 g2 g3 g4 =>
      obtain ⟨cs, f1, f2, f0, f3, f4⟩ := hs.ent _ _ h1
      rw [Nat.zero_mul]
      refine .sl b 0 c s rows (fun i j => cs.getD (i * s + j) undef) (hk b (mem_keys h1)) g3 f3 (fun i row j av hi hj => ?_) (fun i row j av hi hj => (f4 i row j av hi hj).mono hM (fun _ _ => rfl) (fun _ _ => rfl))
      have hil := (List.getElem?_eq_some_iff.1 hi).1
      have hjl : j < s := by rw [← f3 i row hi]; exact (List.getElem?_eq_some_iff.1 hj).1
      have : (i + 1) * s ≤ rows.length * s := Nat.mul_le_mul_right _ hil
      rw [Nat.add_mul, Nat.one_mul] at this
      rw [Nat.zero_add]
      exact cell_of_heap f1 (by omega)
  | _, _, v, .own2 (t := t) (s := s) (b := b) (len := len) (rows := rows) (rows' := rows') h1 hl hr, h => by
    subst hl
    cases h with
    | own _ _ _ _ c n g1 g2 g3 g4 =>
      obtain ⟨cs, f1, f2, f0, f3, f4⟩ := hs.ent _ _ h1
      obtain ⟨e1, e2⟩ := vw_rows hs hM hk rows rows' hr
      rw [Nat.zero_mul, e1]
      refine .sl b 0 c s rows' (fun i j => cs.getD (i * s + j) undef) (hk b (mem_keys h1)) (by rw [← e1]; exact g3) (fun i row hi => ?_) (fun i row j av hi hj => ?_) (fun i row j av hi hj => ?_)
      · obtain ⟨r, q1, q2, _⟩ := e2 i row hi
        rw [← q2]; exact f3 i r q1
      · obtain ⟨r, q1, q2, _⟩ := e2 i row hi
        have hil := (List.getElem?_eq_some_iff.1 q1).1
        have hjl : j < s := by rw [← f3 i r q1, q2]; exact (List.getElem?_eq_some_iff.1 hj).1
        have : (i + 1) * s ≤ rows.length * s := Nat.mul_le_mul_right _ hil
        rw [Nat.add_mul, Nat.one_mul] at this
        rw [Nat.zero_add]
        exact cell_of_heap f1 (by omega)
      · obtain ⟨r, q1, _, q3⟩ := e2 i row hi
        exact q3 (fun j => cs.getD (i * s + j) undef) (fun j av hj => f4 i r j av q1 hj) j av hj
  | _, _, v, .ptr (b := b) (off := off) (cells := cells) h1, h => by
    cases h
    obtain ⟨cs, t, f1, f2, f3⟩ := hs.ent _ _ h1
    refine .vptr b off _ (fun j => cs.getD (off + j) undef) (hk b (mem_keys h1)) (fun j av hj => ?_) (fun j av hj => ?_)
    · rw [List.getElem?_drop] at hj
      exact cell_of_heap f1 (by rw [f2]; exact (List.getElem?_eq_some_iff.1 hj).1)
    · rw [List.getElem?_drop] at hj
      exact (f3 _ _ hj).mono hM (fun _ _ => rfl) (fun _ _ => rfl)
  | _, _, v, .agg (cs := cs) (cs' := cs') h1, h => by
    cases h with
    | agg arr _ hl hi =>
      obtain ⟨h2, h3⟩ := vw_reps hs hM hk cs cs' (fun i => arr.getD i undef) h1 hi
      exact .agg arr cs' (by rw [hl, h2]) h3
  | _, _, v, .tup (cs := cs) (cs' := cs') h1, h => by
    cases h with
    | tup arr _ hl hi =>
      obtain ⟨h2, h3⟩ := vw_reps hs hM hk cs cs' (fun i => arr.getD i undef) h1 hi
      exact .tup arr cs' (by rw [hl, h2]) h3
theorem vw_reps (hs : Sim M w st) (hM : ∀ b, M b → M1 b) (hk : ∀ b ∈ keys st, M1 b) : ∀ (l l' : List AV) (f : Nat → Value), VwL st l l' → (∀ (i : Nat) av, l[i]? = some av → Rep M w (f i) av) →
    l.length = l'.length ∧ ∀ (i : Nat) av, l'[i]? = some av → Rep M1 w (f i) av
  | _, _, f, .nil, h => ⟨rfl, fun i av hi => by simp at hi⟩
  | _, _, f, .cons (a := a) (a' := a') (l := l) (l' := l') h1 h2, h => by
    have e0 := vw_rep hs hM hk a a' (f 0) h1 (h 0 a rfl)
    obtain ⟨e1, e2⟩ := vw_reps hs hM hk l l' (fun i => f (i + 1)) h2 (fun i av hi => h (i + 1) av hi)
    refine ⟨by simp [e1], fun i av hi => ?_⟩
    cases i with
    | zero => simp at hi; subst hi; exact e0
    | succ i => exact e2 i av hi
theorem vw_rows (hs : Sim M w st) (hM : ∀ b, M b → M1 b) (hk : ∀ b ∈ keys st, M1 b) : ∀ (l l' : List (List AV)), VwR st l l' →
    l.length = l'.length ∧ ∀ (i : Nat) row', l'[i]? = some row' → ∃ row, l[i]? = some row ∧ row.length = row'.length ∧ ∀ f : Nat → Value, (∀ (j : Nat) av, row[j]? = some av → Rep M w (f j) av) → ∀ (j : Nat) av, row'[j]? = some av → Rep M1 w (f j) av
  | _, _, .nil => ⟨rfl, fun i row hi => by simp at hi⟩
  | _, _, .cons (r := r) (r' := r') (l := l) (l' := l') h1 h2 => by
    obtain ⟨e1, e2⟩ := vw_rows hs hM hk l l' h2
    have hl : r.length = r'.length := vw_len h1
    refine ⟨by simp [e1], fun i row hi => ?_⟩
    cases i with
    | zero =>
      simp at hi; subst hi
      exact ⟨r, rfl, hl, fun f hf => (vw_reps hs hM hk r r' f h1 hf).2⟩
    | succ i => exact e2 i row hi
end

end

/-- A function that is entered when it is called. -/
def callable (P : Program) (f : FuncId) : Bool :=
  match P.funcs[f]? with
  | some fn => fn.body.isSome && !(fn.name == "runtime.NumGoroutine")
  | none => false

def argsA (fr : Fr) : List Operand → Option (List AV)
  | [] => some []
  | x :: l => match opv fr x, argsA fr l with
    | some v, some r => some (v :: r)
    | _, _ => none

section
variable {P : Program} {G : Gh} {Y : World → World → Prop} {X : Option (List Nat × List Nat)} {K : Fr → Store → Prop} {M : Nat → Prop} {fr : Fr} {st : Store} {a : Act} {w : World} {R : AV → Store → Prop}
variable {dst : Option Tmp} {ty : TypeId} {pos : String} {aft : Array Edge} {gd : Option (Nat × Bool)}

theorem argsA_rep (h : StM G M fr st a w) : ∀ (l : List Operand) (as : List AV), argsA fr l = some as → l.length = as.length ∧ ∀ (i : Nat) av, as[i]? = some av → Rep M w ((l.map a.eval)[i]?.getD undef) av
  | [], as, h' => by cases h'; exact ⟨rfl, fun i av hi => by simp at hi⟩
  | x :: l, as, h' => by
    unfold argsA at h'
    split at h' <;> try contradiction
    rename_i v r hv hr
    cases h'
    obtain ⟨h1, h2⟩ := argsA_rep h l r hr
    refine ⟨by simp [h1], fun i av hi => ?_⟩
    cases i with
    | zero => simp at hi; subst hi; simpa using opv_rep h hv
    | succ i => simpa using h2 i av hi

theorem p_func {f : FuncId} {cap : Array Operand} {as : List AV} (ha : argsA fr cap.toList = some as) : Pure P G Y fr st ⟨dst, .makeFunc (.func f) #[] cap, ty, pos, aft, gd⟩ (.fn f as) := fun M a w h => by
  obtain ⟨h1, h2⟩ := argsA_rep h _ _ ha
  refine ⟨.func (.func f) #[] (cap.map a.eval), .fn f _ as (by simpa using h1) (fun i av hi => ?_), fun w' _ => by simp [execOp, Instr.makeFunc]⟩
  have := h2 i av hi
  simpa [Array.getD_eq_getD_getElem?] using this

/-- What comes of the call itself: the callee is entered. -/
theorem call_wp {f : FuncId} {c : Operand} {args : Array Operand} {tt : Array TypeId} {caps avs : List AV} {next : Act → World → Prop} {Q : Exit → Act → World → Prop} (h : StM G M fr st a w) (hf : opv fr c = some (.fn f caps)) (ha : argsA fr args.toList = some avs) (hc : callable P f = true)
    (k : ∀ vs : Array Value, vs.size = (avs ++ caps).length → (∀ (i : Nat) av, (avs ++ caps)[i]? = some av → Rep M w (vs.getD i undef) av) →
      Calls P f vs w fun e w' => match e with | .returned v => next (a.put dst v) w' | .panicked ch => Q (.panic ch) a w' | .outgrown => LetsOut Q) :
    Oper.wp P ⟨dst, .call { callee := .value c, args := args, argTypes := tt }, ty, pos, aft, gd⟩ a w next Q := by
  have hr := opv_rep h hf
  generalize hv : a.eval c = v at hr
  cases hr with
  | fn _ arr _ hl hcap =>
    unfold callable at hc
    split at hc <;> try contradiction
    rename_i fn hfn
    simp only [Bool.and_eq_true, Bool.not_eq_true'] at hc
    obtain ⟨hb, hn⟩ := hc
    obtain ⟨h1, h2⟩ := argsA_rep h _ _ ha
    have hbn : ¬ fn.body = none := by rw [← ne_eq, Option.ne_none_iff_isSome]; exact hb
    have hn' : ¬ fn.name = "runtime.NumGoroutine" := by simpa using hn
    have hrun : (execOp a.eval ⟨dst, .call { callee := .value c, args := args, argTypes := tt }, ty, pos, aft, gd⟩).run P w = .ok (.enter f (args.map a.eval ++ arr)) w := by
      simp [execOp, resolve, hv, Deferred.ofValue, invoke, callFunc, hfn, hn', hbn]
    unfold Oper.wp
    rw [hrun, Oper.upon_enter]
    have h1' : args.size = avs.length := by simpa using h1
    refine (k (args.map a.eval ++ arr) (by simp [hl, h1']) (fun i av hi => ?_)).mono (fun e w' he => by cases e <;> exact he)
    by_cases hi1 : i < avs.length
    · rw [List.getElem?_append_left hi1] at hi
      have := h2 i av hi
      have e : (args.map a.eval ++ arr)[i]? = (args.map a.eval)[i]? := Array.getElem?_append_left (by simp; omega)
      rw [Array.getD_eq_getD_getElem?, e]
      simpa using this
    · rw [List.getElem?_append_right (by omega)] at hi
      have := hcap _ _ hi
      have e : (args.map a.eval ++ arr)[i]? = arr[i - avs.length]? := by
        rw [Array.getElem?_append_right (by simp; omega)]
        simp [h1']
      rw [Array.getD_eq_getD_getElem?, e]
      simpa [Array.getD_eq_getD_getElem?] using this

theorem Sim.app {M : Nat → Prop} {w : World} {st st' : Store} (h1 : Sim M w st) (h2 : Sim M w st') (hd : ∀ b, b ∈ keys st → b ∈ keys st' → False) : Sim M w (st ++ st') :=
  ⟨by rw [keys_append]; exact List.nodup_append.2 ⟨h1.nodup, h2.nodup, fun x hx y hy hxy => hd x hx (hxy ▸ hy)⟩, fun b e hb => (List.mem_append.1 hb).elim (h1.ent b e) (h2.ent b e), fun b e hb => (List.mem_append.1 hb).elim (h1.notM b e) (h2.notM b e), h1.lt⟩

/-- A callee that writes nothing of the caller's, and is lent nothing. -/
theorem op_call {f : FuncId} {c : Operand} {args : Array Operand} {tt : Array TypeId} {caps avs : List AV} (hd : okDst G.n dst = true) (hf : opv fr c = some (.fn f caps)) (ha : argsA fr args.toList = some avs) (hc : callable P f = true) (h : ACalls P f (avs ++ caps) [] R)
    (k : ∀ r st', R r st' → K (putF fr dst r) (st' ++ st)) : Aop P G X ⟨dst, .call { callee := .value c, args := args, argTypes := tt }, ty, pos, aft, gd⟩ K fr st := fun a w ⟨M, hM⟩ Q => by
  refine call_wp hM hf ha hc (fun vs h1 h2 => (h M w vs ⟨List.nodup_nil, (fun _ _ hb => by cases hb), (fun _ _ hb => by cases hb), hM.sim.lt⟩ h1 h2).mono ?_)
  rintro e w' ⟨v, r, st', M', rfl, hR, hr, hs, ht, hm, hm', hk⟩
  have ht' : Tr [] w w' := ht
  have hfresh : ∀ b ∈ keys st', w.heap.size ≤ b := fun b hb => (hk b hb).elim (fun h => by cases h) id
  have hMM : ∀ b, M' b → M b ∨ w.heap.size ≤ b := fun b hb => (hm' b hb).elim .inl (fun h => h.elim (fun h => by cases h) .inr)
  have hS1 : StM G M fr st a w' := hM.tr' ht'
  have hS2 : StM G M' fr st a w' := hS1.more hm (fun b hb => (hMM b hb).imp id (fun h => Nat.le_trans hM.tr.size h)) hs.lt (fun b hb hb' => by
    obtain ⟨e', he'⟩ := of_mem_keys hb
    rcases hMM b hb' with h | h
    · exact hM.sim.notM b e' he' h
    · have := hM.sim.key_lt hb; omega)
  refine ⟨TrX.of_nil ht', _, _, fun x hx => ?_, k r st' hR, M', StM.put (st := st' ++ st) ⟨hS2.size, hS2.defers, hS2.tr, hS2.m0, hS2.m1, fun b hb => ?_, hS2.fr, hs.app hS2.sim (fun b h3 h4 => ?_)⟩ hd hr⟩
  · rw [keys_append] at hx
    exact (List.mem_append.1 hx).elim (fun h => .inr (hfresh x h)) .inl
  · rw [keys_append] at hb
    exact (List.mem_append.1 hb).elim (fun h => .inr (Nat.le_trans hM.tr.size (hfresh b h))) (hS2.k1 b)
  · have h5 := hfresh b h3
    have h6 := hM.sim.key_lt h4
    omega

theorem Rep.out {M M' : Nat → Prop} {w : World} {v : Value} {av : AV} (hc : Closed av) (h : Rep M w v av) : Rep M' w v av := hc M M' w v h

/-- A callee that writes nothing of the caller's; what is the caller's own is lent to it, told by value. -/
theorem op_callL {f : FuncId} {c : Operand} {args : Array Operand} {tt : Array TypeId} {caps avs avs' : List AV} (hd : okDst G.n dst = true) (hf : opv fr c = some (.fn f caps)) (ha : argsA fr args.toList = some avs) (hc : callable P f = true) (hv : VwL st (avs ++ caps) avs')
    (h : ACalls P f avs' [] R) (k : ∀ r st', R r st' → Closed r ∧ ClosedS st' ∧ K (putF fr dst r) (st' ++ st)) : Aop P G X ⟨dst, .call { callee := .value c, args := args, argTypes := tt }, ty, pos, aft, gd⟩ K fr st := fun a w ⟨M, hM⟩ Q => by
  have hlt1 : ∀ b, M b ∨ b ∈ keys st → b < w.heap.size := fun b hb => hb.elim (hM.sim.lt b) hM.sim.key_lt
  refine call_wp hM hf ha hc (fun vs h1 h2 => ?_)
  obtain ⟨g1, g2⟩ := vw_reps (M1 := fun b => M b ∨ b ∈ keys st) hM.sim (fun _ h => .inl h) (fun _ h => .inr h) _ _ (fun i => vs.getD i undef) hv h2
  refine (h (fun b => M b ∨ b ∈ keys st) w vs ⟨List.nodup_nil, (fun _ _ hb => by cases hb), (fun _ _ hb => by cases hb), hlt1⟩ (by rw [h1, g1]) g2).mono ?_
  rintro e w' ⟨v, r, st', M', rfl, hR, hr, hs, ht, hm, hm', hk⟩
  have ht' : Tr [] w w' := ht
  obtain ⟨hc1, hc2, hK⟩ := k r st' hR
  have hfresh : ∀ b ∈ keys st', w.heap.size ≤ b := fun b hb => (hk b hb).elim (fun h => by cases h) id
  have hS1 : StM G M fr st a w' := hM.tr' ht'
  have hs' : Sim M w' st' := ⟨hs.nodup, fun b e hb => (hs.ent b e hb).closed (hc2 b e hb), fun b e hb hb' => hs.notM b e hb (hm b (.inl hb')), hS1.sim.lt⟩
  refine ⟨TrX.of_nil ht', _, _, fun x hx => ?_, hK, M, StM.put (st := st' ++ st) ⟨hS1.size, hS1.defers, hS1.tr, hS1.m0, hS1.m1, fun b hb => ?_, hS1.fr, hs'.app hS1.sim (fun b h3 h4 => ?_)⟩ hd (hr.out hc1)⟩
  · rw [keys_append] at hx
    exact (List.mem_append.1 hx).elim (fun h => .inr (hfresh x h)) .inl
  · rw [keys_append] at hb
    exact (List.mem_append.1 hb).elim (fun h => .inr (Nat.le_trans hM.tr.size (hfresh b h))) (hS1.k1 b)
  · have h5 := hfresh b h3
    have h6 := hM.sim.key_lt h4
    omega

def InTs (X : Option (List Nat × List Nat)) (st1 st2 : Store) : Prop := match X with
  | none => True
  | some (Xl, Ko) => ∀ b ∈ keys st1, b ∈ Xl ∨ ∀ y ∈ Ko, y ∈ keys st2

/-- A callee that may write some of the caller's blocks (st1); the others are lent to it. -/
theorem op_callM {f : FuncId} {c : Operand} {args : Array Operand} {tt : Array TypeId} {caps avs avs' : List AV} {st1 st2 : Store} (hd : okDst G.n dst = true) (hf : opv fr c = some (.fn f caps)) (ha : argsA fr args.toList = some avs) (hc : callable P f = true) (hp : Picks st st1 st2)
    (hv : VwL st2 (avs ++ caps) avs') (h : ACalls P f avs' st1 R) (hX : InTs X st1 st2) (k : ∀ r st', R r st' → Closed r ∧ ClosedS st' ∧ K (putF fr dst r) (st' ++ st2)) : Aop P G X ⟨dst, .call { callee := .value c, args := args, argTypes := tt }, ty, pos, aft, gd⟩ K fr st := fun a w ⟨M, hM⟩ Q => by
  have hMp := hM.perm hp.perm
  have hs1 := hMp.sim.left
  have hs2 := hMp.sim.right
  have hdis : ∀ b, b ∈ keys st1 → b ∈ keys st2 → False := fun b h3 h4 => by
    have := hMp.sim.nodup
    rw [keys_append] at this
    exact (List.nodup_append.1 this).2.2 b h3 b h4 rfl
  have hlt1 : ∀ b, M b ∨ b ∈ keys st2 → b < w.heap.size := fun b hb => hb.elim (hM.sim.lt b) hs2.key_lt
  refine call_wp hM hf ha hc (fun vs h1 h2 => ?_)
  obtain ⟨g1, g2⟩ := vw_reps (M1 := fun b => M b ∨ b ∈ keys st2) hs2 (fun _ h => .inl h) (fun _ h => .inr h) _ _ (fun i => vs.getD i undef) hv h2
  refine (h (fun b => M b ∨ b ∈ keys st2) w vs ⟨hs1.nodup, fun b e hb => (hs1.ent b e hb).mono (fun _ h => .inl h) (fun _ _ => rfl) (fun _ _ => rfl) rfl, fun b e hb hb' => hb'.elim (hs1.notM b e hb) (hdis b (mem_keys hb)), hlt1⟩ (by rw [h1, g1]) g2).mono ?_
  rintro e w' ⟨v, r, st', M', rfl, hR, hr, hs, ht, hm, hm', hk⟩
  obtain ⟨hc1, hc2, hK⟩ := k r st' hR
  have hT1 : ∀ x ∈ keys st1, ¬ M x ∧ x ∉ keys st2 := fun x hx => by
    obtain ⟨e', he'⟩ := of_mem_keys hx
    exact ⟨hs1.notM x e' he', hdis x hx⟩
  have hk1 : ∀ x ∈ keys st1, x ∈ keys st := fun x hx => by
    obtain ⟨e', he'⟩ := of_mem_keys hx
    exact mem_keys (hp.perm.mem_iff.2 (List.mem_append_left _ he'))
  have hk2 : ∀ x ∈ keys st2, x ∈ keys st := fun x hx => by
    obtain ⟨e', he'⟩ := of_mem_keys hx
    exact mem_keys (hp.perm.mem_iff.2 (List.mem_append_right _ he'))
  have hs2' := hs2.tr ht hT1
  have hs' : Sim M w' st' := ⟨hs.nodup, fun b e hb => (hs.ent b e hb).closed (hc2 b e hb), fun b e hb hb' => hs.notM b e hb (hm b (.inl hb')), hs2'.lt⟩
  refine ⟨?_, _, _, fun x hx => ?_, hK, M, StM.put (st := st' ++ st2) ⟨hM.size, hM.defers, hM.tr.trans ht (fun x hx => hM.k1 x (hk1 x hx)), hM.m0, hM.m1, fun b hb => ?_,
    fun s av hsl => ⟨(hM.fr s av hsl).1, (hM.fr s av hsl).2.mono (fun _ h => h) (fun b hb => ht.same b (hM.sim.lt b hb) (fun hx => (hT1 b hx).1 hb)) ht.bs⟩, hs'.app hs2' (fun b h3 h4 => ?_)⟩ hd (hr.out hc1)⟩
  · cases X with
    | none => trivial
    | some l => exact ⟨keys st1, ht, fun x hx => (hX x hx).imp id (fun h => ⟨hk1 x hx, fun hko => hdis x hx (h x hko)⟩)⟩
  · rw [keys_append] at hx
    rcases List.mem_append.1 hx with hx | hx
    · exact (hk x hx).imp (hk1 x) id
    · exact .inl (hk2 x hx)
  · rw [keys_append] at hb
    rcases List.mem_append.1 hb with hb | hb
    · rcases hk b hb with h5 | h5
      · exact hM.k1 b (hk1 b h5)
      · exact .inr (Nat.le_trans hM.tr.size h5)
    · exact hM.k1 b (hk2 b hb)
  · rcases hk b h3 with h5 | h5
    · exact hdis b h5 h4
    · have h6 := hs2.key_lt h4
      omega

/-! ### A function's beginning and end -/

def initFr : Nat → List AV → Fr
  | _, [] => []
  | i, v :: l => (i, v) :: initFr (i + 1) l

theorem initFr_look : ∀ (i : Nat) (l : List AV) (s : Nat) (av : AV), look (initFr i l) s = some av → i ≤ s ∧ l[s - i]? = some av
  | _, [], _, _, h => by cases h
  | i, v :: l, s, av, h => by
    by_cases hs : i = s
    · subst hs
      rw [initFr, look_cons_self] at h
      exact ⟨Nat.le_refl _, by simpa using h⟩
    · rw [initFr, look_cons_ne _ _ hs] at h
      obtain ⟨h1, h2⟩ := initFr_look (i + 1) l s av h
      refine ⟨by omega, ?_⟩
      rw [show s - i = (s - (i + 1)) + 1 by omega]
      simpa using h2

inductive ResOk (P : Program) (fr : Fr) (st : Store) : ResultVar → AV → Prop
  | tmp {t : Tmp} {av : AV} (h : look fr t = some av) : ResOk P fr st (.tmp t) av
  | cell {p : Tmp} {t : TypeId} {b n : Nat} {cells : List AV} {rest : Store} (hs : aggSize P t = some (some n)) (h : look fr p = some (.ptr b 0)) (hp : Pick st b (.box cells) rest) (hl : cells.length = n) : ResOk P fr st (.cell p t) (.agg cells)
  | one {p : Tmp} {t : TypeId} {b : Nat} {av : AV} {rest : Store} (hs : aggSize P t = some none) (h : look fr p = some (.ptr b 0)) (hp : Pick st b (.box [av]) rest) : ResOk P fr st (.cell p t) av

def resSem (tmps : Array Value) : ResultVar → Sem Value
  | .tmp t => pure (tmps.getD t undef)
  | .cell p t => do loadVar t (← asAddr (tmps.getD p undef))

theorem results_eq (fn : Func) (tmps : Array Value) : results fn tmps = (do let vs ← fn.results.mapM (resSem tmps); pure (if h : vs.size = 1 then vs[0] else .tuple vs)) := by
  unfold results
  congr 1

theorem res_run {r : ResultVar} {av : AV} (h : StM G M fr st a w) (hr : ResOk P fr st r av) :
    ∃ v, (resSem a.tmps r).run P w = .ok v w ∧ Rep M w v av := by
  cases hr with
  | tmp h1 => exact ⟨_, rfl, (h.fr _ _ h1).2⟩
  | @cell p t b n cells rest hs h1 hp hln =>
    subst hln
    obtain ⟨cs, te, g1, g2, g3⟩ := h.sim.ent _ _ hp.mem
    have := (h.fr _ _ h1).2.ptr_inv
    have hl := run_loadVar_many (P := P) hs (ad := ⟨b, 0, none⟩) (f := fun j => cs.getD j undef) (w := w) (fun j hj => by
      rw [Addr.add_lit, Nat.zero_add]; exact cell_of_heap g1 (by omega))
    refine ⟨.agg ((List.range cells.length).map fun j => cs.getD j undef).toArray, by simp [resSem, this, asAddr, hl], .agg _ _ (by simp) (fun i av hi => ?_)⟩
    have hil := (List.getElem?_eq_some_iff.1 hi).1
    have := g3 i av hi
    simpa [Array.getD, hil] using this
  | @one p t b av rest hs h1 hp =>
    obtain ⟨cs, te, g1, g2, g3⟩ := h.sim.ent _ _ hp.mem
    have := (h.fr _ _ h1).2.ptr_inv
    have hl := run_loadVar_one (P := P) hs (ad := ⟨b, 0, none⟩) (w := w) (cell_of_heap g1 (by rw [g2]; simp))
    exact ⟨_, by simp [resSem, this, asAddr, hl], g3 0 av rfl⟩

/-- What a function of these results hands back. -/
def Hands (P : Program) (fn : Func) (fr : Fr) (st : Store) (r : AV) : Prop :=
  ∀ M a w, StM G M fr st a w → ∃ v, (results fn a.tmps).run P w = .ok v w ∧ Rep M w v r

theorem hands1 {fn : Func} {r : ResultVar} {av : AV} (h : fn.results = #[r]) (h1 : ResOk P fr st r av) : Hands (G := G) P fn fr st av := fun M a w hM => by
  obtain ⟨v, e1, e2⟩ := res_run hM h1
  refine ⟨v, ?_, e2⟩
  simp [results_eq, h, e1]

theorem rep_tup2 {v1 v2 : Value} {a1 a2 : AV} (h1 : Rep M w v1 a1) (h2 : Rep M w v2 a2) : Rep M w (.tuple #[v1, v2]) (.tup [a1, a2]) :=
  .tup _ _ rfl (fun i av hi => by
    match i, hi with
    | 0, hi => cases hi; exact h1
    | 1, hi => cases hi; exact h2)

theorem rep_tup3 {v1 v2 v3 : Value} {a1 a2 a3 : AV} (h1 : Rep M w v1 a1) (h2 : Rep M w v2 a2) (h3 : Rep M w v3 a3) : Rep M w (.tuple #[v1, v2, v3]) (.tup [a1, a2, a3]) :=
  .tup _ _ rfl (fun i av hi => by
    match i, hi with
    | 0, hi => cases hi; exact h1
    | 1, hi => cases hi; exact h2
    | 2, hi => cases hi; exact h3)

theorem rep_tup4 {v1 v2 v3 v4 : Value} {a1 a2 a3 a4 : AV} (h1 : Rep M w v1 a1) (h2 : Rep M w v2 a2) (h3 : Rep M w v3 a3) (h4 : Rep M w v4 a4) : Rep M w (.tuple #[v1, v2, v3, v4]) (.tup [a1, a2, a3, a4]) :=
  .tup _ _ rfl (fun i av hi => by
    match i, hi with
    | 0, hi => cases hi; exact h1
    | 1, hi => cases hi; exact h2
    | 2, hi => cases hi; exact h3
    | 3, hi => cases hi; exact h4)

theorem hands0 {fn : Func} (h : fn.results = #[]) : Hands (G := G) P fn fr st (.tup []) := fun M a w _ =>
  ⟨.tuple #[], by simp [results, h], .tup _ _ rfl (fun i av hi => by simp at hi)⟩

theorem hands2 {fn : Func} {r1 r2 : ResultVar} {a1 a2 : AV} (h : fn.results = #[r1, r2]) (h1 : ResOk P fr st r1 a1) (h2 : ResOk P fr st r2 a2) : Hands (G := G) P fn fr st (.tup [a1, a2]) := fun M a w hM => by
  obtain ⟨v1, e1, e2⟩ := res_run hM h1
  obtain ⟨v2, f1, f2⟩ := res_run hM h2
  refine ⟨.tuple #[v1, v2], ?_, rep_tup2 e2 f2⟩
  simp [results_eq, h, e1, f1]

theorem hands3 {fn : Func} {r1 r2 r3 : ResultVar} {a1 a2 a3 : AV} (h : fn.results = #[r1, r2, r3]) (h1 : ResOk P fr st r1 a1) (h2 : ResOk P fr st r2 a2) (h3 : ResOk P fr st r3 a3) : Hands (G := G) P fn fr st (.tup [a1, a2, a3]) := fun M a w hM => by
  obtain ⟨v1, e1, e2⟩ := res_run hM h1
  obtain ⟨v2, f1, f2⟩ := res_run hM h2
  obtain ⟨v3, g1, g2⟩ := res_run hM h3
  refine ⟨.tuple #[v1, v2, v3], ?_, rep_tup3 e2 f2 g2⟩
  simp [results_eq, h, e1, f1, g1]

theorem hands4 {fn : Func} {r1 r2 r3 r4 : ResultVar} {a1 a2 a3 a4 : AV} (h : fn.results = #[r1, r2, r3, r4]) (h1 : ResOk P fr st r1 a1) (h2 : ResOk P fr st r2 a2) (h3 : ResOk P fr st r3 a3) (h4 : ResOk P fr st r4 a4) : Hands (G := G) P fn fr st (.tup [a1, a2, a3, a4]) := fun M a w hM => by
  obtain ⟨v1, e1, e2⟩ := res_run hM h1
  obtain ⟨v2, f1, f2⟩ := res_run hM h2
  obtain ⟨v3, g1, g2⟩ := res_run hM h3
  obtain ⟨v4, i1, i2⟩ := res_run hM h4
  refine ⟨.tuple #[v1, v2, v3, v4], ?_, rep_tup4 e2 f2 g2 i2⟩
  simp [results_eq, h, e1, f1, g1, i1]

/-- The end of a function. -/
def retQ (P : Program) (G : Gh) (fn : Func) (R : AV → Store → Prop) : Post
  | .normal, fr, st | .ret, fr, st => ∃ r st' rest, Hands (G := G) P fn fr st r ∧ Picks st st' rest ∧ R r st'
  | _, _, _ => False

theorem ret_ok {fn : Func} {r : AV} {st' rest : Store} (h : Hands (G := G) P fn fr st r) (hp : Picks st st' rest) (hR : R r st') : retQ P G fn R .ret fr st := ⟨r, st', rest, h, hp, hR⟩
theorem end_ok {fn : Func} {r : AV} {st' rest : Store} (h : Hands (G := G) P fn fr st r) (hp : Picks st st' rest) (hR : R r st') : retQ P G fn R .normal fr st := ⟨r, st', rest, h, hp, hR⟩

theorem a_enter {f : FuncId} {fn : Func} {c : Code} {args : List AV} (hf : P.funcs[f]? = some fn) (hb : fn.body = some c) (hn : Nat.ble args.length fn.ntmps = true)
    (h : ∀ w0 M0, awp P ⟨w0, M0, keys st, fn.ntmps⟩ c (retQ P ⟨w0, M0, keys st, fn.ntmps⟩ fn R) (initFr 0 args) st) : ACalls P f args st R := fun M w vs hs hl hr => by
  have hn' : args.length ≤ fn.ntmps := Nat.le_of_ble_eq_true hn
  refine calls_of_wp hf hb (wp_mono (h w M _ w ⟨M, ?_, rfl, Tr.refl _ _, fun _ h => h, fun _ h => .inl h, fun _ h => .inl h, fun s av hsl => ?_, hs⟩) ?_)
  · simp [hl]; omega
  · obtain ⟨_, h2⟩ := initFr_look 0 args s av hsl
    rw [Nat.sub_zero] at h2
    have hlt : s < vs.size := by rw [hl]; exact (List.getElem?_eq_some_iff.1 h2).1
    refine ⟨by simp; omega, ?_⟩
    have := hr s av h2
    rw [Array.getD_eq_getD_getElem?] at this ⊢
    rw [Array.getElem?_append_left hlt]
    exact this
  · rintro e a' w' ⟨fr', st', q, M', hM⟩
    have fin : (∃ r st'' rest, Hands (G := ⟨w, M, keys st, fn.ntmps⟩) P fn fr' st' r ∧ Picks st' st'' rest ∧ R r st'') → a'.defers = [] ∧ ∃ v, (results fn a'.tmps).run P w' = .ok v w' ∧
        ∃ v_1 r st'' M', Ending.returned v = Ending.returned v_1 ∧ R r st'' ∧ Rep M' w' v_1 r ∧ Sim M' w' st'' ∧ Tr (keys st) w w' ∧ (∀ b, M b → M' b) ∧ (∀ b, M' b → M b ∨ b ∈ keys st ∨ w.heap.size ≤ b) ∧ (∀ b, b ∈ keys st'' → b ∈ keys st ∨ w.heap.size ≤ b) := by
      rintro ⟨r, st'', rest, h1, h2, h3⟩
      obtain ⟨v, e1, e2⟩ := h1 M' a' w' hM
      have h4 := hM.sub h2 (fr' := fr') (fun _ _ h => h)
      exact ⟨hM.defers, v, e1, v, r, st'', M', rfl, h3, e2, h4.sim, hM.tr, hM.m0, hM.m1, h4.k1⟩
    cases e with
    | normal => exact fin q
    | ret => exact fin q
    | _ => exact q.elim

/-! ### Loops -/

/-- All that was known of the slots stays, but for those of ks. -/
def Back (ks : List Nat) (fr fr' : Fr) : Prop := ∀ s, ks.any (Nat.beq s) = false → look fr s ≠ none → look fr' s = look fr s

theorem Back.refl (ks : List Nat) (fr : Fr) : Back ks fr fr := fun _ _ _ => rfl
theorem Back.cons {ks : List Nat} {fr fr' : Fr} {s : Nat} {v : AV} (h : (ks.any (Nat.beq s) || (look fr s).isNone) = true) (hb : Back ks fr fr') : Back ks fr ((s, v) :: fr') := fun q hq hn => by
  by_cases hs : s = q
  · subst hs
    rw [hq, Bool.false_or, Option.isNone_iff_eq_none] at h
    exact absurd h hn
  · rw [look_cons_ne _ _ hs]
    exact hb q hq hn

inductive Knows (fr : Fr) : Fr → Prop
  | nil : Knows fr []
  | cons {s : Nat} {v : AV} {l : Fr} (h : look fr s = some v) (hs : Knows fr l) : Knows fr ((s, v) :: l)

theorem knows_look {fr : Fr} : ∀ {m : Fr}, Knows fr m → ∀ s av, look m s = some av → look fr s = some av
  | [], _, s, av, h => by cases h
  | (k, v) :: l, .cons h hs, s, av, h' => by
    by_cases hk : k = s
    · subst hk; rw [look_cons_self] at h'; cases h'; exact h
    · rw [look_cons_ne _ _ hk] at h'; exact knows_look hs s av h'

theorem look_append : ∀ (m fr : Fr) (s : Nat), look (m ++ fr) s = (look m s).or (look fr s)
  | [], fr, s => rfl
  | (k, v) :: m, fr, s => by
    by_cases hk : k = s
    · subst hk; simp only [List.cons_append, look_cons_self]; rfl
    · simp only [List.cons_append, look_cons_ne _ _ hk]; exact look_append m fr s

theorem look_none_any : ∀ (m : Fr) (s : Nat), look m s = none → (m.map (·.1)).any (Nat.beq s) = false
  | [], _, _ => rfl
  | (k, v) :: m, s, h => by
    by_cases hk : k = s
    · subst hk; rw [look_cons_self] at h; cases h
    · rw [look_cons_ne _ _ hk] at h
      simp only [List.map_cons, List.any_cons, look_none_any m s h, Bool.or_false]
      exact beq_ne (fun e => hk e.symm)

theorem back_sub {m fr fr' : Fr} (h1 : Knows fr' m) (h2 : Back (m.map (·.1)) fr fr') : ∀ s av, look (m ++ fr) s = some av → look fr' s = some av := fun s av hs => by
  rw [look_append] at hs
  cases hm : look m s with
  | some v => rw [hm] at hs; cases hs; exact knows_look h1 s _ hm
  | none =>
    rw [hm] at hs
    simp only [Option.or] at hs
    rw [h2 s (look_none_any m s hm) (by rw [hs]; simp), hs]

/-- Behind a round: the invariant again, at a lower measure; or out of the loop. -/
def loopQ {ι : Type} (I : ι → Prop) (mods : ι → Fr) (sto : ι → Store) (μ : ι → Nat) (i : ι) (fr0 : Fr) (rest : Store) (Q : Post) : Post
  | .normal, fr, st => ∃ j gone, I j ∧ μ j < μ i ∧ Knows fr (mods j) ∧ Back ((mods j).map (·.1)) fr0 fr ∧ Picks st (sto j ++ rest) gone
  | e, fr, st => Q e fr st

theorem least (p : Nat → Prop) (h : ∃ n, p n) : ∃ n, p n ∧ ∀ m, p m → n ≤ m := by
  classical
  obtain ⟨n, hn⟩ := h
  induction n using Nat.strongRecOn with
  | _ n ih =>
    by_cases hm : ∃ m, m < n ∧ p m
    · obtain ⟨m, hm1, hm2⟩ := hm
      exact ih m hm1 hm2
    · exact ⟨n, hn, fun m hpm => Nat.le_of_not_lt fun hlt => hm ⟨m, hlt, hpm⟩⟩

noncomputable def least1 (p : Nat → Prop) : Nat := by
  classical
  exact if h : ∃ n, p n then (least p h).choose else 0

theorem least1_spec {p : Nat → Prop} (h : ∃ n, p n) : p (least1 p) ∧ ∀ m, p m → least1 p ≤ m := by
  unfold least1
  rw [dif_pos h]
  exact (least p h).choose_spec

theorem a_loop {Q : Post} {ι : Type} (I : ι → Prop) (mods : ι → Fr) (sto : ι → Store) (μ : ι → Nat) (i0 : ι) {rest : Store} {c : Code} (h0 : I i0) (hf : Knows fr (mods i0)) (hp : Picks st (sto i0) rest)
    (step : ∀ i, I i → awp P G c (loopQ I mods sto μ i fr rest Q) (mods i ++ fr) (sto i ++ rest)) : awp P G (.loop c) Q fr st := fun a w hs => by
  refine wp_loop (fun a w => ∃ i, I i ∧ St G (mods i ++ fr) (sto i ++ rest) a w) (fun a w => least1 fun n => ∃ i, I i ∧ μ i = n ∧ St G (mods i ++ fr) (sto i ++ rest) a w) ?_ ?_
  · obtain ⟨M, hM⟩ := hs
    refine ⟨i0, h0, M, ?_⟩
    have h1 := hM.perm hp.perm
    exact ⟨h1.size, h1.defers, h1.tr, h1.m0, h1.m1, h1.k1, fun s av hsl => h1.fr s av (back_sub hf (Back.refl _ _) s av hsl), h1.sim⟩
  · rintro a w ⟨i', hi', hs'⟩
    obtain ⟨⟨i, hi, hmi, hst⟩, _⟩ := least1_spec (p := fun n => ∃ i, I i ∧ μ i = n ∧ St G (mods i ++ fr) (sto i ++ rest) a w) ⟨μ i', i', hi', rfl, hs'⟩
    refine wp_mono (step i hi a w hst) ?_
    rintro e a' w' ⟨fr', st', q, hs''⟩
    cases e with
    | normal =>
      obtain ⟨j, gone, hj, hlt, hk, hb, hpk⟩ := q
      obtain ⟨M, hM⟩ := hs''
      have hSj : St G (mods j ++ fr) (sto j ++ rest) a' w' := ⟨M, hM.sub hpk (back_sub hk hb)⟩
      refine ⟨⟨j, hj, hSj⟩, ?_⟩
      have := (least1_spec (p := fun n => ∃ i, I i ∧ μ i = n ∧ St G (mods i ++ fr) (sto i ++ rest) a' w') ⟨μ j, j, hj, rfl, hSj⟩).2 (μ j) ⟨j, hj, rfl, hSj⟩
      show (least1 fun n => ∃ i, I i ∧ μ i = n ∧ St G (mods i ++ fr) (sto i ++ rest) a' w') < (least1 fun n => ∃ i, I i ∧ μ i = n ∧ St G (mods i ++ fr) (sto i ++ rest) a w)
      omega
    | _ => exact ⟨fr', st', q, hs''⟩

/-- A cut: J is all that is asked of what stands between. -/
theorem a_seq_cut {Q : Post} (J : Fr → Store → Prop) {x y : Code} (h : awp P G x (thenQ J Q) fr st) (k : ∀ fr st, J fr st → awp P G y Q fr st) : awp P G (.seq x y) Q fr st :=
  a_seq (a_mono h (fun e fr st q => by cases e <;> first | exact k fr st q | exact q))

/-- What is told after the first part, whichever way it ran: the new slots' values, and the store. -/
theorem a_seq_join {Q : Post} {ι : Type} (I : ι → Prop) (mods : ι → Fr) (sto : ι → Store) {old rest : Store} {x y : Code} (_hp : Picks st old rest)
    (h : awp P G x (thenQ (fun fr' st' => ∃ j gone, I j ∧ Knows fr' (mods j) ∧ Back ((mods j).map (·.1)) fr fr' ∧ Picks st' (sto j ++ rest) gone) Q) fr st)
    (k : ∀ i, I i → awp P G y Q (mods i ++ fr) (sto i ++ rest)) : awp P G (.seq x y) Q fr st :=
  a_seq (a_mono h fun e fr' st' q => by
    cases e with
    | normal =>
      obtain ⟨j, gone, hj, hk, hb, hpk⟩ := q
      exact a_less (k j hj) (fun a w ⟨M, hM⟩ => ⟨M, hM.sub hpk (back_sub hk hb)⟩)
    | _ => exact q)

end
end Go.Fw
