/-
  The framework, part H: the same laws in the forms that a walk wants. It holds for every program. Condition: none.
-/
import Derived.Test.YtejlhpmmgjfllaaFwG
namespace Go.Fw
open Go

theorem rowAt' {α : Type} (f : α → List AV) (xs : List α) {j : Nat} (h : j < xs.length) : (xs.map f)[j]? = some (f xs[j]) := by simp [h]

/-- The result alone. -/
abbrev Ret (v : AV) : AV → Store → Prop := fun r st => r = v ∧ st = []

theorem ret_false {p : Prop} [Decidable p] (h : ¬ p) : Ret (.bool (decide p)) (.bool false) [] := ⟨by simp [h], rfl⟩
theorem ret_true {p : Prop} [Decidable p] (h : p) : Ret (.bool (decide p)) (.bool true) [] := ⟨by simp [h], rfl⟩
theorem ret_dec {p q : Prop} [Decidable p] [Decidable q] (h : q ↔ p) : Ret (.bool (decide p)) (.bool (decide q)) [] := ⟨by simp [h], rfl⟩
theorem ret_ndec {p q : Prop} [Decidable p] [Decidable q] (h : ¬ q ↔ p) : Ret (.bool (decide p)) (.bool (!decide q)) [] := ⟨by simp [← h], rfl⟩

section
variable {P : Program} {G : Gh} {X : Option (List Nat × List Nat)} {K : Fr → Store → Prop} {M : Nat → Prop} {fr : Fr} {st : Store} {a : Act} {w : World} {R : AV → Store → Prop} {Q : Post}
variable {d : Nat} {ty : TypeId} {pos : String} {aft : Array Edge} {gd : Option (Nat × Bool)}

theorem w_pure {op : Op} {av : AV} (hd : Nat.blt d G.n = true) (h : Pure P G (Keep []) fr st ⟨some d, op, ty, pos, aft, gd⟩ av) (k : K ((d, av) :: fr) st) : Aop P G X ⟨some d, op, ty, pos, aft, gd⟩ K fr st :=
  op_pure hd h k
theorem w_box {x : Operand} {t : TypeId} {av : AV} {cs : List AV} (hd : Nat.blt d G.n = true) (hx : opv fr x = some av) (hc : cellsOf av = some cs)
    (k : ∀ b, K ((d, .ptr b 0) :: fr) ((b, .box cs) :: st)) : Aop P G X ⟨some d, .box t x, ty, pos, aft, gd⟩ K fr st := op_box hd hx hc k
theorem w_alloc {t : TypeId} {cs : List AV} (hd : Nat.blt d G.n = true) (hz : zeroOf P t = some cs)
    (k : ∀ b, K ((d, .ptr b 0) :: fr) ((b, .box cs) :: st)) : Aop P G X ⟨some d, .alloc t, ty, pos, aft, gd⟩ K fr st := op_alloc hd hz k
theorem w_lit {t e : TypeId} {s by' len : Nat} {parts : Array (Nat × Operand)} {as : List (Nat × AV)} {rows : List (List AV)} (hd : Nat.blt d G.n = true) (he : elemOfT P t = some (e, s, by')) (hb : Nat.ble (len * s) 16777216 = true)
    (hpa : partsA fr parts.toList = some as) (hn : rows.length = len) (hf : fillA (fun k => some (k * s, s)) (List.replicate (len * s) .any) as = some rows.flatten) (hrow : rows.all (fun r => Nat.beq r.length s) = true)
    (k : ∀ b, K ((d, .own s b 0 len) :: fr) ((b, .arr e s rows) :: st)) : Aop P G X ⟨some d, .buildSlice t len parts, ty, pos, aft, gd⟩ K fr st := op_lit hd he hb hpa hn hf hrow k
theorem w_lit_v {t e : TypeId} {s by' len : Nat} {parts : Array (Nat × Operand)} {as : List (Nat × AV)} {rows : List (List AV)} (hd : Nat.blt d G.n = true) (he : elemOfT P t = some (e, s, by')) (hb : Nat.ble (len * s) 16777216 = true)
    (hpa : partsA fr parts.toList = some as) (hn : rows.length = len) (hf : fillA (fun k => some (k * s, s)) (List.replicate (len * s) .any) as = some rows.flatten) (hrow : rows.all (fun r => Nat.beq r.length s) = true)
    (k : K ((d, .sl rows) :: fr) st) : Aop P G X ⟨some d, .buildSlice t len parts, ty, pos, aft, gd⟩ K fr st := op_lit_v hd he hb hpa hn hf hrow k
theorem w_make {t e : TypeId} {s by' : Nat} {x y : Operand} {k1 k2 : IntKind} {n : Int} {zs : List AV} (c : Nat) (hd : Nat.blt d G.n = true) (he : elemOfT P t = some (e, s, by')) (hz : zeroOf P e = some zs) (hx : opv fr x = some (.int k1 n)) (hy : opv fr y = some (.int k2 n))
    (hc : n = (c : Int)) (hb : by' * c ≤ 281474976710656) (h63 : c ≤ 9223372036854775807)
    (k : ∀ b, K ((d, .own s b 0 c) :: fr) ((b, .arr e s (List.replicate c zs)) :: st)) : Aop P G X ⟨some d, .makeSlice t x y, ty, pos, aft, gd⟩ K fr st := op_make c hd he hz hx hy hc hb h63 k
theorem w_store {t : TypeId} {p x : Operand} {b off : Nat} {cells cs cells' : List AV} {av : AV} {rest : Store} (hp : opv fr p = some (.ptr b off)) (hx : opv fr x = some av) (hc : cellsOf av = some cs)
    (hpk : Pick st b (.box cells) rest) (hs : cellsN P t = some cs.length) (hf : cs.all flat = true) (hl : Nat.ble (off + cs.length) cells.length = true) (hnew : segSet cells off cs = cells') (hX : InT X b rest)
    (k : K fr ((b, .box cells') :: rest)) : Aop P G X ⟨none, .store t p x, ty, pos, aft, gd⟩ K fr st := op_store_box rfl hp hx hc hpk hs hf hl hnew hX k
theorem w_store_e {t te : TypeId} {p x : Operand} {s b i off : Nat} {rows : List (List AV)} {row cs row' : List AV} {av : AV} {rest : Store} (hp : opv fr p = some (.eptr s b i off)) (hx : opv fr x = some av)
    (hc : cellsOf av = some cs) (hpk : Pick st b (.arr te s rows) rest) (hr : rows[i]? = some row) (hs : cellsN P t = some cs.length) (hf : cs.all flat = true) (hl : Nat.ble (off + cs.length) row.length = true) (hnew : segSet row off cs = row') (hX : InT X b rest)
    (k : K fr ((b, .arr te s (rows.set i row')) :: rest)) : Aop P G X ⟨none, .store t p x, ty, pos, aft, gd⟩ K fr st := op_store_e rfl hp hx hc hpk hr hs hf hl hnew hX k
theorem w_append {t e : TypeId} {s by' b len : Nat} {x y : Operand} {ay : AV} {rows rows2 : List (List AV)} {rest : Store} (hd : Nat.blt d G.n = true) (he : elemOfT P t = some (e, s, by')) (hx : opv fr x = some (.own s b 0 len)) (hy : opv fr y = some ay)
    (hp : Pick st b (.arr e s rows) rest) (hlen : rows.length = len) (hr : Rows st ay rows2) (hrow : ∀ r ∈ rows2, r.length = s) (hf : ∀ r ∈ rows2, r.all flat = true) (hb : (len + rows2.length) * by' ≤ 140737488355328) (h63 : len + rows2.length ≤ 9223372036854775807) (hX : InT X b rest)
    (k : ∀ b', K ((d, .own s b' 0 (len + rows2.length)) :: fr) ((b', .arr e s (rows ++ rows2)) :: rest)) :
    Aop P G X ⟨some d, .call { callee := .builtin .append, args := #[x, y], argTypes := #[t, t] }, ty, pos, aft, gd⟩ K fr st := op_append hd he hx hy hp hlen hr hrow hf hb h63 hX k
theorem w_call {f : FuncId} {c : Operand} {args : Array Operand} {tt : Array TypeId} {caps avs : List AV} (hd : Nat.blt d G.n = true) (hf : opv fr c = some (.fn f caps)) (ha : argsA fr args.toList = some avs) (hc : callable P f = true) (h : ACalls P f (avs ++ caps) [] R)
    (k : ∀ r st', R r st' → K ((d, r) :: fr) (st' ++ st)) : Aop P G X ⟨some d, .call { callee := .value c, args := args, argTypes := tt }, ty, pos, aft, gd⟩ K fr st := op_call hd hf ha hc h k
theorem w_callR {f : FuncId} {c : Operand} {args : Array Operand} {tt : Array TypeId} {caps avs : List AV} {v : AV} (hd : Nat.blt d G.n = true) (hf : opv fr c = some (.fn f caps)) (ha : argsA fr args.toList = some avs) (hc : callable P f = true) (h : ACalls P f (avs ++ caps) [] (Ret v))
    (k : K ((d, v) :: fr) st) : Aop P G X ⟨some d, .call { callee := .value c, args := args, argTypes := tt }, ty, pos, aft, gd⟩ K fr st := op_call hd hf ha hc h (by rintro _ _ ⟨rfl, rfl⟩; exact k)
theorem w_callL {f : FuncId} {c : Operand} {args : Array Operand} {tt : Array TypeId} {caps avs avs' : List AV} (hd : Nat.blt d G.n = true) (hf : opv fr c = some (.fn f caps)) (ha : argsA fr args.toList = some avs) (hc : callable P f = true) (hv : VwL st (avs ++ caps) avs')
    (h : ACalls P f avs' [] R) (k : ∀ r st', R r st' → Closed r ∧ ClosedS st' ∧ K ((d, r) :: fr) (st' ++ st)) : Aop P G X ⟨some d, .call { callee := .value c, args := args, argTypes := tt }, ty, pos, aft, gd⟩ K fr st := op_callL hd hf ha hc hv h k
theorem w_callLR {f : FuncId} {c : Operand} {args : Array Operand} {tt : Array TypeId} {caps avs avs' : List AV} {v : AV} (hd : Nat.blt d G.n = true) (hf : opv fr c = some (.fn f caps)) (ha : argsA fr args.toList = some avs) (hc : callable P f = true) (hv : VwL st (avs ++ caps) avs')
    (h : ACalls P f avs' [] (Ret v)) (hcl : Closed v) (k : K ((d, v) :: fr) st) : Aop P G X ⟨some d, .call { callee := .value c, args := args, argTypes := tt }, ty, pos, aft, gd⟩ K fr st :=
  op_callL hd hf ha hc hv h (by rintro _ _ ⟨rfl, rfl⟩; exact ⟨hcl, closedS_nil, k⟩)
theorem w_callM {f : FuncId} {c : Operand} {args : Array Operand} {tt : Array TypeId} {caps avs avs' : List AV} {st1 st2 : Store} (hd : Nat.blt d G.n = true) (hf : opv fr c = some (.fn f caps)) (ha : argsA fr args.toList = some avs) (hc : callable P f = true) (hp : Picks st st1 st2)
    (hv : VwL st2 (avs ++ caps) avs') (h : ACalls P f avs' st1 R) (hX : InTs X st1 st2) (k : ∀ r st', R r st' → Closed r ∧ ClosedS st' ∧ K ((d, r) :: fr) (st' ++ st2)) : Aop P G X ⟨some d, .call { callee := .value c, args := args, argTypes := tt }, ty, pos, aft, gd⟩ K fr st :=
  op_callM hd hf ha hc hp hv h hX k

/-! ### Tests, their outcome told as a proposition -/

theorem a_cond_d {t : Nat} {x y : Code} {p : Prop} [Decidable p] (hl : look fr t = some (.bool (decide p))) (ht : p → awp P G x Q fr st) (hf : ¬ p → awp P G y Q fr st) : awp P G (.cond (.tmp t) x y) Q fr st :=
  a_cond hl (fun h => ht (of_decide_eq_true h)) (fun h => hf (of_decide_eq_false h))
theorem a_cond_n {t : Nat} {x y : Code} {p : Prop} [Decidable p] (hl : look fr t = some (.bool (!decide p))) (ht : ¬ p → awp P G x Q fr st) (hf : p → awp P G y Q fr st) : awp P G (.cond (.tmp t) x y) Q fr st :=
  a_cond hl (fun h => ht (by simpa using h)) (fun h => hf (by simpa using h))
theorem a_cond_nb {t : Nat} {x y : Code} {b : Bool} (hl : look fr t = some (.bool (!b))) (ht : b = false → awp P G x Q fr st) (hf : b = true → awp P G y Q fr st) : awp P G (.cond (.tmp t) x y) Q fr st :=
  a_cond hl (fun h => ht (by simpa using h)) (fun h => hf (by simpa using h))

variable {ops : Array Oper} {rest : List Oper} {o : Oper}

theorem g_d {g e : Nat} {p : Prop} [Decidable p] (hg : o.guard = some (g, true)) (hd : (ops[g]?).bind (·.dst) = some e) (ho : o.dst = some d) (hn : Nat.blt d G.n = true) (hl : look fr e = some (.bool (decide p)))
    (ht : p → Aop P G none o (Aops P G ops rest K) ((e, .bool true) :: fr) st) (hf : ¬ p → Aops P G ops rest K ((d, .any) :: (e, .bool false) :: fr) st) : Aops P G ops (o :: rest) K fr st :=
  aops_guard hg hd (by rw [ho]; exact hn) hl (fun h => ht (of_decide_eq_true h)) (fun h => by have := hf (of_decide_eq_false h); rw [ho]; exact this)
theorem g_dn {g e : Nat} {p : Prop} [Decidable p] (hg : o.guard = some (g, false)) (hd : (ops[g]?).bind (·.dst) = some e) (ho : o.dst = some d) (hn : Nat.blt d G.n = true) (hl : look fr e = some (.bool (decide p)))
    (ht : p → Aops P G ops rest K ((d, .any) :: (e, .bool true) :: fr) st) (hf : ¬ p → Aop P G none o (Aops P G ops rest K) ((e, .bool false) :: fr) st) : Aops P G ops (o :: rest) K fr st :=
  aops_guard hg hd (by rw [ho]; exact hn) hl (fun h => hf (of_decide_eq_false h)) (fun h => by have := ht (of_decide_eq_true h); rw [ho]; exact this)
theorem g_b {g e : Nat} {b : Bool} (hg : o.guard = some (g, true)) (hd : (ops[g]?).bind (·.dst) = some e) (ho : o.dst = some d) (hn : Nat.blt d G.n = true) (hl : look fr e = some (.bool b))
    (ht : b = true → Aop P G none o (Aops P G ops rest K) ((e, .bool true) :: fr) st) (hf : b = false → Aops P G ops rest K ((d, .any) :: (e, .bool false) :: fr) st) : Aops P G ops (o :: rest) K fr st :=
  aops_guard hg hd (by rw [ho]; exact hn) hl ht (fun h => by have := hf h; rw [ho]; exact this)
theorem g_bn {g e : Nat} {b : Bool} (hg : o.guard = some (g, false)) (hd : (ops[g]?).bind (·.dst) = some e) (ho : o.dst = some d) (hn : Nat.blt d G.n = true) (hl : look fr e = some (.bool b))
    (ht : b = true → Aops P G ops rest K ((d, .any) :: (e, .bool true) :: fr) st) (hf : b = false → Aop P G none o (Aops P G ops rest K) ((e, .bool false) :: fr) st) : Aops P G ops (o :: rest) K fr st :=
  aops_guard hg hd (by rw [ho]; exact hn) hl hf (fun h => by have := ht h; rw [ho]; exact this)
/-- passed over, the guard being known -/
theorem g_pass {g e : Nat} {want : Bool} (hg : o.guard = some (g, want)) (hd : (ops[g]?).bind (·.dst) = some e) (ho : o.dst = some d) (hn : Nat.blt d G.n = true) (hl : look fr e = some (.bool (!want)))
    (h : Aops P G ops rest K ((d, .any) :: fr) st) : Aops P G ops (o :: rest) K fr st :=
  aops_guard_f hg hd (by rw [ho]; exact hn) hl (by rw [ho]; exact h)

/-! ### Slices whose elements are told by a function -/

theorem lenAll {α : Type} {s : Nat} (f : α → List AV) (xs : List α) (h : ∀ x, (f x).length = s) : ∀ r ∈ xs.map f, r.length = s := fun r hr => by
  obtain ⟨x, _, rfl⟩ := List.mem_map.1 hr
  exact h x
theorem flatAll {α : Type} (f : α → List AV) (xs : List α) (h : ∀ x, (f x).all flat = true) : ∀ r ∈ xs.map f, r.all flat = true := fun r hr => by
  obtain ⟨x, _, rfl⟩ := List.mem_map.1 hr
  exact h x
theorem closedAll {α : Type} (t s : Nat) (f : α → List AV) (xs : List α) (h : ∀ x, ∀ c ∈ f x, Closed c) : ClosedE (.arr t s (xs.map f)) := fun r hr c hc => by
  obtain ⟨x, _, rfl⟩ := List.mem_map.1 hr
  exact h x c hc

theorem w_litM {α : Type} (f : α → List AV) (ys : List α) {t e : TypeId} {s by' len : Nat} {parts : Array (Nat × Operand)} {as : List (Nat × AV)} (hd : Nat.blt d G.n = true) (he : elemOfT P t = some (e, s, by')) (hb : Nat.ble (len * s) 16777216 = true)
    (hpa : partsA fr parts.toList = some as) (hn : ys.length = len) (hf : fillA (fun k => some (k * s, s)) (List.replicate (len * s) .any) as = some (ys.map f).flatten) (hrow : (ys.map f).all (fun r => Nat.beq r.length s) = true)
    (k : ∀ b, K ((d, .own s b 0 ys.length) :: fr) ((b, .arr e s (ys.map f)) :: st)) : Aop P G X ⟨some d, .buildSlice t len parts, ty, pos, aft, gd⟩ K fr st :=
  op_lit hd he hb hpa (by rw [List.length_map, hn]) hf hrow (fun b => by have := k b; rw [hn] at this; exact this)

theorem w_lit_vM {α : Type} (f : α → List AV) (ys : List α) {t e : TypeId} {s by' len : Nat} {parts : Array (Nat × Operand)} {as : List (Nat × AV)} (hd : Nat.blt d G.n = true) (he : elemOfT P t = some (e, s, by')) (hb : Nat.ble (len * s) 16777216 = true)
    (hpa : partsA fr parts.toList = some as) (hn : ys.length = len) (hf : fillA (fun k => some (k * s, s)) (List.replicate (len * s) .any) as = some (ys.map f).flatten) (hrow : (ys.map f).all (fun r => Nat.beq r.length s) = true)
    (k : K ((d, .sl (ys.map f)) :: fr) st) : Aop P G X ⟨some d, .buildSlice t len parts, ty, pos, aft, gd⟩ K fr st :=
  op_lit_v hd he hb hpa (by rw [List.length_map, hn]) hf hrow k

theorem w_appendM {α : Type} (f : α → List AV) {t e : TypeId} {s by' b len : Nat} {x y : Operand} {ay : AV} {xs ys : List α} {rest : Store} (hd : Nat.blt d G.n = true) (he : elemOfT P t = some (e, s, by')) (hx : opv fr x = some (.own s b 0 len)) (hy : opv fr y = some ay)
    (hp : Pick st b (.arr e s (xs.map f)) rest) (hlen : xs.length = len) (hr : Rows st ay (ys.map f)) (hs : ∀ x, (f x).length = s) (hf : ∀ x, (f x).all flat = true) (hb : (xs.length + ys.length) * by' ≤ 140737488355328) (h63 : xs.length + ys.length ≤ 9223372036854775807) (hX : InT X b rest)
    (k : ∀ b', K ((d, .own s b' 0 (xs ++ ys).length) :: fr) ((b', .arr e s ((xs ++ ys).map f)) :: rest)) :
    Aop P G X ⟨some d, .call { callee := .builtin .append, args := #[x, y], argTypes := #[t, t] }, ty, pos, aft, gd⟩ K fr st := by
  subst hlen
  refine op_append hd he hx hy hp (by simp) hr (lenAll f ys hs) (flatAll f ys hf) (by simpa using hb) (by simpa using h63) hX (fun b' => ?_)
  have := k b'
  rw [List.length_append, List.map_append] at this
  rw [List.length_map]
  exact this

theorem w_makeM {α : Type} (f : α → List AV) (z : α) {t e : TypeId} {s by' : Nat} {x y : Operand} {k1 k2 : IntKind} {n : Int} (c : Nat) (hd : Nat.blt d G.n = true) (he : elemOfT P t = some (e, s, by')) (hz : zeroOf P e = some (f z)) (hx : opv fr x = some (.int k1 n)) (hy : opv fr y = some (.int k2 n))
    (hc : n = (c : Int)) (hb : by' * c ≤ 281474976710656) (h63 : c ≤ 9223372036854775807)
    (k : ∀ b, K ((d, .own s b 0 (List.replicate c z).length) :: fr) ((b, .arr e s ((List.replicate c z).map f)) :: st)) : Aop P G X ⟨some d, .makeSlice t x y, ty, pos, aft, gd⟩ K fr st :=
  op_make c hd he hz hx hy hc hb h63 (fun b => by
    have := k b
    rw [List.length_replicate, List.map_replicate] at this
    exact this)

/-- A whole element, or a part of it, is written: the element's new value told. -/
theorem w_store_eM {α : Type} (f : α → List AV) {t te : TypeId} {p x : Operand} {s b i off : Nat} {xs : List α} {cs : List AV} {av : AV} {rest : Store} (v : α) (hp : opv fr p = some (.eptr s b i off)) (hx : opv fr x = some av)
    (hc : cellsOf av = some cs) (hpk : Pick st b (.arr te s (xs.map f)) rest) (hi : i < xs.length) (hs : cellsN P t = some cs.length) (hf : cs.all flat = true) (hl : Nat.ble (off + cs.length) (f xs[i]).length = true) (hnew : segSet (f xs[i]) off cs = f v) (hX : InT X b rest)
    (k : K fr ((b, .arr te s ((xs.set i v).map f)) :: rest)) : Aop P G X ⟨none, .store t p x, ty, pos, aft, gd⟩ K fr st :=
  op_store_e rfl hp hx hc hpk (rowAt' f xs hi) hs hf hl hnew hX (by
    have := k
    rw [List.map_set] at this
    exact this)

section
variable {Y : World → World → Prop} {t t' : TypeId} {x y : Operand} {k : IntKind} {m : Int} {p : Bool} {dst : Option Tmp}
theorem p_eql_same (hx : opv fr x = some (.int k m)) (hy : opv fr y = some (.int k m)) : Pure P G Y fr st ⟨dst, .binOp .eql t x y t', ty, pos, aft, gd⟩ (.bool true) := by
  have := p_eql (P := P) (G := G) (Y := Y) (st := st) (dst := dst) (ty := ty) (pos := pos) (aft := aft) (gd := gd) (t := t) (t' := t') hx hy
  simpa using this
theorem p_neq_same (hx : opv fr x = some (.int k m)) (hy : opv fr y = some (.int k m)) : Pure P G Y fr st ⟨dst, .binOp .neq t x y t', ty, pos, aft, gd⟩ (.bool false) := by
  have := p_neq (P := P) (G := G) (Y := Y) (st := st) (dst := dst) (ty := ty) (pos := pos) (aft := aft) (gd := gd) (t := t) (t' := t') hx hy
  simpa using this
theorem p_eql_bsame (ht : P.underlying t = some .bool) (hx : opv fr x = some (.bool p)) (hy : opv fr y = some (.bool p)) : Pure P G Y fr st ⟨dst, .binOp .eql t x y t', ty, pos, aft, gd⟩ (.bool true) := by
  have := p_eql_b (P := P) (G := G) (Y := Y) (st := st) (dst := dst) (ty := ty) (pos := pos) (aft := aft) (gd := gd) (t := t) (t' := t') ht hx hy
  simpa using this
theorem p_neq_bsame (ht : P.underlying t = some .bool) (hx : opv fr x = some (.bool p)) (hy : opv fr y = some (.bool p)) : Pure P G Y fr st ⟨dst, .binOp .neq t x y t', ty, pos, aft, gd⟩ (.bool false) := by
  have := p_neq_b (P := P) (G := G) (Y := Y) (st := st) (dst := dst) (ty := ty) (pos := pos) (aft := aft) (gd := gd) (t := t) (t' := t') ht hx hy
  simpa using this
end

/-! ### In a region that draws its order -/
variable {Xl Ko : List Nat} {first : Bool} {fuel : Nat} {listed : Array Bool} {op : Op}

theorem d_take {av : AV} (i : Nat) (hi : ops[i]? = some ⟨some d, op, ty, pos, aft, none⟩) (hs : Region.noSelect ops = true) (hf : Region.free .any ops listed i = true)
    (hr : (Region.ready .any ops listed).contains i = true) (hd : Nat.blt d G.n = true) (h : Pure P G NoMem fr st ⟨some d, op, ty, pos, aft, none⟩ av)
    (k : ADraw P G ops Xl Ko first fuel (listed.setIfInBounds i true) K ((d, av) :: fr) st) : ADraw P G ops Xl Ko first (fuel + 1) listed K fr st := draw_take i hi hs hf hr rfl hd h k
theorem d_load {av : AV} (i : Nat) (hi : ops[i]? = some ⟨some d, op, ty, pos, aft, none⟩) (hs : Region.noSelect ops = true) (hf : Region.free .any ops listed i = true)
    (hr : (Region.ready .any ops listed).contains i = true) (hd : Nat.blt d G.n = true) (h : Pure P G (Keep Xl) fr st ⟨some d, op, ty, pos, aft, none⟩ av)
    (k : ADraw P G ops Xl Ko true fuel (listed.setIfInBounds i true) K ((d, av) :: fr) st) : ADraw P G ops Xl Ko true (fuel + 1) listed K fr st := draw_load i hi hs hf hr rfl hd h k
theorem d_take_t {av : AV} {g e : Nat} {want : Bool} (i : Nat) (hi : ops[i]? = some ⟨some d, op, ty, pos, aft, some (g, want)⟩) (hs : Region.noSelect ops = true) (hf : Region.free .any ops listed i = true)
    (hr : (Region.ready .any ops listed).contains i = true) (hgd : (ops[g]?).bind (·.dst) = some e) (hl : look fr e = some (.bool want)) (hd : Nat.blt d G.n = true) (h : Pure P G NoMem fr st ⟨some d, op, ty, pos, aft, some (g, want)⟩ av)
    (k : ADraw P G ops Xl Ko first fuel (listed.setIfInBounds i true) K ((d, av) :: fr) st) : ADraw P G ops Xl Ko first (fuel + 1) listed K fr st := draw_take_t i hi hs hf hr rfl hgd hl hd h k
theorem d_load_t {av : AV} {g e : Nat} {want : Bool} (i : Nat) (hi : ops[i]? = some ⟨some d, op, ty, pos, aft, some (g, want)⟩) (hs : Region.noSelect ops = true) (hf : Region.free .any ops listed i = true)
    (hr : (Region.ready .any ops listed).contains i = true) (hgd : (ops[g]?).bind (·.dst) = some e) (hl : look fr e = some (.bool want)) (hd : Nat.blt d G.n = true) (h : Pure P G (Keep Xl) fr st ⟨some d, op, ty, pos, aft, some (g, want)⟩ av)
    (k : ADraw P G ops Xl Ko true fuel (listed.setIfInBounds i true) K ((d, av) :: fr) st) : ADraw P G ops Xl Ko true (fuel + 1) listed K fr st := draw_load_t i hi hs hf hr rfl hgd hl hd h k
theorem d_pass {g e : Nat} {want : Bool} (i : Nat) (hi : ops[i]? = some ⟨some d, op, ty, pos, aft, some (g, want)⟩) (hs : Region.noSelect ops = true) (hf : Region.free .any ops listed i = true)
    (hr : (Region.ready .any ops listed).contains i = true) (hgd : (ops[g]?).bind (·.dst) = some e) (hl : look fr e = some (.bool (!want))) (hd : Nat.blt d G.n = true)
    (k : ADraw P G ops Xl Ko first fuel (listed.setIfInBounds i true) K ((d, .any) :: fr) st) : ADraw P G ops Xl Ko first (fuel + 1) listed K fr st := draw_pass i hi hs hf hr rfl hgd hl hd k
theorem d_split_d {p : Prop} [Decidable p] (e : Nat) (hl : look fr e = some (.bool (decide p)))
    (ht : p → ADraw P G ops Xl Ko first fuel listed K ((e, .bool true) :: fr) st) (hf : ¬ p → ADraw P G ops Xl Ko first fuel listed K ((e, .bool false) :: fr) st) : ADraw P G ops Xl Ko first fuel listed K fr st :=
  draw_split e hl (fun h => ht (of_decide_eq_true h)) (fun h => hf (of_decide_eq_false h))

theorem noX {st : Store} : ∀ z ∈ ([] : List Nat), z ∈ keys st := fun _ h => by cases h

end

/-- An element of a slice of structs. -/
theorem rowAt {α : Type} (f : α → List AV) (xs : List α) {j : Nat} (h : j < xs.length) : (xs.map f)[j]? = some (f xs[j]) := by simp [h]

/-- The cells of an integer, of a Bool. -/
abbrev eInt (x : Int) : List AV := [.int .i64 x]
abbrev eBool (x : Bool) : List AV := [.bool x]
abbrev ints (xs : List Int) : List (List AV) := xs.map eInt
abbrev bools (xs : List Bool) : List (List AV) := xs.map eBool

theorem cl_eInt : ∀ x, ∀ c ∈ eInt x, Closed c := fun x c hc => by rw [List.mem_singleton.1 hc]; exact closed_int _ _
theorem cl_eBool : ∀ x, ∀ c ∈ eBool x, Closed c := fun x c hc => by rw [List.mem_singleton.1 hc]; exact closed_bool _

end Go.Fw
