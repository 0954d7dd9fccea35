/-
  The framework, part C: the operations that change nothing. It holds for every program. Condition: none.
-/
import Derived.Test.YtejlhpmmgjfllaaFwB
namespace Go.Fw
open Go

def opv (fr : Fr) : Operand → Option AV
  | .tmp t => look fr t
  | .const (.int k n) => some (.int k n)
  | .const (.bool b) => some (.bool b)
  | .const (.slice none 0 0) => some .nil
  | .func f => some (.fn f [])
  | _ => none

theorem opv_rep {G : Gh} {M : Nat → Prop} {fr : Fr} {st : Store} {a : Act} {w : World} (h : StM G M fr st a w) {x : Operand} {av : AV} (hx : opv fr x = some av) : Rep M w (a.eval x) av := by
  unfold opv at hx
  split at hx
  · exact (h.fr _ _ hx).2
  · cases hx; exact .int _ _
  · cases hx; exact .bool _
  · cases hx; exact .nil _
  · cases hx; exact .fn _ #[] [] rfl (fun i av h => by simp at h)
  · cases hx

/-- One entry of the store, and the others. -/
inductive Pick : Store → Nat → Entry → Store → Prop
  | here (b : Nat) (e : Entry) (l : Store) : Pick ((b, e) :: l) b e l
  | next {l l' : Store} {b : Nat} {e : Entry} (x : Nat × Entry) (h : Pick l b e l') : Pick (x :: l) b e (x :: l')

theorem Pick.perm {l l' : Store} {b : Nat} {e : Entry} (h : Pick l b e l') : List.Perm l ((b, e) :: l') := by
  induction h with
  | here b e l => exact List.Perm.refl _
  | next x _ ih => exact (ih.cons x).trans (List.Perm.swap _ _ _)

theorem Pick.mem {l l' : Store} {b : Nat} {e : Entry} (h : Pick l b e l') : (b, e) ∈ l := h.perm.mem_iff.2 (List.mem_cons_self)

theorem Sim.perm {M : Nat → Prop} {w : World} {st st' : Store} (h : Sim M w st) (hp : List.Perm st st') : Sim M w st' :=
  ⟨(List.Perm.nodup_iff (hp.map Prod.fst)).1 h.nodup, fun b e hb => h.ent b e (hp.mem_iff.2 hb), fun b e hb => h.notM b e (hp.mem_iff.2 hb), h.lt⟩

theorem StM.perm {G : Gh} {M : Nat → Prop} {fr : Fr} {st st' : Store} {a : Act} {w : World} (h : StM G M fr st a w) (hp : List.Perm st st') : StM G M fr st' a w :=
  ⟨h.size, h.defers, h.tr, h.m0, h.m1, fun b hb => h.k1 b (by
    obtain ⟨e, he⟩ := of_mem_keys hb
    exact mem_keys (hp.mem_iff.2 he)), h.fr, h.sim.perm hp⟩

/-- A block that is written is another than the one picked. -/
theorem Pick.ne {M : Nat → Prop} {w : World} {l l' : Store} {b : Nat} {e : Entry} (h : Pick l b e l') (hs : Sim M w l) {x : Nat} (hx : x ∈ keys l') : b ≠ x := by
  have := (hs.perm h.perm).nodup
  simp only [keys, List.map_cons, List.nodup_cons] at this
  rintro rfl
  exact this.1 hx

/-! ### Facts on types, reckoned -/

def fieldOff (P : Program) (t : TypeId) (f : Nat) : Option Nat :=
  match P.underlying t with
  | some (.struct fs) => match fs[f]? with
    | some fld => match P.info? fld.type with
      | some i => if i.size = 0 then none else some fld.offset
      | none => none
    | none => none
  | _ => none

/-- none: no such type; some none: of one cell; some (some n): a struct or array of n cells. -/
def aggSize (P : Program) (t : TypeId) : Option (Option Nat) :=
  match P.underlying t with
  | some (.struct _) | some (.array _ _) => (P.info? t).map fun i => some i.size
  | some _ => match (P.info? t).map (·.size) with
    | some 1 => some none
    | _ => none
  | none => none

def elemSize (P : Program) (t : TypeId) : Option Nat :=
  match P.underlying t with
  | some (.slice e) => (P.info? e).map (·.size)
  | _ => none

def isSlice (P : Program) (t : TypeId) : Bool :=
  match P.underlying t with
  | some (.slice _) => true
  | _ => false

section
variable {P : Program} {G : Gh} {Y : World → World → Prop} {fr : Fr} {st : Store} {dst : Option Tmp} {ty : TypeId} {pos : String} {aft : Array Edge} {gd : Option (Nat × Bool)}

theorem Rep.int_inv {M : Nat → Prop} {w : World} {v : Value} {k : IntKind} {n : Int} (h : Rep M w v (.int k n)) : v = .int k n := by cases h; rfl
theorem Rep.bool_inv {M : Nat → Prop} {w : World} {v : Value} {b : Bool} (h : Rep M w v (.bool b)) : v = .bool b := by cases h; rfl
theorem Rep.ptr_inv {M : Nat → Prop} {w : World} {v : Value} {b o : Nat} (h : Rep M w v (.ptr b o)) : v = .pointer (some ⟨b, o, none⟩) := by cases h; rfl
theorem Rep.eptr_inv {M : Nat → Prop} {w : World} {v : Value} {s b i o : Nat} (h : Rep M w v (.eptr s b i o)) : v = .pointer (some ⟨b, i * s + o, none⟩) := by cases h; rfl

theorem p_move {x : Operand} {av : AV} (hx : opv fr x = some av) : Pure P G Y fr st ⟨dst, .move x, ty, pos, aft, gd⟩ av := fun M a w h =>
  ⟨a.eval x, opv_rep h hx, fun w' _ => by simp [execOp]⟩

theorem p_assign {x : Operand} {av : AV} (hx : opv fr x = some av) : Pure P G Y fr st ⟨dst, .assign x, ty, pos, aft, gd⟩ av := fun M a w h =>
  ⟨a.eval x, opv_rep h hx, fun w' _ => by simp [execOp]⟩

theorem p_pick_t {c x y : Operand} {av : AV} (hc : opv fr c = some (.bool true)) (hx : opv fr x = some av) : Pure P G Y fr st ⟨dst, .pick c x y, ty, pos, aft, gd⟩ av := fun M a w h =>
  ⟨a.eval x, opv_rep h hx, fun w' _ => by simp [execOp, (opv_rep h hc).bool_inv, asBool]⟩

theorem p_pick_f {c x y : Operand} {av : AV} (hc : opv fr c = some (.bool false)) (hy : opv fr y = some av) : Pure P G Y fr st ⟨dst, .pick c x y, ty, pos, aft, gd⟩ av := fun M a w h =>
  ⟨a.eval y, opv_rep h hy, fun w' _ => by simp [execOp, (opv_rep h hc).bool_inv, asBool]⟩

theorem p_not {x : Operand} {b : Bool} {t : TypeId} (hx : opv fr x = some (.bool b)) : Pure P G Y fr st ⟨dst, .unOp .not t x, ty, pos, aft, gd⟩ (.bool (!b)) := fun M a w h =>
  ⟨.bool (!b), .bool _, fun w' _ => by simp [execOp, (opv_rep h hx).bool_inv, Op.unary]⟩

theorem p_neg {x : Operand} {k : IntKind} {n : Int} {t : TypeId} (hx : opv fr x = some (.int k n)) : Pure P G Y fr st ⟨dst, .unOp .neg t x, ty, pos, aft, gd⟩ (.int k (k.wrap (-n))) := fun M a w h =>
  ⟨.int k (k.wrap (-n)), .int _ _, fun w' _ => by simp [execOp, (opv_rep h hx).int_inv, Op.unary, Op.intArith]⟩

theorem p_convert {x : Operand} {k k' : IntKind} {n : Int} {s d : TypeId} (hs : (P.underlying s).isSome = true) (hd : P.underlying d = some (.int k')) (hx : opv fr x = some (.int k n)) :
    Pure P G Y fr st ⟨dst, .convert s d x, ty, pos, aft, gd⟩ (.int k' (k'.wrap n)) := fun M a w h =>
  ⟨.int k' (k'.wrap n), .int _ _, fun w' _ => by
    obtain ⟨ds, hds⟩ := Option.isSome_iff_exists.1 hs
    simp [execOp, (opv_rep h hx).int_inv, convert, run_underlying hds, run_underlying hd, Conv.intToInt]⟩

theorem p_field_box {x : Operand} {t : TypeId} {f b o off : Nat} (ho : fieldOff P t f = some o) (hx : opv fr x = some (.ptr b off)) : Pure P G Y fr st ⟨dst, .fieldAddr t x f, ty, pos, aft, gd⟩ (.ptr b (off + o)) := fun M a w h =>
  ⟨.pointer (some ⟨b, off + o, none⟩), .ptr _ _, fun w' _ => by
    unfold fieldOff at ho
    split at ho <;> try contradiction
    rename_i fs hu
    split at ho <;> try contradiction
    rename_i fld hf
    split at ho <;> try contradiction
    rename_i i hi
    split at ho <;> try contradiction
    rename_i hsz
    cases ho
    simp [execOp, (opv_rep h hx).ptr_inv, Instr.fieldAt, run_underlying hu, hf, Instr.sureAddr, fieldPlace, sizeOf, typeInfo, hi, hsz, Addr.add_lit]⟩

theorem run_fieldAt {t : TypeId} {f o : Nat} (ho : fieldOff P t f = some o) (ad : Addr) (w : World) : (Instr.fieldAt t (.pointer (some ad)) f).run P w = .ok (.pointer (some (ad.add o))) w := by
  unfold fieldOff at ho
  split at ho <;> try contradiction
  rename_i fs hu
  split at ho <;> try contradiction
  rename_i fld hf
  split at ho <;> try contradiction
  rename_i i hi
  split at ho <;> try contradiction
  rename_i hsz
  cases ho
  simp [Instr.fieldAt, run_underlying hu, hf, Instr.sureAddr, fieldPlace, sizeOf, typeInfo, hi, hsz]

theorem p_field_e {x : Operand} {t : TypeId} {f s b i o off : Nat} (ho : fieldOff P t f = some o) (hx : opv fr x = some (.eptr s b i off)) : Pure P G Y fr st ⟨dst, .fieldAddr t x f, ty, pos, aft, gd⟩ (.eptr s b i (off + o)) := fun M a w h =>
  ⟨.pointer (some ⟨b, i * s + (off + o), none⟩), .eptr _ _ _ _, fun w' _ => by
    simp [execOp, (opv_rep h hx).eptr_inv, run_fieldAt ho, Addr.add_lit, Nat.add_assoc]⟩

theorem p_field_v {x : Operand} {t : TypeId} {f o : Nat} {row : List AV} (ho : fieldOff P t f = some o) (hx : opv fr x = some (.vptr row)) : Pure P G Y fr st ⟨dst, .fieldAddr t x f, ty, pos, aft, gd⟩ (.vptr (row.drop o)) := fun M a w h => by
  have hr := opv_rep h hx
  generalize hv : a.eval x = v at hr
  cases hr with
  | vptr b o' _ cs hM hcell hrep =>
    refine ⟨.pointer (some ⟨b, o' + o, none⟩), .vptr b (o' + o) _ (fun j => cs (o + j)) hM (fun j av hj => ?_) (fun j av hj => ?_), fun w' _ => by simp [execOp, hv, run_fieldAt ho, Addr.add_lit]⟩
    · rw [List.getElem?_drop] at hj
      rw [Nat.add_assoc]
      exact hcell _ _ hj
    · rw [List.getElem?_drop] at hj
      exact hrep _ _ hj

theorem p_extract {x : Operand} {i : Nat} {vs : List AV} {av : AV} (hx : opv fr x = some (.tup vs)) (hi : vs[i]? = some av) : Pure P G Y fr st ⟨dst, .extract x i, ty, pos, aft, gd⟩ av := fun M a w h => by
  have hr := opv_rep h hx
  generalize hv : a.eval x = v at hr
  cases hr with
  | tup arr _ hl hrep =>
    have hlt : i < arr.size := by rw [hl]; exact (List.getElem?_eq_some_iff.1 hi).1
    have : arr[i]? = some (arr.getD i undef) := by simp [hlt]
    exact ⟨arr.getD i undef, hrep i av hi, fun w' _ => by simp only [execOp, hv, Instr.extract, this]; rfl⟩

theorem run_indexAt_sl {t : TypeId} {n : Nat} (hs : elemSize P t = some n) (ad : Addr) (len cap : Nat) (k : IntKind) (i : Int) (h0 : 0 ≤ i) (h1 : i < len) (w : World) :
    (Instr.indexAt t (.slice (some ad) len cap) (.int k i)).run P w = .ok (.pointer (some (ad.add (i.toNat * n)))) w := by
  unfold elemSize at hs
  split at hs <;> try contradiction
  rename_i e hu
  cases hi : P.info? e with
  | none => simp [hi] at hs
  | some inf =>
    simp [hi] at hs
    subst hs
    simp [Instr.indexAt, asIntOf, run_underlying hu, sizeOf, typeInfo, hi, h0, h1]

theorem p_index_sl {x ix : Operand} {t : TypeId} {rows : List (List AV)} {row : List AV} {k : IntKind} {i : Int} (j : Nat) (hx : opv fr x = some (.sl rows)) (hix : opv fr ix = some (.int k i)) (hj : i = (j : Int)) (hr : rows[j]? = some row)
    (hs : elemSize P t = some row.length) : Pure P G Y fr st ⟨dst, .indexAddr t x ix, ty, pos, aft, gd⟩ (.vptr row) := fun M a w h => by
  have hrx := opv_rep h hx
  generalize hv : a.eval x = v at hrx
  have hi := (opv_rep h hix).int_inv
  subst hj
  have hlt := (List.getElem?_eq_some_iff.1 hr).1
  cases hrx with
  | sl0 ad c => simp at hr
  | sl b off c s _ cs hM hc hrow hcell hrep =>
    refine ⟨.pointer (some ⟨b, off + j * s, none⟩), .vptr b (off + j * s) row (cs j) hM (fun j' av hj' => hcell j row j' av hr hj') (fun j' av hj' => hrep j row j' av hr hj'), fun w' _ => ?_⟩
    have := run_indexAt_sl (P := P) hs ⟨b, off, none⟩ rows.length c k (j : Int) (by omega) (by omega) w'
    simp only [execOp, hv, hi]
    simp [this, hrow j row hr, Addr.add_lit]

theorem p_index_own {x ix : Operand} {t : TypeId} {s b off len : Nat} {k : IntKind} {i : Int} (j : Nat) (hx : opv fr x = some (.own s b off len)) (hix : opv fr ix = some (.int k i)) (hj : i = (j : Int)) (hlt : j < len)
    (hs : elemSize P t = some s) : Pure P G Y fr st ⟨dst, .indexAddr t x ix, ty, pos, aft, gd⟩ (.eptr s b (off + j) 0) := fun M a w h => by
  have hrx := opv_rep h hx
  generalize hv : a.eval x = v at hrx
  have hi := (opv_rep h hix).int_inv
  subst hj
  cases hrx with
  | own _ _ _ _ c n h1 h2 h3 h4 =>
    refine ⟨.pointer (some ⟨b, (off + j) * s + 0, none⟩), .eptr _ _ _ _, fun w' _ => ?_⟩
    have := run_indexAt_sl (P := P) hs ⟨b, off * s, none⟩ len c k (j : Int) (by omega) (by omega) w'
    simp only [execOp, hv, hi]
    simp [this, Addr.add_lit, Nat.add_mul]

/-- The same at offset 0. -/
theorem p_index_own0 {x ix : Operand} {t : TypeId} {s b len : Nat} {k : IntKind} {i : Int} (j : Nat) (hx : opv fr x = some (.own s b 0 len)) (hix : opv fr ix = some (.int k i)) (hj : i = (j : Int)) (hlt : j < len)
    (hs : elemSize P t = some s) : Pure P G Y fr st ⟨dst, .indexAddr t x ix, ty, pos, aft, gd⟩ (.eptr s b j 0) := by
  have := p_index_own (P := P) (G := G) (Y := Y) (st := st) (dst := dst) (ty := ty) (pos := pos) (aft := aft) (gd := gd) j hx hix hj hlt hs
  rwa [Nat.zero_add] at this

theorem p_len {x : Operand} {t : TypeId} {n : Nat} {av : AV} (hs : isSlice P t = true) (hx : opv fr x = some av) (hn : (match av with | .sl rows => some rows.length | .own _ _ _ len => some len | .nil => some 0 | _ => none) = some n) :
    Pure P G Y fr st ⟨dst, .call { callee := .builtin .len, args := #[x], argTypes := #[t] }, ty, pos, aft, gd⟩ (.int .i64 n) := fun M a w h => by
  have hrx := opv_rep h hx
  generalize hv : a.eval x = v at hrx
  unfold isSlice at hs
  split at hs <;> try contradiction
  rename_i e hu
  refine ⟨.int .i64 n, .int _ _, fun w' _ => ?_⟩
  cases hrx <;> simp at hn <;> subst hn <;> simp [execOp, resolve, invoke, builtin, Builtin.len_, run_underlying hu, hv, goInt]

theorem p_nil {x : Operand} {b off : Nat} (hx : opv fr x = some (.ptr b off)) : Pure P G Y fr st ⟨dst, .nilCheck x, ty, pos, aft, gd⟩ (.ptr b off) := fun M a w h =>
  ⟨.pointer (some ⟨b, off, none⟩), .ptr _ _, fun w' _ => by simp [execOp, (opv_rep h hx).ptr_inv]⟩

theorem p_nil_e {x : Operand} {s b i off : Nat} (hx : opv fr x = some (.eptr s b i off)) : Pure P G Y fr st ⟨dst, .nilCheck x, ty, pos, aft, gd⟩ (.eptr s b i off) := fun M a w h =>
  ⟨.pointer (some ⟨b, i * s + off, none⟩), .eptr _ _ _ _, fun w' _ => by simp [execOp, (opv_rep h hx).eptr_inv]⟩

theorem p_nil_v {x : Operand} {row : List AV} (hx : opv fr x = some (.vptr row)) : Pure P G Y fr st ⟨dst, .nilCheck x, ty, pos, aft, gd⟩ (.vptr row) := fun M a w h => by
  have hr := opv_rep h hx
  refine ⟨a.eval x, hr, fun w' _ => ?_⟩
  generalize hv : a.eval x = v at hr
  cases hr
  simp [execOp, hv]

/-! ### Integers -/

theorem p_int {op : BinOp} {t t' : TypeId} {x y : Operand} {k : IntKind} {m n : Int} {v : Value} {av : AV} (hx : opv fr x = some (.int k m)) (hy : opv fr y = some (.int k n))
    (hr : ∀ M w, Rep M w v av) (h : ∀ w, (binOp op t (.int k m) (.int k n)).run P w = .ok v w) : Pure P G Y fr st ⟨dst, .binOp op t x y t', ty, pos, aft, gd⟩ av := fun M a w hh =>
  ⟨v, hr M w, fun w' _ => by
    simp only [execOp, (opv_rep hh hx).int_inv, (opv_rep hh hy).int_inv]
    simp [eqGuard_at_int, h]⟩

variable {t t' : TypeId} {x y : Operand} {k : IntKind} {m n : Int}

theorem p_add (hx : opv fr x = some (.int k m)) (hy : opv fr y = some (.int k n)) : Pure P G Y fr st ⟨dst, .binOp .add t x y t', ty, pos, aft, gd⟩ (.int k (k.wrap (m + n))) :=
  p_int hx hy (fun _ _ => .int _ _) (fun w => by simp [binOp, Op.intArith])
theorem p_sub (hx : opv fr x = some (.int k m)) (hy : opv fr y = some (.int k n)) : Pure P G Y fr st ⟨dst, .binOp .sub t x y t', ty, pos, aft, gd⟩ (.int k (k.wrap (m - n))) :=
  p_int hx hy (fun _ _ => .int _ _) (fun w => by simp [binOp, Op.intArith])
theorem p_mul (hx : opv fr x = some (.int k m)) (hy : opv fr y = some (.int k n)) : Pure P G Y fr st ⟨dst, .binOp .mul t x y t', ty, pos, aft, gd⟩ (.int k (k.wrap (m * n))) :=
  p_int hx hy (fun _ _ => .int _ _) (fun w => by simp [binOp, Op.intArith])
theorem p_quo (hx : opv fr x = some (.int k m)) (hy : opv fr y = some (.int k n)) (h0 : n ≠ 0) : Pure P G Y fr st ⟨dst, .binOp .quo t x y t', ty, pos, aft, gd⟩ (.int k (k.wrap (m.tdiv n))) :=
  p_int hx hy (fun _ _ => .int _ _) (fun w => by simp [binOp, Op.intDiv, h0])
theorem p_rem (hx : opv fr x = some (.int k m)) (hy : opv fr y = some (.int k n)) (h0 : n ≠ 0) : Pure P G Y fr st ⟨dst, .binOp .rem t x y t', ty, pos, aft, gd⟩ (.int k (m.tmod n)) :=
  p_int hx hy (fun _ _ => .int _ _) (fun w => by simp [binOp, Op.intDiv, h0])

def InI (n : Int) : Prop := -9223372036854775808 ≤ n ∧ n ≤ 9223372036854775807
theorem wrap_in {n : Int} (h : InI n) : IntKind.i64.wrap n = n := by
  obtain ⟨h1, h2⟩ := h
  rw [IntKind.wrap_i64]
  omega

theorem p_add' (hx : opv fr x = some (.int .i64 m)) (hy : opv fr y = some (.int .i64 n)) (h : InI (m + n)) : Pure P G Y fr st ⟨dst, .binOp .add t x y t', ty, pos, aft, gd⟩ (.int .i64 (m + n)) := by
  have := p_add (P := P) (G := G) (Y := Y) (st := st) (dst := dst) (ty := ty) (pos := pos) (aft := aft) (gd := gd) (t := t) (t' := t') hx hy
  rwa [wrap_in h] at this
theorem p_sub' (hx : opv fr x = some (.int .i64 m)) (hy : opv fr y = some (.int .i64 n)) (h : InI (m - n)) : Pure P G Y fr st ⟨dst, .binOp .sub t x y t', ty, pos, aft, gd⟩ (.int .i64 (m - n)) := by
  have := p_sub (P := P) (G := G) (Y := Y) (st := st) (dst := dst) (ty := ty) (pos := pos) (aft := aft) (gd := gd) (t := t) (t' := t') hx hy
  rwa [wrap_in h] at this
theorem p_mul' (hx : opv fr x = some (.int .i64 m)) (hy : opv fr y = some (.int .i64 n)) (h : InI (m * n)) : Pure P G Y fr st ⟨dst, .binOp .mul t x y t', ty, pos, aft, gd⟩ (.int .i64 (m * n)) := by
  have := p_mul (P := P) (G := G) (Y := Y) (st := st) (dst := dst) (ty := ty) (pos := pos) (aft := aft) (gd := gd) (t := t) (t' := t') hx hy
  rwa [wrap_in h] at this
theorem p_quo' (hx : opv fr x = some (.int .i64 m)) (hy : opv fr y = some (.int .i64 n)) (hm : 0 ≤ m) (hm' : m ≤ 9223372036854775807) (hn : 0 < n) : Pure P G Y fr st ⟨dst, .binOp .quo t x y t', ty, pos, aft, gd⟩ (.int .i64 (m / n)) := by
  have := p_quo (P := P) (G := G) (Y := Y) (st := st) (dst := dst) (ty := ty) (pos := pos) (aft := aft) (gd := gd) (t := t) (t' := t') hx hy (by omega)
  rw [Int.tdiv_eq_ediv_of_nonneg hm] at this
  have h1 : 0 ≤ m / n := Int.ediv_nonneg hm (by omega)
  have h2 : m / n ≤ m := Int.ediv_le_self _ hm
  rwa [wrap_in ⟨by omega, by omega⟩] at this
theorem p_rem' (hx : opv fr x = some (.int k m)) (hy : opv fr y = some (.int k n)) (hm : 0 ≤ m) (hn : 0 < n) : Pure P G Y fr st ⟨dst, .binOp .rem t x y t', ty, pos, aft, gd⟩ (.int k (m % n)) := by
  have := p_rem (P := P) (G := G) (Y := Y) (st := st) (dst := dst) (ty := ty) (pos := pos) (aft := aft) (gd := gd) (t := t) (t' := t') hx hy (by omega)
  rwa [Int.tmod_eq_emod_of_nonneg hm] at this

theorem p_bits (op : BinOp) (hop : op = .and ∨ op = .or ∨ op = .xor ∨ op = .andNot) (hx : opv fr x = some (.int k m)) (hy : opv fr y = some (.int k n)) : Pure P G Y fr st ⟨dst, .binOp op t x y t', ty, pos, aft, gd⟩ (.int k (bits op k m n)) :=
  p_int hx hy (fun _ _ => .int _ _) (fun w => by rcases hop with rfl | rfl | rfl | rfl <;> simp [binOp] <;> rfl)

theorem p_eql (hx : opv fr x = some (.int k m)) (hy : opv fr y = some (.int k n)) : Pure P G Y fr st ⟨dst, .binOp .eql t x y t', ty, pos, aft, gd⟩ (.bool (decide (m = n))) :=
  p_int hx hy (v := .bool (m == n)) (fun _ _ => .bool _) (fun w => by simp [binOp, Op.intCmp])
theorem p_neq (hx : opv fr x = some (.int k m)) (hy : opv fr y = some (.int k n)) : Pure P G Y fr st ⟨dst, .binOp .neq t x y t', ty, pos, aft, gd⟩ (.bool (decide (m ≠ n))) :=
  p_int hx hy (v := .bool (m != n)) (fun _ _ => by
    have : (m != n) = decide (m ≠ n) := by by_cases h : m = n <;> simp [h]
    rw [this]; exact .bool _) (fun w => by simp [binOp, Op.intCmp])
theorem p_lss (hx : opv fr x = some (.int k m)) (hy : opv fr y = some (.int k n)) : Pure P G Y fr st ⟨dst, .binOp .lss t x y t', ty, pos, aft, gd⟩ (.bool (decide (m < n))) :=
  p_int hx hy (fun _ _ => .bool _) (fun w => by simp [binOp, Op.intCmp])
theorem p_leq (hx : opv fr x = some (.int k m)) (hy : opv fr y = some (.int k n)) : Pure P G Y fr st ⟨dst, .binOp .leq t x y t', ty, pos, aft, gd⟩ (.bool (decide (m ≤ n))) :=
  p_int hx hy (fun _ _ => .bool _) (fun w => by simp [binOp, Op.intCmp])
theorem p_gtr (hx : opv fr x = some (.int k m)) (hy : opv fr y = some (.int k n)) : Pure P G Y fr st ⟨dst, .binOp .gtr t x y t', ty, pos, aft, gd⟩ (.bool (decide (n < m))) :=
  p_int hx hy (fun _ _ => .bool _) (fun w => by simp [binOp, Op.intCmp])
theorem p_geq (hx : opv fr x = some (.int k m)) (hy : opv fr y = some (.int k n)) : Pure P G Y fr st ⟨dst, .binOp .geq t x y t', ty, pos, aft, gd⟩ (.bool (decide (n ≤ m))) :=
  p_int hx hy (fun _ _ => .bool _) (fun w => by simp [binOp, Op.intCmp])

theorem p_shl {k' : IntKind} (hx : opv fr x = some (.int k m)) (hy : opv fr y = some (.int k' n)) (h0 : 0 ≤ n) : Pure P G Y fr st ⟨dst, .binOp .shl t x y t', ty, pos, aft, gd⟩ (.int k (k.wrap (m * 2 ^ (min n.toNat k.bits)))) := fun M a w hh =>
  ⟨_, .int _ _, fun w' _ => by
    simp only [execOp, (opv_rep hh hx).int_inv, (opv_rep hh hy).int_inv]
    have : ¬ n < 0 := by omega
    simp [eqGuard_at_int, binOp, Op.shift, this]⟩
theorem p_shr {k' : IntKind} (hx : opv fr x = some (.int k m)) (hy : opv fr y = some (.int k' n)) (h0 : 0 ≤ n) : Pure P G Y fr st ⟨dst, .binOp .shr t x y t', ty, pos, aft, gd⟩ (.int k (m.fdiv (2 ^ (min n.toNat k.bits)))) := fun M a w hh =>
  ⟨_, .int _ _, fun w' _ => by
    simp only [execOp, (opv_rep hh hx).int_inv, (opv_rep hh hy).int_inv]
    have : ¬ n < 0 := by omega
    simp [eqGuard_at_int, binOp, Op.shift, this]⟩

theorem p_min2 {tt : Array TypeId} (hx : opv fr x = some (.int k m)) (hy : opv fr y = some (.int k n)) : Pure P G Y fr st ⟨dst, .call { callee := .builtin .min, args := #[x, y], argTypes := tt }, ty, pos, aft, gd⟩ (.int k (if n < m then n else m)) := fun M a w hh =>
  ⟨_, .int _ _, fun w' _ => by
    simp [execOp, resolve, invoke, builtin, Builtin.min_, Builtin.min2, (opv_rep hh hx).int_inv, (opv_rep hh hy).int_inv]⟩
theorem p_max2 {tt : Array TypeId} (hx : opv fr x = some (.int k m)) (hy : opv fr y = some (.int k n)) : Pure P G Y fr st ⟨dst, .call { callee := .builtin .max, args := #[x, y], argTypes := tt }, ty, pos, aft, gd⟩ (.int k (if m < n then n else m)) := fun M a w hh =>
  ⟨_, .int _ _, fun w' _ => by
    simp [execOp, resolve, invoke, builtin, Builtin.max_, Builtin.max2, (opv_rep hh hx).int_inv, (opv_rep hh hy).int_inv]⟩

/-! ### Bools -/

theorem p_eql_b {p q : Bool} (ht : P.underlying t = some .bool) (hx : opv fr x = some (.bool p)) (hy : opv fr y = some (.bool q)) : Pure P G Y fr st ⟨dst, .binOp .eql t x y t', ty, pos, aft, gd⟩ (.bool (p == q)) := fun M a w hh =>
  ⟨_, .bool _, fun w' _ => by
    simp only [execOp, (opv_rep hh hx).bool_inv, (opv_rep hh hy).bool_inv]
    simp [eqGuard_at_bool, binOp, Op.equal, Op.maxDepth, run_equalIn_bool' w' 9999 t p q ht]⟩
theorem p_neq_b {p q : Bool} (ht : P.underlying t = some .bool) (hx : opv fr x = some (.bool p)) (hy : opv fr y = some (.bool q)) : Pure P G Y fr st ⟨dst, .binOp .neq t x y t', ty, pos, aft, gd⟩ (.bool (p != q)) := fun M a w hh =>
  ⟨_, .bool _, fun w' _ => by
    simp only [execOp, (opv_rep hh hx).bool_inv, (opv_rep hh hy).bool_inv]
    simp [eqGuard_at_bool, binOp, Op.equal, Op.maxDepth, run_equalIn_bool' w' 9999 t p q ht]
    cases p <;> cases q <;> rfl⟩

/-! ### Loads -/

theorem run_loadVar_one {t : TypeId} (hs : aggSize P t = some none) {ad : Addr} {v : Value} {w : World} (hc : w.cell? ad = some v) : (loadVar t ad).run P w = .ok v w := by
  unfold aggSize at hs
  split at hs
  · cases hi : P.info? t <;> simp [hi] at hs
  · cases hi : P.info? t <;> simp [hi] at hs
  · rename_i d h1 h2 hu
    have : (isAgg t).run P w = .ok false w := by
      unfold isAgg
      simp only [Sem.run_bind, run_underlying hu, Result.andThen_ok]
      cases d <;> first | rfl | (exact absurd hu (h1 _)) | (exact absurd hu (h2 _ _))
    simp [loadVar, this, hc]
  · cases hs

theorem run_loadVar_many {t : TypeId} {n : Nat} (hs : aggSize P t = some (some n)) {ad : Addr} {f : Nat → Value} {w : World} (hc : ∀ j, j < n → w.cell? (ad.add j) = some (f j)) : (loadVar t ad).run P w = .ok (.agg ((List.range n).map f).toArray) w := by
  unfold aggSize at hs
  have key : ∀ d, P.underlying t = some d → (match d with | .struct _ | .array _ _ => true | _ => false) = true → ∀ i, P.info? t = some i → i.size = n → (loadVar t ad).run P w = .ok (.agg ((List.range n).map f).toArray) w := by
    intro d hu hd i hi hn
    have : (isAgg t).run P w = .ok true w := by
      unfold isAgg
      simp only [Sem.run_bind, run_underlying hu, Result.andThen_ok]
      cases d <;> first | rfl | (simp at hd)
    subst hn
    simp only [loadVar, Sem.run_bind, this, Result.andThen_ok, if_true, sizeOf, typeInfo, run_program, hi, Sem.run_pure, run_loadCells w ad i.size f hc]
  split at hs
  · rename_i fs hu
    cases hi : P.info? t with
    | none => simp [hi] at hs
    | some i => simp [hi] at hs; exact key _ hu rfl i hi hs
  · rename_i l e hu
    cases hi : P.info? t with
    | none => simp [hi] at hs
    | some i => simp [hi] at hs; exact key _ hu rfl i hi hs
  · split at hs <;> cases hs
  · cases hs

theorem cell_of_heap {w : World} {b o : Nat} {cs : Array Value} {t : TypeId} {f : Nat × Nat} (h : w.heap[b]? = some (.cells cs t f)) (ho : o < cs.size) : w.cell? ⟨b, o, none⟩ = some (cs.getD o undef) := by
  rw [cell_of_row w b o cs t f h]
  simp [ho]

theorem p_load_box {ld : TypeId} {b off : Nat} {cells : List AV} {rest : Store} {av : AV} {Xl : List Nat} (hs : aggSize P ld = some none) (hx : opv fr x = some (.ptr b off)) (hp : Pick st b (.box cells) rest) (hc : cells[off]? = some av)
    (hX : ∀ z ∈ Xl, z ∈ keys rest) : Pure P G (Keep Xl) fr st ⟨dst, .load ld x, ty, pos, aft, gd⟩ av := fun M a w h => by
  obtain ⟨cs, t, h1, h2, h3⟩ := h.sim.ent _ _ hp.mem
  have hlt : off < cs.size := by rw [h2]; exact (List.getElem?_eq_some_iff.1 hc).1
  refine ⟨cs.getD off undef, h3 off av hc, fun w' hw' => ?_⟩
  have h1' : w'.heap[b]? = some (.cells cs t (0, 0)) := (hw' b (heap_lt h1) (fun hb => hp.ne h.sim (hX b hb) rfl)).trans h1
  simp only [execOp, (opv_rep h hx).ptr_inv]
  simp [Instr.loadAt, Instr.sureAddr, run_loadVar_one hs (cell_of_heap h1' hlt)]

theorem p_load_box_agg {ld : TypeId} {b off n : Nat} {cells cs' : List AV} {rest : Store} {Xl : List Nat} (hs : aggSize P ld = some (some n)) (hx : opv fr x = some (.ptr b off)) (hp : Pick st b (.box cells) rest)
    (hc : (cells.drop off).take n = cs') (hl : cs'.length = n) (hX : ∀ z ∈ Xl, z ∈ keys rest) : Pure P G (Keep Xl) fr st ⟨dst, .load ld x, ty, pos, aft, gd⟩ (.agg cs') := fun M a w h => by
  obtain ⟨cs, t, h1, h2, h3⟩ := h.sim.ent _ _ hp.mem
  have hlen : off + n ≤ cells.length ∨ n = 0 := by
    subst hc
    simp only [List.length_take, List.length_drop] at hl
    omega
  refine ⟨.agg ((List.range n).map fun j => cs.getD (off + j) undef).toArray, .agg _ _ (by simp [hl]) (fun i av hi => ?_), fun w' hw' => ?_⟩
  · have hin : i < n := by rw [← hl]; exact (List.getElem?_eq_some_iff.1 hi).1
    have : cells[off + i]? = some av := by
      rw [← hc, List.getElem?_take, List.getElem?_drop] at hi
      simpa [hin] using hi
    have h4 := h3 (off + i) av this
    simpa [Array.getD, hin] using h4
  · have h1' : w'.heap[b]? = some (.cells cs t (0, 0)) := (hw' b (heap_lt h1) (fun hb => hp.ne h.sim (hX b hb) rfl)).trans h1
    simp only [execOp, (opv_rep h hx).ptr_inv]
    have := run_loadVar_many (P := P) hs (ad := ⟨b, off, none⟩) (f := fun j => cs.getD (off + j) undef) (w := w') (fun j hj => by
      rw [Addr.add_lit]
      exact cell_of_heap h1' (by omega))
    simp [Instr.loadAt, Instr.sureAddr, this]

/-- The whole block. -/
theorem p_load_box_all {ld : TypeId} {b n : Nat} {cells : List AV} {rest : Store} {Xl : List Nat} (hs : aggSize P ld = some (some n)) (hx : opv fr x = some (.ptr b 0)) (hp : Pick st b (.box cells) rest)
    (hl : cells.length = n) (hX : ∀ z ∈ Xl, z ∈ keys rest) : Pure P G (Keep Xl) fr st ⟨dst, .load ld x, ty, pos, aft, gd⟩ (.agg cells) :=
  p_load_box_agg hs hx hp (by simp [← hl]) hl hX

theorem p_load_v {ld : TypeId} {row : List AV} {av : AV} {Xl : List Nat} (hs : aggSize P ld = some none) (hx : opv fr x = some (.vptr row)) (hc : row[0]? = some av)
    (hX : ∀ z ∈ Xl, z ∈ keys st) : Pure P G (Keep Xl) fr st ⟨dst, .load ld x, ty, pos, aft, gd⟩ av := fun M a w h => by
  have hr := opv_rep h hx
  generalize hv : a.eval x = v at hr
  cases hr with
  | vptr b o _ cs hM hcell hrep =>
    have h1 := hcell 0 av hc
    refine ⟨cs 0, hrep 0 av hc, fun w' hw' => ?_⟩
    have hk : b ∉ Xl := fun hb => by
      obtain ⟨e, he⟩ := of_mem_keys (hX b hb)
      exact h.sim.notM b e he hM
    have h1' : w'.cell? ⟨b, o, none⟩ = some (cs 0) := by
      rw [World.cell?_of_block (w := w) (hw' b (h.sim.lt b hM) hk)]; exact h1
    simp only [execOp, hv]
    simp [Instr.loadAt, Instr.sureAddr, run_loadVar_one hs h1']

theorem p_load_v_agg {ld : TypeId} {n : Nat} {row cs' : List AV} {Xl : List Nat} (hs : aggSize P ld = some (some n)) (hx : opv fr x = some (.vptr row)) (hc : row.take n = cs') (hl : cs'.length = n)
    (hX : ∀ z ∈ Xl, z ∈ keys st) : Pure P G (Keep Xl) fr st ⟨dst, .load ld x, ty, pos, aft, gd⟩ (.agg cs') := fun M a w h => by
  have hr := opv_rep h hx
  generalize hv : a.eval x = v at hr
  cases hr with
  | vptr b o _ cs hM hcell hrep =>
    have hrow : ∀ j, j < n → ∃ av, row[j]? = some av := fun j hj => by
      have : j < row.length := by subst hc; simp at hl; omega
      exact ⟨_, List.getElem?_eq_getElem this⟩
    refine ⟨.agg ((List.range n).map cs).toArray, .agg _ _ (by simp [hl]) (fun i av hi => ?_), fun w' hw' => ?_⟩
    · have hin : i < n := by rw [← hl]; exact (List.getElem?_eq_some_iff.1 hi).1
      have : row[i]? = some av := by
        rw [← hc, List.getElem?_take] at hi
        simpa [hin] using hi
      have h4 := hrep i av this
      simpa [Array.getD, hin] using h4
    · have hk : b ∉ Xl := fun hb => by
        obtain ⟨e, he⟩ := of_mem_keys (hX b hb)
        exact h.sim.notM b e he hM
      simp only [execOp, hv]
      have := run_loadVar_many (P := P) hs (ad := ⟨b, o, none⟩) (f := cs) (w := w') (fun j hj => by
        rw [Addr.add_lit]
        obtain ⟨av, hav⟩ := hrow j hj
        rw [World.cell?_of_block (w := w) (hw' b (h.sim.lt b hM) hk)]
        exact hcell j av hav)
      simp [Instr.loadAt, Instr.sureAddr, this]

theorem p_load_v_all {ld : TypeId} {n : Nat} {row : List AV} {Xl : List Nat} (hs : aggSize P ld = some (some n)) (hx : opv fr x = some (.vptr row)) (hl : row.length = n)
    (hX : ∀ z ∈ Xl, z ∈ keys st) : Pure P G (Keep Xl) fr st ⟨dst, .load ld x, ty, pos, aft, gd⟩ (.agg row) := p_load_v_agg hs hx (by simp [← hl]) hl hX

theorem p_load_e {ld te : TypeId} {s b i off : Nat} {rows : List (List AV)} {row : List AV} {rest : Store} {av : AV} {Xl : List Nat} (hs : aggSize P ld = some none) (hx : opv fr x = some (.eptr s b i off)) (hp : Pick st b (.arr te s rows) rest)
    (hr : rows[i]? = some row) (hc : row[off]? = some av) (hX : ∀ z ∈ Xl, z ∈ keys rest) : Pure P G (Keep Xl) fr st ⟨dst, .load ld x, ty, pos, aft, gd⟩ av := fun M a w h => by
  obtain ⟨cs, h1, h2, hs0, h4, h5⟩ := h.sim.ent _ _ hp.mem
  have hi := (List.getElem?_eq_some_iff.1 hr).1
  have ho : off < s := by rw [← h4 i row hr]; exact (List.getElem?_eq_some_iff.1 hc).1
  have hlt : i * s + off < cs.size := by
    have : (i + 1) * s ≤ rows.length * s := Nat.mul_le_mul_right _ hi
    rw [Nat.add_mul] at this
    omega
  refine ⟨cs.getD (i * s + off) undef, h5 i row off av hr hc, fun w' hw' => ?_⟩
  have h1' : w'.heap[b]? = some (.cells cs te (0, 0)) := (hw' b (heap_lt h1) (fun hb => hp.ne h.sim (hX b hb) rfl)).trans h1
  simp only [execOp, (opv_rep h hx).eptr_inv]
  simp [Instr.loadAt, Instr.sureAddr, run_loadVar_one hs (cell_of_heap h1' hlt)]

theorem p_load_e_all {ld te : TypeId} {s b i : Nat} {rows : List (List AV)} {row : List AV} {rest : Store} {Xl : List Nat} (hs : aggSize P ld = some (some s)) (hx : opv fr x = some (.eptr s b i 0)) (hp : Pick st b (.arr te s rows) rest)
    (hr : rows[i]? = some row) (hX : ∀ z ∈ Xl, z ∈ keys rest) : Pure P G (Keep Xl) fr st ⟨dst, .load ld x, ty, pos, aft, gd⟩ (.agg row) := fun M a w h => by
  obtain ⟨cs, h1, h2, hs0, h4, h5⟩ := h.sim.ent _ _ hp.mem
  have hi := (List.getElem?_eq_some_iff.1 hr).1
  have hle : (i + 1) * s ≤ cs.size := Nat.le_trans (Nat.mul_le_mul_right _ hi) h2
  rw [Nat.add_mul, Nat.one_mul] at hle
  refine ⟨.agg ((List.range s).map fun j => cs.getD (i * s + j) undef).toArray, .agg _ _ (by simp [h4 i row hr]) (fun j av hj => ?_), fun w' hw' => ?_⟩
  · have hjs : j < s := by rw [← h4 i row hr]; exact (List.getElem?_eq_some_iff.1 hj).1
    have := h5 i row j av hr hj
    simpa [Array.getD, hjs] using this
  · have h1' : w'.heap[b]? = some (.cells cs te (0, 0)) := (hw' b (heap_lt h1) (fun hb => hp.ne h.sim (hX b hb) rfl)).trans h1
    simp only [execOp, (opv_rep h hx).eptr_inv]
    have := run_loadVar_many (P := P) hs (ad := ⟨b, i * s + 0, none⟩) (f := fun j => cs.getD (i * s + j) undef) (w := w') (fun j hj => by
      rw [Addr.add_lit]
      exact cell_of_heap h1' (by omega))
    simp only [Nat.add_zero] at this ⊢
    simp [Instr.loadAt, Instr.sureAddr, this]

end
end Go.Fw
