/-
  The framework, part A: abstract values, what they say of a world, and how a world may change. It holds for every program. Condition: none.
-/
import Derived.Calls
import Derived.Tactics
import Derived.OrdersHeld
import Derived.Below
import Derived.Laws.Rows
import Derived.Laws.AppendOwn
import Derived.Laws.MakeOwn
import Derived.Laws.StructEq
import Derived.Laws.Slices
import Derived.Laws.Build
import Derived.Laws.NewBlocks
import Derived.KernelRfl
namespace Go.Fw
open Go

/-- An abstract value: what is known of a value. Slices that nobody writes are told by value. -/
inductive AV where
  | any
  | int (k : IntKind) (n : Int)
  | bool (b : Bool)
  | nil
  | sl (rows : List (List AV))
  | own (s b off len : Nat)
  | ptr (b off : Nat)
  | eptr (s b i off : Nat)
  | vptr (row : List AV)
  | agg (cs : List AV)
  | tup (vs : List AV)
  | fn (f : FuncId) (cap : List AV)

/-- What a block of the call's own holds. -/
inductive Entry where
  | box (cells : List AV)
  | arr (t : TypeId) (s : Nat) (rows : List (List AV))

abbrev Store := List (Nat × Entry)
abbrev Fr := List (Nat × AV)

def bsize (w : World) (b : Nat) : Option Nat := (w.shape? b).map (·.2)

inductive Rep (M : Nat → Prop) (w : World) : Value → AV → Prop
  | any (v : Value) : Rep M w v .any
  | int (k : IntKind) (n : Int) : Rep M w (.int k n) (.int k n)
  | bool (b : Bool) : Rep M w (.bool b) (.bool b)
  | nil (a : Option Addr) : Rep M w (.slice a 0 0) .nil
  | sl0 (a : Option Addr) (c : Nat) : Rep M w (.slice a 0 c) (.sl [])
  | sl (b off c s : Nat) (rows : List (List AV)) (cs : Nat → Nat → Value) (hM : M b) (hc : rows.length ≤ c)
      (hrow : ∀ (i : Nat) row, rows[i]? = some row → row.length = s)
      (hcell : ∀ (i : Nat) row (j : Nat) av, rows[i]? = some row → row[j]? = some av → w.cell? ⟨b, off + i * s + j, none⟩ = some (cs i j))
      (hrep : ∀ (i : Nat) row (j : Nat) av, rows[i]? = some row → row[j]? = some av → Rep M w (cs i j) av) : Rep M w (.slice (some ⟨b, off, none⟩) rows.length c) (.sl rows)
  | own (s b off len c n : Nat) (hs : bsize w b = some n) (hn : n = (off + c) * s) (hl : len ≤ c) (hc : off + c ≤ maxLen) : Rep M w (.slice (some ⟨b, off * s, none⟩) len c) (.own s b off len)
  | ptr (b off : Nat) : Rep M w (.pointer (some ⟨b, off, none⟩)) (.ptr b off)
  | eptr (s b i off : Nat) : Rep M w (.pointer (some ⟨b, i * s + off, none⟩)) (.eptr s b i off)
  | vptr (b o : Nat) (row : List AV) (cs : Nat → Value) (hM : M b)
      (hcell : ∀ (j : Nat) av, row[j]? = some av → w.cell? ⟨b, o + j, none⟩ = some (cs j))
      (hrep : ∀ (j : Nat) av, row[j]? = some av → Rep M w (cs j) av) : Rep M w (.pointer (some ⟨b, o, none⟩)) (.vptr row)
  | agg (arr : Array Value) (avs : List AV) (hl : arr.size = avs.length) (h : ∀ (i : Nat) av, avs[i]? = some av → Rep M w (arr.getD i undef) av) : Rep M w (.agg arr) (.agg avs)
  | tup (arr : Array Value) (avs : List AV) (hl : arr.size = avs.length) (h : ∀ (i : Nat) av, avs[i]? = some av → Rep M w (arr.getD i undef) av) : Rep M w (.tuple arr) (.tup avs)
  | fn (f : FuncId) (arr : Array Value) (avs : List AV) (hl : arr.size = avs.length) (h : ∀ (i : Nat) av, avs[i]? = some av → Rep M w (arr.getD i undef) av) : Rep M w (.func (.func f) #[] arr) (.fn f avs)

/-- How a world may change, but for the blocks in T. -/
structure Tr (T : List Nat) (w w' : World) : Prop where
  os : w'.os = w.os
  tape : w'.tape = w.tape
  output : w'.output = w.output
  size : w.heap.size ≤ w'.heap.size
  same : ∀ b, b < w.heap.size → b ∉ T → w'.heap[b]? = w.heap[b]?
  bs : ∀ b, b < w.heap.size → bsize w' b = bsize w b

theorem Tr.refl (T : List Nat) (w : World) : Tr T w w := ⟨rfl, rfl, rfl, Nat.le_refl _, fun _ _ _ => rfl, fun _ _ => rfl⟩

theorem Tr.trans {T T' : List Nat} {a b c : World} (h : Tr T a b) (k : Tr T' b c) (hT : ∀ x ∈ T', x ∈ T ∨ a.heap.size ≤ x) : Tr T a c :=
  ⟨k.os.trans h.os, k.tape.trans h.tape, k.output.trans h.output, Nat.le_trans h.size k.size, fun x hx hn =>
    (k.same x (Nat.lt_of_lt_of_le hx h.size) (fun hx' => by rcases hT x hx' with h1 | h1; exact hn h1; omega)).trans (h.same x hx hn),
    fun x hx => (k.bs x (Nat.lt_of_lt_of_le hx h.size)).trans (h.bs x hx)⟩

theorem Tr.trans' {T : List Nat} {a b c : World} (h : Tr T a b) (k : Tr T b c) : Tr T a c := h.trans k fun _ hx => .inl hx
theorem Tr.trans0 {T : List Nat} {a b c : World} (h : Tr T a b) (k : Tr [] b c) : Tr T a c := h.trans k fun _ hx => by cases hx

theorem Tr.weaken {T T' : List Nat} {a b : World} (h : Tr T a b) (hT : ∀ x ∈ T, x ∈ T') : Tr T' a b :=
  ⟨h.os, h.tape, h.output, h.size, fun x hx hn => h.same x hx (fun h' => hn (hT x h')), h.bs⟩

theorem bsize_lt {w : World} {b n : Nat} (h : bsize w b = some n) : b < w.heap.size := by
  unfold bsize World.shape? at h
  rcases Nat.lt_or_ge b w.heap.size with h' | h'
  · exact h'
  · simp [Array.getElem?_eq_none h'] at h

theorem bsize_of {w : World} {b : Nat} {cs : Array Value} {t : TypeId} {f : Nat × Nat} (h : w.heap[b]? = some (.cells cs t f)) : bsize w b = some cs.size := by
  simp [bsize, World.shape?, h]

theorem heap_lt {w : World} {b : Nat} {o : Obj} (h : w.heap[b]? = some o) : b < w.heap.size := by
  rcases Nat.lt_or_ge b w.heap.size with h' | h'
  · exact h'
  · simp [Array.getElem?_eq_none h'] at h

/-- What is told of a value stays, if the blocks that nobody writes stay, and no block of cells changes its size. -/
theorem Rep.mono {M M' : Nat → Prop} {w w' : World} (hM : ∀ b, M b → M' b) (hs : ∀ b, M b → w'.heap[b]? = w.heap[b]?) (hb : ∀ b, b < w.heap.size → bsize w' b = bsize w b)
    {v : Value} {a : AV} (h : Rep M w v a) : Rep M' w' v a := by
  induction h with
  | any v => exact .any v
  | int k n => exact .int k n
  | bool b => exact .bool b
  | nil a => exact .nil a
  | sl0 a c => exact .sl0 a c
  | sl b off c s rows cs h1 hc hrow hcell _ ih => exact .sl b off c s rows cs (hM _ h1) hc hrow (fun i row j av hi hj => by
      rw [World.cell?_of_block (w := w) (hs b h1)]; exact hcell i row j av hi hj) ih
  | own s b off len c n h1 hn hl hc => exact .own s b off len c n ((hb b (bsize_lt h1)).trans h1) hn hl hc
  | ptr b off => exact .ptr b off
  | eptr s b i off => exact .eptr s b i off
  | vptr b o row cs h1 hcell _ ih => exact .vptr b o row cs (hM _ h1) (fun j av hj => by
      rw [World.cell?_of_block (w := w) (hs b h1)]; exact hcell j av hj) ih
  | agg arr avs hl _ ih => exact .agg arr avs hl ih
  | tup arr avs hl _ ih => exact .tup arr avs hl ih
  | fn f arr avs hl _ ih => exact .fn f arr avs hl ih

/-- What a block of the call's own holds, in a world. -/
def ERep (M : Nat → Prop) (w : World) (b : Nat) : Entry → Prop
  | .box cells => ∃ cs t, w.heap[b]? = some (.cells cs t (0, 0)) ∧ cs.size = cells.length ∧ ∀ (i : Nat) av, cells[i]? = some av → Rep M w (cs.getD i undef) av
  | .arr t s rows => ∃ cs, w.heap[b]? = some (.cells cs t (0, 0)) ∧ rows.length * s ≤ cs.size ∧ 0 < s ∧ (∀ (i : Nat) row, rows[i]? = some row → row.length = s) ∧
      ∀ (i : Nat) row (j : Nat) av, rows[i]? = some row → row[j]? = some av → Rep M w (cs.getD (i * s + j) undef) av

theorem ERep.mono {M M' : Nat → Prop} {w w' : World} (hM : ∀ b, M b → M' b) (hs : ∀ b, M b → w'.heap[b]? = w.heap[b]?) (hb : ∀ b, b < w.heap.size → bsize w' b = bsize w b)
    {b : Nat} {e : Entry} (hbb : w'.heap[b]? = w.heap[b]?) (h : ERep M w b e) : ERep M' w' b e := by
  cases e with
  | box cells =>
    obtain ⟨cs, t, h1, h2, h3⟩ := h
    exact ⟨cs, t, hbb.trans h1, h2, fun i av hi => (h3 i av hi).mono hM hs hb⟩
  | arr t s rows =>
    obtain ⟨cs, h1, h2, h3, h4, h5⟩ := h
    exact ⟨cs, hbb.trans h1, h2, h3, h4, fun i row j av hi hj => (h5 i row j av hi hj).mono hM hs hb⟩

theorem ERep.lt {M : Nat → Prop} {w : World} {b : Nat} {e : Entry} (h : ERep M w b e) : b < w.heap.size := by
  cases e with
  | box cells => obtain ⟨cs, t, h1, _⟩ := h; exact heap_lt h1
  | arr t s rows => obtain ⟨cs, h1, _⟩ := h; exact heap_lt h1

def keys (st : Store) : List Nat := st.map (·.1)

structure Sim (M : Nat → Prop) (w : World) (st : Store) : Prop where
  nodup : (keys st).Nodup
  ent : ∀ b e, (b, e) ∈ st → ERep M w b e
  notM : ∀ b e, (b, e) ∈ st → ¬ M b
  lt : ∀ b, M b → b < w.heap.size

theorem mem_keys {st : Store} {b : Nat} {e : Entry} (h : (b, e) ∈ st) : b ∈ keys st := List.mem_map.2 ⟨_, h, rfl⟩
theorem of_mem_keys {st : Store} {b : Nat} (h : b ∈ keys st) : ∃ e, (b, e) ∈ st := by
  obtain ⟨⟨b', e⟩, h1, h2⟩ := List.mem_map.1 h
  exact ⟨e, h2 ▸ h1⟩

/-- Where the world changes in no block that is spoken of, all stays. -/
theorem Sim.tr {M : Nat → Prop} {w w' : World} {st : Store} (h : Sim M w st) {T : List Nat} (t : Tr T w w') (hT : ∀ x ∈ T, ¬ M x ∧ x ∉ keys st) : Sim M w' st :=
  ⟨h.nodup, fun b e hb => (h.ent b e hb).mono (fun _ h => h) (fun x hx => t.same x (h.lt x hx) (fun hx' => (hT x hx').1 hx)) t.bs
    (t.same b (h.ent b e hb).lt (fun hx' => (hT b hx').2 (mem_keys hb))), h.notM, fun b hb => Nat.lt_of_lt_of_le (h.lt b hb) t.size⟩

def look : Fr → Nat → Option AV
  | [], _ => none
  | (k, v) :: l, s => cond (Nat.beq k s) (some v) (look l s)

theorem beq_ne {k s : Nat} (h : k ≠ s) : Nat.beq k s = false := by
  cases hb : Nat.beq k s with
  | false => rfl
  | true => exact absurd (Nat.eq_of_beq_eq_true hb) h

theorem look_cons_self (k : Nat) (v : AV) (l : Fr) : look ((k, v) :: l) k = some v := by simp [look]
theorem look_cons_ne {k s : Nat} (v : AV) (l : Fr) (h : k ≠ s) : look ((k, v) :: l) s = look l s := by
  simp [look, beq_ne h]

/-- The frame of slots. -/
def FrRep (M : Nat → Prop) (w : World) (tmps : Array Value) (fr : Fr) : Prop :=
  ∀ s av, look fr s = some av → s < tmps.size ∧ Rep M w (tmps.getD s undef) av

/-- What is fixed while one call runs: the world in which it began, the blocks that nobody writes, the blocks that it may write, the number of slots. -/
structure Gh where
  w0 : World
  M0 : Nat → Prop
  T0 : List Nat
  n : Nat

structure StM (G : Gh) (M : Nat → Prop) (fr : Fr) (st : Store) (a : Act) (w : World) : Prop where
  size : a.tmps.size = G.n
  defers : a.defers = []
  tr : Tr G.T0 G.w0 w
  m0 : ∀ b, G.M0 b → M b
  m1 : ∀ b, M b → G.M0 b ∨ b ∈ G.T0 ∨ G.w0.heap.size ≤ b
  k1 : ∀ b, b ∈ keys st → b ∈ G.T0 ∨ G.w0.heap.size ≤ b
  fr : FrRep M w a.tmps fr
  sim : Sim M w st

def St (G : Gh) (fr : Fr) (st : Store) (a : Act) (w : World) : Prop := ∃ M, StM G M fr st a w

/-- A call of function f, at abstract arguments, the blocks of 'st' being its to write: it returns, and R holds of the abstract result and of the blocks that are its caller's afterwards. -/
def ACalls (P : Program) (f : FuncId) (args : List AV) (st : Store) (R : AV → Store → Prop) : Prop :=
  ∀ (M : Nat → Prop) (w : World) (vs : Array Value), Sim M w st → vs.size = args.length → (∀ (i : Nat) av, args[i]? = some av → Rep M w (vs.getD i undef) av) →
    Calls P f vs w fun e w' => ∃ v r st' M', e = .returned v ∧ R r st' ∧ Rep M' w' v r ∧ Sim M' w' st' ∧ Tr (keys st) w w' ∧ (∀ b, M b → M' b) ∧
      (∀ b, M' b → M b ∨ b ∈ keys st ∨ w.heap.size ≤ b) ∧ (∀ b, b ∈ keys st' → b ∈ keys st ∨ w.heap.size ≤ b)

theorem ACalls.mono {P : Program} {f : FuncId} {args : List AV} {st : Store} {R R' : AV → Store → Prop} (h : ACalls P f args st R) (hR : ∀ r st', R r st' → R' r st') : ACalls P f args st R' :=
  fun M w vs h1 h2 h3 => (h M w vs h1 h2 h3).mono fun _ _ ⟨v, r, st', M', e1, e2, e3⟩ => ⟨v, r, st', M', e1, hR _ _ e2, e3⟩

/-- What may stand behind a piece of code. -/
abbrev Post := Exit → Fr → Store → Prop

def Lift (G : Gh) (Q : Post) : Exit → Act → World → Prop := fun e a w => ∃ fr st, Q e fr st ∧ St G fr st a w

def awp (P : Program) (G : Gh) (c : Code) (Q : Post) (fr : Fr) (st : Store) : Prop :=
  ∀ a w, St G fr st a w → c.wp P (Lift G Q) a w

def thenQ (K : Fr → Store → Prop) (Q : Post) : Post
  | .normal, fr, st => K fr st
  | e, fr, st => Q e fr st

def blockQ (id : Nat) (Q : Post) : Post
  | .exit id', fr, st => cond (Nat.beq id' id) (Q .normal fr st) (Q (.exit id') fr st)
  | e, fr, st => Q e fr st

section
variable {P : Program} {G : Gh} {Q : Post} {fr : Fr} {st : Store}

theorem a_mono {c : Code} {Q' : Post} (h : awp P G c Q fr st) (hq : ∀ e fr st, Q e fr st → Q' e fr st) : awp P G c Q' fr st :=
  fun a w hs => wp_mono (h a w hs) fun _ _ _ ⟨fr', st', q, s⟩ => ⟨fr', st', hq _ _ _ q, s⟩

theorem a_seq {x y : Code} (h : awp P G x (thenQ (awp P G y Q) Q) fr st) : awp P G (.seq x y) Q fr st := fun a w hs => by
  refine wp_seq (wp_mono (h a w hs) ?_)
  rintro e a' w' ⟨fr', st', q, s⟩
  cases e with
  | normal => exact q a' w' s
  | _ => exact ⟨fr', st', q, s⟩

theorem a_skip (h : Q .normal fr st) : awp P G .skip Q fr st := fun _ _ hs => wp_skip ⟨fr, st, h, hs⟩
theorem a_ret (h : Q .ret fr st) : awp P G .ret Q fr st := fun _ _ hs => wp_ret ⟨fr, st, h, hs⟩
theorem a_exit {id : Nat} (h : Q (.exit id) fr st) : awp P G (.exit id) Q fr st := fun _ _ hs => wp_exit ⟨fr, st, h, hs⟩

theorem a_block {id : Nat} {c : Code} (h : awp P G c (blockQ id Q) fr st) : awp P G (.block id c) Q fr st := fun a w hs => by
  refine wp_block (wp_mono (h a w hs) ?_)
  rintro e a' w' ⟨fr', st', q, s⟩
  cases e with
  | exit id' =>
    simp only [blockQ] at q
    simp only [Exit.inBlock]
    by_cases hid : id' = id
    · subst hid; simp at q; simp; exact ⟨fr', st', q, s⟩
    · rw [if_neg hid]; rw [beq_ne hid] at q; exact ⟨fr', st', q, s⟩
  | _ => exact ⟨fr', st', q, s⟩

theorem a_cond {t : Nat} {x y : Code} {b : Bool} (hl : look fr t = some (.bool b)) (ht : b = true → awp P G x Q fr st) (hf : b = false → awp P G y Q fr st) : awp P G (.cond (.tmp t) x y) Q fr st := fun a w hs => by
  obtain ⟨M, hM⟩ := hs
  have hr := (hM.fr t _ hl).2
  have he : a.eval (.tmp t) = .bool b := by
    generalize hv : a.tmps.getD t undef = v at hr
    cases hr
    exact hv
  exact wp_cond_split he (fun h => ht h a w ⟨M, hM⟩) (fun h => hf h a w ⟨M, hM⟩)

theorem a_cond_t {t : Nat} {x y : Code} (hl : look fr t = some (.bool true)) (h : awp P G x Q fr st) : awp P G (.cond (.tmp t) x y) Q fr st := a_cond hl (fun _ => h) (fun h => by cases h)
theorem a_cond_f {t : Nat} {x y : Code} (hl : look fr t = some (.bool false)) (h : awp P G y Q fr st) : awp P G (.cond (.tmp t) x y) Q fr st := a_cond hl (fun h => by cases h) (fun _ => h)

/-- Less may be known. -/
theorem a_less {c : Code} {fr' : Fr} {st' : Store} (h : awp P G c Q fr' st') (hs : ∀ a w, St G fr st a w → St G fr' st' a w) : awp P G c Q fr st := fun a w h' => h a w (hs a w h')

end
end Go.Fw
