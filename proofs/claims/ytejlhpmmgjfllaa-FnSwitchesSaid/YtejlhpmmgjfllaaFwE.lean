/-
  The framework, part E: literals, make, append, slices of slices, calls, a function's beginning and end, loops. It holds for every program. Condition: none.
-/
import Derived.Test.YtejlhpmmgjfllaaFwD
namespace Go.Fw
open Go

section
variable {P : Program} {G : Gh} {Y : World → World → Prop} {X : Option (List Nat × List Nat)} {K : Fr → Store → Prop} {M : Nat → Prop} {fr : Fr} {st : Store} {a : Act} {w : World}
variable {dst : Option Tmp} {ty : TypeId} {pos : String} {aft : Array Edge} {gd : Option (Nat × Bool)}

/-! ### Struct and slice literals -/

/-- The cells of a literal: its parts laid over the zero cells. -/
def fillA (place : Nat → Option (Nat × Nat)) (cells : List AV) : List (Nat × AV) → Option (List AV)
  | [] => some cells
  | (i, v) :: rest =>
    match place i, cellsOf v with
    | some (off, size), some cs => bif Nat.beq cs.length size && Nat.ble (off + cs.length) cells.length then fillA place (segSet cells off cs) rest else none
    | _, _ => none

theorem fold_size (vs : List Value) (off : Nat) : ∀ (k : Nat) (arr : Array Value), ((vs.zipIdx k).foldl (fun (cs : Array Value) (x : Value × Nat) => cs.setIfInBounds (off + x.2) x.1) arr).size = arr.size := by
  induction vs with
  | nil => intro k arr; rfl
  | cons v vs ih => intro k arr; simp only [List.zipIdx_cons, List.foldl_cons]; rw [ih]; simp

theorem fold_get (vs : List Value) (off : Nat) : ∀ (k : Nat) (arr : Array Value) (i : Nat), off + k + vs.length ≤ arr.size →
    ((vs.zipIdx k).foldl (fun (cs : Array Value) (x : Value × Nat) => cs.setIfInBounds (off + x.2) x.1) arr)[i]? = if off + k ≤ i ∧ i < off + k + vs.length then vs[i - (off + k)]? else arr[i]? := by
  induction vs with
  | nil => intro k arr i _; simp; omega
  | cons v vs ih =>
    intro k arr i h
    simp only [List.zipIdx_cons, List.foldl_cons, List.length_cons] at h ⊢
    rw [ih (k + 1) _ i (by simp; omega)]
    by_cases h1 : i = off + k
    · subst h1
      rw [if_neg (by omega), if_pos (by omega), Array.getElem?_setIfInBounds_self_of_lt (by omega)]
      simp
    · by_cases h2 : off + (k + 1) ≤ i ∧ i < off + (k + 1) + vs.length
      · rw [if_pos h2, if_pos (by omega)]
        rw [show i - (off + k) = (i - (off + (k + 1))) + 1 by omega]
        simp
      · rw [if_neg h2, if_neg (by omega), Array.getElem?_setIfInBounds_ne (by omega)]

def CRep (M : Nat → Prop) (w : World) (arr : Array Value) (cells : List AV) : Prop := arr.size = cells.length ∧ ∀ (i : Nat) av, cells[i]? = some av → Rep M w (arr.getD i undef) av

def PRep (M : Nat → Prop) (w : World) : List (Nat × Value) → List (Nat × AV) → Prop
  | [], [] => True
  | (i, v) :: l, (j, av) :: l' => i = j ∧ Rep M w v av ∧ PRep M w l l'
  | _, _ => False

theorem fill_rep {place : Nat → Option (Nat × Nat)} : ∀ (ps : List (Nat × Value)) (as : List (Nat × AV)) (arr : Array Value) (cells cells' : List AV), PRep M w ps as → CRep M w arr cells → fillA place cells as = some cells' →
    ∃ arr', Instr.fill place arr ps = some arr' ∧ CRep M w arr' cells'
  | [], [], arr, cells, cells', _, hc, hf => by cases hf; exact ⟨arr, rfl, hc⟩
  | (i, v) :: ps, (j, av) :: as, arr, cells, cells', hp, hc, hf => by
    obtain ⟨rfl, hv, hps⟩ := hp
    unfold fillA at hf
    split at hf <;> try contradiction
    rename_i off size cs hpl hcs
    cases hcond : (Nat.beq cs.length size && Nat.ble (off + cs.length) cells.length) with
    | false => rw [hcond] at hf; cases hf
    | true =>
      rw [hcond] at hf
      simp only [Bool.and_eq_true] at hcond
      have e1 : cs.length = size := Nat.eq_of_beq_eq_true hcond.1
      have e2 : off + cs.length ≤ cells.length := Nat.le_of_ble_eq_true hcond.2
      obtain ⟨h1, h2⟩ := cells_rep hv hcs
      have hcr : CRep M w ((v.cells.toList.zipIdx 0).foldl (fun (cs : Array Value) (x : Value × Nat) => cs.setIfInBounds (off + x.2) x.1) arr) (segSet cells off cs) := by
        refine ⟨by rw [fold_size, segSet_len e2, hc.1], fun n av' hn => ?_⟩
        have hg := fold_get v.cells.toList off 0 arr n (by simp; rw [h1, hc.1]; omega)
        have e3 : ∀ (arr : Array Value), arr.getD n undef = (arr[n]?).getD undef := fun arr => by simp [Array.getD_eq_getD_getElem?]
        rw [e3, hg]
        unfold segSet at hn
        rw [splice_get cells cs off n e2] at hn
        simp only [Nat.add_zero, Array.length_toList, h1]
        split
        · rename_i hin
          rw [if_pos hin] at hn
          have := h2 (n - off) av' hn
          simpa [Array.getD_eq_getD_getElem?] using this
        · rename_i hin
          rw [if_neg hin] at hn
          have := hc.2 n av' hn
          simpa [Array.getD_eq_getD_getElem?] using this
      obtain ⟨arr', r1, r2⟩ := fill_rep ps as _ _ cells' hps hcr hf
      refine ⟨arr', ?_, r2⟩
      unfold Instr.fill
      simp only [hpl]
      rw [if_neg (by simp only [Bool.or_eq_true, decide_eq_true_eq]; rw [h1, hc.1]; omega)]
      rw [← r1]
      congr 1
      rw [← Array.foldl_toList]
      simp
  | [], _ :: _, _, _, _, h, _, _ => h.elim
  | _ :: _, [], _, _, _, h, _, _ => h.elim

/-- Where a struct type's fields lie. -/
def placesOf (P : Program) (t : TypeId) : Option (List (Nat × Nat)) :=
  match P.underlying t with
  | some (.struct fs) => fs.toList.mapM fun f => (P.info? f.type).map fun i => (f.offset, i.size)
  | _ => none

def partsA (fr : Fr) : List (Nat × Operand) → Option (List (Nat × AV))
  | [] => some []
  | (i, x) :: l => match opv fr x, partsA fr l with
    | some v, some r => some ((i, v) :: r)
    | _, _ => none

theorem partsA_rep (h : StM G M fr st a w) : ∀ (l : List (Nat × Operand)) (as : List (Nat × AV)), partsA fr l = some as → PRep M w (l.map fun x => (x.1, a.eval x.2)) as
  | [], as, h' => by cases h'; trivial
  | (i, x) :: l, as, h' => by
    unfold partsA at h'
    split at h' <;> try contradiction
    rename_i v r hv hr
    cases h'
    exact ⟨rfl, opv_rep h hv, partsA_rep h l r hr⟩

theorem mapM_run {α β : Type} (f : α → Sem β) (g : α → Option β) (hf : ∀ x y, g x = some y → ∀ w, (f x).run P w = .ok y w) : ∀ (l : List α) (r : List β), l.mapM g = some r → ∀ w, (l.mapM f).run P w = .ok r w
  | [], r, h, w => by simp at h; subst h; rfl
  | x :: l, r, h, w => by
    simp only [List.mapM_cons, Option.bind_eq_bind, Option.bind_eq_some_iff] at h
    obtain ⟨y, hy, r', hr', hh⟩ := h
    simp at hh
    subst hh
    simp only [List.mapM_cons, Sem.run_bind, hf x y hy w, Result.andThen_ok, mapM_run f g hf l r' hr' w, Sem.run_pure]

theorem p_build {t : TypeId} {parts : Array (Nat × Operand)} {as : List (Nat × AV)} {zs cells : List AV} {pl : List (Nat × Nat)} (hz : zeroOf P t = some zs) (hpl : placesOf P t = some pl) (hpa : partsA fr parts.toList = some as)
    (hf : fillA (pl[·]?) zs as = some cells) : Pure P G Y fr st ⟨dst, .build t parts, ty, pos, aft, gd⟩ (.agg cells) := fun M a w h => by
  obtain ⟨z, z0, z1, z2⟩ := run_zeroValue hz
  unfold placesOf at hpl
  split at hpl <;> try contradiction
  rename_i fs hu
  have hpr := partsA_rep h _ _ hpa
  obtain ⟨arr', r1, r2⟩ := fill_rep (place := (pl[·]?)) _ _ _ _ _ hpr ⟨z1, z2 M w⟩ hf
  refine ⟨.agg arr', .agg _ _ r2.1 r2.2, fun w' _ => ?_⟩
  have hm : (fs.mapM fun f => do pure (f.offset, ← sizeOf f.type) : Sem (Array (Nat × Nat))).run P w' = .ok pl.toArray w' := by
    rw [Array.mapM_eq_mapM_toList, Sem.run_map, mapM_run (P := P) (fun f : Field => (do pure (f.offset, ← sizeOf f.type) : Sem (Nat × Nat))) (fun f => (P.info? f.type).map fun i => (f.offset, i.size)) (fun f y hy w => by
      cases hi : P.info? f.type with
      | none => simp [hi] at hy
      | some i => simp [hi] at hy; subst hy; simp [sizeOf, typeInfo, hi]) _ _ hpl w']
    rfl
  simp only [execOp, Instr.build, Sem.run_bind, z0, Result.andThen_ok, run_underlying hu, hm]
  have e1 : (fun x : Nat => pl.toArray[x]?) = fun x : Nat => pl[x]? := by funext i; simp
  have e2 : (parts.map fun x => (x.1, a.eval x.2)).toList = parts.toList.map fun x => (x.1, a.eval x.2) := by simp
  simp only [e1, e2, r1, Sem.run_pure, Result.andThen_ok]

theorem flatten_get {s : Nat} : ∀ (rows : List (List AV)), (∀ r ∈ rows, r.length = s) → ∀ (i : Nat) row (j : Nat) av, rows[i]? = some row → row[j]? = some av → rows.flatten[i * s + j]? = some av
  | [], _, i, row, j, av, hi, _ => by simp at hi
  | r :: rows, h, i, row, j, av, hi, hj => by
    have hr : r.length = s := h r (List.mem_cons_self)
    cases i with
    | zero =>
      simp at hi
      subst hi
      rw [Nat.zero_mul, Nat.zero_add, List.flatten_cons, List.getElem?_append_left (List.getElem?_eq_some_iff.1 hj).1]
      exact hj
    | succ i =>
      simp at hi
      have := flatten_get rows (fun r hr => h r (List.mem_cons_of_mem _ hr)) i row j av hi hj
      rw [List.flatten_cons, List.getElem?_append_right (by rw [Nat.add_mul]; omega), ← this]
      congr 1
      rw [Nat.add_mul]; omega

theorem flatten_len {s : Nat} : ∀ (rows : List (List AV)), (∀ r ∈ rows, r.length = s) → rows.flatten.length = rows.length * s
  | [], _ => by simp
  | r :: rows, h => by
    rw [List.flatten_cons, List.length_append, flatten_len rows (fun r hr => h r (List.mem_cons_of_mem _ hr)), h r (List.mem_cons_self), List.length_cons, Nat.add_mul]
    omega

theorem run_buildSlice {t e : TypeId} {i : TypeInfo} {z : Value} (hu : P.underlying t = some (.slice e)) (hi : P.info? e = some i) (hz : i.zero = some z) {len : Nat} {ps : Array (Nat × Value)} {arr : Array Value} (hb : len * i.size ≤ 2 ^ 24)
    (hf : Instr.fill (fun k => some (k * i.size, i.size)) ((Array.range (len * i.size)).map ((if len * i.size = 0 then #[] else z.cells)[· % (if len * i.size = 0 then #[] else z.cells).size]!)) ps.toList = some arr) :
    (Instr.buildSlice t len ps).run P w = .ok (.slice (some ⟨w.heap.size, 0, none⟩) len len) (w.alloc (.cells arr e)) := by
  have hb' : ¬ (2 ^ 24 < len * i.size) := by omega
  by_cases hn : len * i.size = 0
  · have hf' : Instr.fill (fun k => some (k * i.size, i.size)) #[] ps.toList = some arr := by simpa [hn, Array.range_zero'] using hf
    simp [Instr.buildSlice, run_underlying hu, sizeOf, typeInfo, hi, hn, newRow, hf', Array.range_zero']
  · rw [if_neg hn] at hf
    simp [Instr.buildSlice, run_underlying hu, sizeOf, typeInfo, hi, hb', hn, zeroValue, hz, hf, newRow]

/-- The element type of a slice type, its size, its bytes; that it has a zero value. -/
def elemOfT (P : Program) (t : TypeId) : Option (TypeId × Nat × Nat) :=
  match P.underlying t with
  | some (.slice e) => match P.info? e with
    | some i => match i.zero with
      | some z => bif Nat.beq z.cells.size i.size && Nat.blt 0 i.size then some (e, i.size, i.bytes) else none
      | none => none
    | none => none
  | _ => none

theorem elemOfT_spec {t e : TypeId} {s by' : Nat} (h : elemOfT P t = some (e, s, by')) : ∃ i z, P.underlying t = some (.slice e) ∧ P.info? e = some i ∧ i.zero = some z ∧ i.size = s ∧ i.bytes = by' ∧ z.cells.size = s ∧ 0 < s := by
  unfold elemOfT at h
  split at h <;> try contradiction
  rename_i e' hu
  split at h <;> try contradiction
  rename_i i hi
  split at h <;> try contradiction
  rename_i z hz
  cases hc : (Nat.beq z.cells.size i.size && Nat.blt 0 i.size) with
  | false => rw [hc] at h; cases h
  | true =>
    rw [hc] at h
    cases h
    simp only [Bool.and_eq_true] at hc
    exact ⟨i, z, hu, hi, hz, rfl, rfl, Nat.eq_of_beq_eq_true hc.1, Nat.le_of_ble_eq_true hc.2⟩

theorem litArr {t e : TypeId} {s by' len : Nat} {parts : Array (Nat × Operand)} {as : List (Nat × AV)} {rows : List (List AV)} (h : StM G M fr st a w) (he : elemOfT P t = some (e, s, by')) (hb : Nat.ble (len * s) 16777216 = true)
    (hpa : partsA fr parts.toList = some as) (hf : fillA (fun k => some (k * s, s)) (List.replicate (len * s) .any) as = some rows.flatten) (hn : rows.length = len) (hrow : rows.all (fun r => Nat.beq r.length s) = true) :
    ∃ arr, (∀ w', (Instr.buildSlice t len (parts.map fun x => (x.1, a.eval x.2))).run P w' = .ok (.slice (some ⟨w'.heap.size, 0, none⟩) len len) (w'.alloc (.cells arr e))) ∧ arr.size = len * s ∧
      ∀ (i : Nat) row (j : Nat) av, rows[i]? = some row → row[j]? = some av → Rep M w (arr.getD (i * s + j) undef) av := by
  obtain ⟨inf, z, hu, hi, hz, e1, e2, e3, e4⟩ := elemOfT_spec he
  subst e1
  have hpr := partsA_rep h _ _ hpa
  obtain ⟨arr', r1, r2⟩ := fill_rep (place := fun k => some (k * inf.size, inf.size)) _ _ ((Array.range (len * inf.size)).map ((if len * inf.size = 0 then #[] else z.cells)[· % (if len * inf.size = 0 then #[] else z.cells).size]!)) _ _ hpr
    ⟨by simp, fun i av hi => by
      rw [List.getElem?_replicate] at hi
      split at hi
      · cases hi; exact .any _
      · cases hi⟩ hf
  have hr : ∀ r ∈ rows, r.length = inf.size := fun r hr => Nat.eq_of_beq_eq_true (List.all_eq_true.1 hrow r hr)
  refine ⟨arr', fun w' => run_buildSlice hu hi hz (by have := Nat.le_of_ble_eq_true hb; omega) (by simpa using r1), by rw [r2.1, flatten_len rows hr, hn], fun i row j av hi hj => r2.2 _ _ (flatten_get rows hr i row j av hi hj)⟩

theorem rows_of {s : Nat} {rows : List (List AV)} (hrow : rows.all (fun r => Nat.beq r.length s) = true) {i : Nat} {row : List AV} (h : rows[i]? = some row) : row.length = s :=
  Nat.eq_of_beq_eq_true (List.all_eq_true.1 hrow row (List.mem_of_getElem? h))

theorem maxLen_big {n : Nat} (h : n ≤ 9223372036854775807) : n ≤ maxLen := by unfold maxLen; omega

/-- A slice literal, the call's own. -/
theorem op_lit {t e : TypeId} {s by' len : Nat} {parts : Array (Nat × Operand)} {as : List (Nat × AV)} {rows : List (List AV)} (hd : okDst G.n dst = true) (he : elemOfT P t = some (e, s, by')) (hb : Nat.ble (len * s) 16777216 = true)
    (hpa : partsA fr parts.toList = some as) (hn : rows.length = len) (hf : fillA (fun k => some (k * s, s)) (List.replicate (len * s) .any) as = some rows.flatten) (hrow : rows.all (fun r => Nat.beq r.length s) = true)
    (k : ∀ b, K (putF fr dst (.own s b 0 len)) ((b, .arr e s rows) :: st)) : Aop P G X ⟨dst, .buildSlice t len parts, ty, pos, aft, gd⟩ K fr st := fun a w ⟨M, hM⟩ Q => by
  obtain ⟨arr, r1, r2, r3⟩ := litArr hM he hb hpa hf hn hrow
  obtain ⟨_, _, _, _, _, _, _, _, hs0⟩ := elemOfT_spec he
  have hb' := Nat.le_of_ble_eq_true hb
  have hlen : len ≤ 16777216 := Nat.le_trans (Nat.le_mul_of_pos_right len hs0) hb'
  have hT := Tr.alloc w arr e
  have := hM.alloc arr e (.arr e s rows) ⟨_, heap_alloc_new w _, by rw [r2, hn]; exact Nat.le_refl _, hs0, fun i row hi => rows_of hrow hi,
    fun i row j av hi hj => (r3 i row j av hi hj).mono (fun _ h => h) (fun b hb => hT.same b (hM.sim.lt b hb) (by simp)) hT.bs⟩
  simp only [Oper.wp, execOp, Sem.run_bind, r1, Result.andThen_ok, Sem.run_pure, Oper.upon_value]
  refine ⟨TrX.of_nil hT, _, _, fun _ hx => keys_new hx, k _, M, this.put hd ?_⟩
  have := Rep.own (M := M) (w := w.alloc (.cells arr e)) s w.heap.size 0 len len arr.size (bsize_of (heap_alloc_new w _)) (by rw [r2, Nat.zero_add]) (Nat.le_refl _) (maxLen_big (by omega))
  rwa [Nat.zero_mul] at this

/-- What nobody will write may be told by value. -/
theorem StM.more {M' : Nat → Prop} (h : StM G M fr st a w) (hM : ∀ b, M b → M' b) (h1 : ∀ b, M' b → M b ∨ G.w0.heap.size ≤ b) (h2 : ∀ b, M' b → b < w.heap.size) (h3 : ∀ b, b ∈ keys st → ¬ M' b) : StM G M' fr st a w :=
  ⟨h.size, h.defers, h.tr, fun b hb => hM b (h.m0 b hb), fun b hb => by
    rcases h1 b hb with h4 | h4
    · exact h.m1 b h4
    · exact .inr (.inr h4), h.k1, fun s av hs => ⟨(h.fr s av hs).1, (h.fr s av hs).2.mono hM (fun _ _ => rfl) (fun _ _ => rfl)⟩,
    ⟨h.sim.nodup, fun b e hb => (h.sim.ent b e hb).mono hM (fun _ _ => rfl) (fun _ _ => rfl) rfl, fun b e hb => h3 b (mem_keys hb), h2⟩⟩

/-- A slice literal that nobody writes. -/
theorem op_lit_v {t e : TypeId} {s by' len : Nat} {parts : Array (Nat × Operand)} {as : List (Nat × AV)} {rows : List (List AV)} (hd : okDst G.n dst = true) (he : elemOfT P t = some (e, s, by')) (hb : Nat.ble (len * s) 16777216 = true)
    (hpa : partsA fr parts.toList = some as) (hn : rows.length = len) (hf : fillA (fun k => some (k * s, s)) (List.replicate (len * s) .any) as = some rows.flatten) (hrow : rows.all (fun r => Nat.beq r.length s) = true)
    (k : K (putF fr dst (.sl rows)) st) : Aop P G X ⟨dst, .buildSlice t len parts, ty, pos, aft, gd⟩ K fr st := fun a w ⟨M, hM⟩ Q => by
  obtain ⟨arr, r1, r2, r3⟩ := litArr hM he hb hpa hf hn hrow
  have hT := Tr.alloc w arr e
  have hM1 := hM.tr' hT
  have hM2 := hM1.more (M' := fun b => M b ∨ b = w.heap.size) (fun b hb => .inl hb) (fun b hb => hb.imp id (fun h => by rw [h]; exact hM.tr.size)) (fun b hb => by
    rcases hb with hb | rfl
    · exact hM1.sim.lt b hb
    · simp) (fun b hb hb' => by
    rcases hb' with hb' | rfl
    · obtain ⟨e', he'⟩ := of_mem_keys hb
      exact hM.sim.notM b e' he' hb'
    · exact Nat.lt_irrefl _ (hM.sim.key_lt hb))
  simp only [Oper.wp, execOp, Sem.run_bind, r1, Result.andThen_ok, Sem.run_pure, Oper.upon_value]
  refine ⟨TrX.of_nil hT, _, _, fun _ hx => .inl hx, k, _, hM2.put hd ?_⟩
  have hsz : rows.length * s ≤ arr.size := by rw [r2, hn]; exact Nat.le_refl _
  have := Rep.sl (M := fun b => M b ∨ b = w.heap.size) (w := w.alloc (.cells arr e)) w.heap.size 0 len s rows (fun i j => arr.getD (i * s + j) undef) (.inr rfl) (by omega) (fun i row hi => rows_of hrow hi) (fun i row j av hi hj => by
      have hil := (List.getElem?_eq_some_iff.1 hi).1
      have hjl := (List.getElem?_eq_some_iff.1 hj).1
      rw [rows_of hrow hi] at hjl
      have : (i + 1) * s ≤ rows.length * s := Nat.mul_le_mul_right _ hil
      rw [Nat.add_mul, Nat.one_mul] at this
      rw [Nat.zero_add]
      exact cell_of_heap (heap_alloc_new w _) (by omega))
    (fun i row j av hi hj => (r3 i row j av hi hj).mono (fun b hb => .inl hb) (fun b hb => hT.same b (hM.sim.lt b hb) (by simp)) hT.bs)
  rwa [hn] at this

/-- make. -/
theorem op_make {t e : TypeId} {s by' : Nat} {x y : Operand} {k1 k2 : IntKind} {n : Int} {zs : List AV} (c : Nat) (hd : okDst G.n dst = true) (he : elemOfT P t = some (e, s, by')) (hz : zeroOf P e = some zs) (hx : opv fr x = some (.int k1 n)) (hy : opv fr y = some (.int k2 n))
    (hc : n = (c : Int)) (hb : by' * c ≤ 281474976710656) (h63 : c ≤ 9223372036854775807)
    (k : ∀ b, K (putF fr dst (.own s b 0 c)) ((b, .arr e s (List.replicate c zs)) :: st)) : Aop P G X ⟨dst, .makeSlice t x y, ty, pos, aft, gd⟩ K fr st := fun a w ⟨M, hM⟩ Q => by
  obtain ⟨inf, z, hu, hi, hz', e1, e2, e3, hs0⟩ := elemOfT_spec he
  subst hc e1 e2
  obtain ⟨z', q0, q1, q2⟩ := run_zeroValue hz
  have hzz : z' = z := by
    have h1 := q0 w
    simp [zeroValue, typeInfo, hi, hz'] at h1
    exact h1.symm
  subst hzz
  have hr := run_make (P := P) w t e inf z' hu hi hz' k1 k2 (c : Int) (c : Int) (by omega) (Int.le_refl _) (by
    have h : ((inf.bytes * c : Nat) : Int) ≤ 281474976710656 := by omega
    rwa [Int.natCast_mul] at h) (by omega)
  simp only [Int.toNat_natCast] at hr
  have hT := Tr.alloc w (madeCells z'.cells (c * inf.size)) e
  have hsz : (madeCells z'.cells (c * inf.size)).size = c * inf.size := size_madeCells _ _
  have := hM.alloc (madeCells z'.cells (c * inf.size)) e (.arr e inf.size (List.replicate c zs)) ⟨_, heap_alloc_new w _, by rw [hsz, List.length_replicate]; exact Nat.le_refl _, hs0, (fun i row hi' => by
      rw [List.getElem?_replicate] at hi'
      split at hi'
      · cases hi'; omega
      · cases hi'), fun i row j av hi' hj => by
      rw [List.getElem?_replicate] at hi'
      split at hi' <;> try contradiction
      rename_i hic
      cases hi'
      have hjs : j < inf.size := by have := (List.getElem?_eq_some_iff.1 hj).1; omega
      have h5 := q2 M (w.alloc (.cells (madeCells z'.cells (c * inf.size)) e)) j av hj
      have hlt : i * inf.size + j < c * inf.size := by
        have : (i + 1) * inf.size ≤ c * inf.size := Nat.mul_le_mul_right _ hic
        rw [Nat.add_mul, Nat.one_mul] at this
        omega
      have hmod : (i * inf.size + j) % z'.cells.size = j := by
        rw [e3, Nat.mul_comm, Nat.mul_add_mod, Nat.mod_eq_of_lt hjs]
      have : (madeCells z'.cells (c * inf.size)).getD (i * inf.size + j) undef = z'.cells.getD j undef := by
        have hjz : j < z'.cells.size := by omega
        simp [madeCells, Array.getD_eq_getD_getElem?, hlt, hmod, hjz]
      rw [this]; exact h5⟩
  simp only [Oper.wp, execOp, (opv_rep hM hx).int_inv, (opv_rep hM hy).int_inv, Sem.run_bind, hr, Result.andThen_ok, Sem.run_pure, Oper.upon_value]
  refine ⟨TrX.of_nil hT, _, _, fun _ hx => keys_new hx, k _, M, this.put hd ?_⟩
  have := Rep.own (M := M) (w := w.alloc (.cells (madeCells z'.cells (c * inf.size)) e)) inf.size w.heap.size 0 c c _ (bsize_of (heap_alloc_new w _)) (by rw [hsz, Nat.zero_add]) (Nat.le_refl _) (maxLen_big (by omega))
  rwa [Nat.zero_mul] at this

/-! ### Slices of slices -/

theorem run_slice_of {t : TypeId} {s : Nat} (hs : elemSize P t = some s) (ad : Option Addr) (len cap : Nat) (lo hi : Option Value) (l h : Nat)
    (hh : match hi with | none => h = len | some v => ∃ k, v = .int k (h : Int) ∧ h ≤ cap) (hl : match lo with | none => l = 0 | some v => ∃ k, v = .int k (l : Int)) (hlh : l ≤ h) (w : World) :
    (Instr.sliceAt t (.slice ad len cap) lo hi none).run P w = .ok (.slice (if cap = l then ad else ad.map (·.add (l * s))) (h - l) (cap - l)) w := by
  unfold elemSize at hs
  split at hs <;> try contradiction
  rename_i e hu
  cases hi' : P.info? e with
  | none => simp [hi'] at hs
  | some inf =>
    simp [hi'] at hs
    subst hs
    have b1 : ∀ (k : IntKind) (n y : Nat) code, n ≤ y → (Instr.sliceBound (.int k (n : Int)) y code).run P w = .ok n w := by
      intro k n y code hn
      have h1 : (0 : Int) ≤ n ∧ (n : Int) ≤ y := ⟨by omega, by omega⟩
      simp [Instr.sliceBound, asIntOf, h1]
    cases hi with
    | none =>
      subst hh
      cases lo with
      | none => subst hl; simp [Instr.sliceAt, Instr.slice, run_underlying hu, Instr.sliceBounds, sizeOf, typeInfo, hi']
      | some v =>
        obtain ⟨k, rfl⟩ := hl
        simp [Instr.sliceAt, Instr.slice, run_underlying hu, Instr.sliceBounds, sizeOf, typeInfo, hi', b1 k l h _ hlh]
    | some v =>
      obtain ⟨k, rfl, hc⟩ := hh
      cases lo with
      | none => subst hl; simp [Instr.sliceAt, Instr.slice, run_underlying hu, Instr.sliceBounds, sizeOf, typeInfo, hi', b1 k h cap _ hc]
      | some v =>
        obtain ⟨k', rfl⟩ := hl
        simp [Instr.sliceAt, Instr.slice, run_underlying hu, Instr.sliceBounds, sizeOf, typeInfo, hi', b1 k h cap _ hc, b1 k' l h _ hlh]

/-- The bounds of a slice expression. -/
def loIs (fr : Fr) (lo : Option Operand) (l : Nat) : Prop := match lo with
  | none => l = 0
  | some x => ∃ k n, opv fr x = some (.int k n) ∧ n = (l : Int)
def hiIs (fr : Fr) (hi : Option Operand) (h len : Nat) : Prop := match hi with
  | none => h = len
  | some x => ∃ k n, opv fr x = some (.int k n) ∧ n = (h : Int)

theorem lo_some {x : Operand} {k : IntKind} {n : Int} {l : Nat} (h : opv fr x = some (.int k n)) (hn : n = (l : Int)) : loIs fr (some x) l := ⟨k, n, h, hn⟩
theorem hi_some {x : Operand} {k : IntKind} {n : Int} {l len : Nat} (h : opv fr x = some (.int k n)) (hn : n = (l : Int)) : hiIs fr (some x) l len := ⟨k, n, h, hn⟩

theorem lo_map (hM : StM G M fr st a w) {lo : Option Operand} {l : Nat} (h : loIs fr lo l) : match lo.map a.eval with | none => l = 0 | some v => ∃ k, v = .int k (l : Int) := by
  cases lo with
  | none => exact h
  | some x => obtain ⟨k, n, h1, rfl⟩ := h; exact ⟨k, (opv_rep hM h1).int_inv⟩
theorem hi_map (hM : StM G M fr st a w) {hi : Option Operand} {h len cap : Nat} (hh : hiIs fr hi h len) (hc : h ≤ cap) : match hi.map a.eval with | none => h = len | some v => ∃ k, v = .int k (h : Int) ∧ h ≤ cap := by
  cases hi with
  | none => exact hh
  | some x => obtain ⟨k, n, h1, rfl⟩ := hh; exact ⟨k, (opv_rep hM h1).int_inv, hc⟩

theorem exec_slice {t : TypeId} {x : Operand} {lo hi : Option Operand} {a : Act} {v : Value} (h : ∀ w' : World, (Instr.sliceAt t (a.eval x) (lo.map a.eval) (hi.map a.eval) none).run P w' = .ok v w') (w' : World) :
    (execOp a.eval ⟨dst, .slice t x lo hi none, ty, pos, aft, gd⟩).run P w' = .ok (.value v) w' := by
  simp only [execOp, Option.map_none, Sem.run_bind, h w', Result.andThen_ok, Sem.run_pure]

theorem p_slice_sl {t : TypeId} {s : Nat} {x : Operand} {lo hi : Option Operand} {rows rows' : List (List AV)} (l h : Nat) (hs : elemSize P t = some s) (hx : opv fr x = some (.sl rows)) (hl : loIs fr lo l) (hh : hiIs fr hi h rows.length) (hlh : l ≤ h) (hhl : h ≤ rows.length)
    (hrow : ∀ r ∈ rows, r.length = s) (he : (rows.take h).drop l = rows') : Pure P G Y fr st ⟨dst, .slice t x lo hi none, ty, pos, aft, gd⟩ (.sl rows') := fun M a w hM => by
  have hr := opv_rep hM hx
  generalize hv : a.eval x = v at hr
  cases hr with
  | sl0 ad c =>
    simp at hhl
    subst hhl
    have : l = 0 := by omega
    subst this
    simp at he
    subst he
    have := run_slice_of (P := P) hs ad 0 c (lo.map a.eval) (hi.map a.eval) 0 0 (hi_map hM hh (by omega)) (lo_map hM hl) (by omega)
    exact ⟨_, .sl0 _ _, fun w' _ => exec_slice (by rw [hv]; exact this) w'⟩
  | sl b off c s' _ cs h1 hc hrow' hcell hrep =>
    have := run_slice_of (P := P) hs (some ⟨b, off, none⟩) rows.length c (lo.map a.eval) (hi.map a.eval) l h (hi_map hM hh (by omega)) (lo_map hM hl) hlh
    refine ⟨_, ?_, fun w' _ => exec_slice (by rw [hv]; exact this) w'⟩
    have hlen : rows'.length = h - l := by rw [← he]; simp; omega
    by_cases hlh' : l = h
    · subst hlh'
      have : rows' = [] := List.eq_nil_of_length_eq_zero (by omega)
      subst this
      rw [Nat.sub_self]
      exact .sl0 _ _
    · rw [if_neg (by omega)]
      have hss : s' = s := by
        have h0 : 0 < rows.length := by omega
        have e1 := hrow' 0 _ (List.getElem?_eq_getElem h0)
        have e2 := hrow _ (List.getElem_mem h0)
        omega
      subst hss
      simp only [Option.map_some, Addr.add_lit]
      have hget : ∀ (i : Nat) row, rows'[i]? = some row → rows[l + i]? = some row := fun i row hi => by
        rw [← he, List.getElem?_drop, List.getElem?_take] at hi
        split at hi
        · exact hi
        · cases hi
      have := Rep.sl (M := M) (w := w) b (off + l * s') (c - l) s' rows' (fun i j => cs (l + i) j) h1 (by omega) (fun i row hi => hrow' _ row (hget i row hi)) (fun i row j av hi hj => by
        have := hcell _ row j av (hget i row hi) hj
        rw [Nat.add_mul] at this
        rw [← this]; congr 2; omega) (fun i row j av hi hj => hrep _ row j av (hget i row hi) hj)
      rwa [hlen] at this

/-- A slice of the call's own, cut at its end. -/
theorem p_slice_own {t : TypeId} {s b off len : Nat} {x : Operand} {hi : Option Operand} (h : Nat) (hs : elemSize P t = some s) (hx : opv fr x = some (.own s b off len)) (hh : hiIs fr hi h len) (hhl : h ≤ len) :
    Pure P G Y fr st ⟨dst, .slice t x none hi none, ty, pos, aft, gd⟩ (.own s b off h) := fun M a w hM => by
  have hr := opv_rep hM hx
  generalize hv : a.eval x = v at hr
  cases hr with
  | own _ _ _ _ c n h1 h2 h3 h4 =>
    have := run_slice_of (P := P) hs (some ⟨b, off * s, none⟩) len c none (hi.map a.eval) 0 h (hi_map hM hh (by omega)) rfl (by omega)
    refine ⟨_, ?_, fun w' _ => exec_slice (by rw [hv]; exact this) w'⟩
    have e : (if c = 0 then some (⟨b, off * s, none⟩ : Addr) else Option.map (fun x : Addr => x.add (0 * s)) (some (⟨b, off * s, none⟩ : Addr))) = some ⟨b, off * s, none⟩ := by
      split
      · rfl
      · simp [Addr.add]
    rw [e]
    exact .own s b off h c n h1 h2 (by omega) h4

/-- Its end. -/
theorem p_slice_own_lo {t : TypeId} {s b off len : Nat} {x : Operand} {lo hi : Option Operand} (l h : Nat) (hs : elemSize P t = some s) (hx : opv fr x = some (.own s b off len)) (hl : loIs fr lo l) (hh : hiIs fr hi h len) (hlh : l < h) (hhl : h ≤ len) :
    Pure P G Y fr st ⟨dst, .slice t x lo hi none, ty, pos, aft, gd⟩ (.own s b (off + l) (h - l)) := fun M a w hM => by
  have hr := opv_rep hM hx
  generalize hv : a.eval x = v at hr
  cases hr with
  | own _ _ _ _ c n h1 h2 h3 h4 =>
    have := run_slice_of (P := P) hs (some ⟨b, off * s, none⟩) len c (lo.map a.eval) (hi.map a.eval) l h (hi_map hM hh (by omega)) (lo_map hM hl) (by omega)
    refine ⟨_, ?_, fun w' _ => exec_slice (by rw [hv]; exact this) w'⟩
    rw [if_neg (by omega)]
    simp only [Option.map_some, Addr.add_lit, ← Nat.add_mul]
    exact .own s b (off + l) (h - l) (c - l) n h1 (by rw [h2]; congr 1; omega) (by omega) (by omega)

end
end Go.Fw
