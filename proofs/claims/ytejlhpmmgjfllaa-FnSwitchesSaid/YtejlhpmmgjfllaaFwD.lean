/-
  The framework, part D: the operations that make memory or write it. It holds for every program. Condition: none.
-/
import Derived.Test.YtejlhpmmgjfllaaFwC
namespace Go.Fw
open Go

/-- The cells of a value. -/
def cellsOf : AV → Option (List AV)
  | .agg cs => some cs
  | .any | .tup _ => none
  | v => some [v]

/-- A value of one cell. -/
def flat : AV → Bool
  | .any | .agg _ | .tup _ => false
  | _ => true

theorem cells_rep {M : Nat → Prop} {w : World} {v : Value} {av : AV} {cs : List AV} (h : Rep M w v av) (hc : cellsOf av = some cs) :
    v.cells.size = cs.length ∧ ∀ (i : Nat) a, cs[i]? = some a → Rep M w (v.cells.getD i undef) a := by
  have one : ∀ (v : Value) (av : AV), Rep M w v av → v.cells = #[v] → v.cells.size = [av].length ∧ ∀ (i : Nat) a, [av][i]? = some a → Rep M w (v.cells.getD i undef) a := by
    intro v av h hv
    rw [hv]
    refine ⟨rfl, fun i a hi => ?_⟩
    cases i with
    | zero => simp at hi; subst hi; simpa using h
    | succ i => simp at hi
  cases h <;> simp only [cellsOf, Option.some.injEq, reduceCtorEq] at hc <;> subst hc
  case agg arr hl hr => exact ⟨hl, hr⟩
  all_goals (refine one _ _ ?_ rfl; constructor <;> assumption)

theorem flat_rep {M : Nat → Prop} {w : World} {v : Value} {av : AV} (h : Rep M w v av) (hf : flat av = true) : v.oneCell' = true := by
  cases h <;> simp [flat] at hf <;> rfl

/-- What a closed value is. -/
def ofVal : Value → AV
  | .int k n => .int k n
  | .bool b => .bool b
  | .slice none 0 0 => .nil
  | _ => .any

theorem ofVal_rep (M : Nat → Prop) (w : World) (v : Value) : Rep M w v (ofVal v) := by
  unfold ofVal
  split
  · exact .int _ _
  · exact .bool _
  · exact .nil _
  · exact .any _

/-- The cells of a type's zero value. -/
def zeroOf (P : Program) (t : TypeId) : Option (List AV) :=
  match P.info? t with
  | some i => match i.zero with
    | some z => some (z.cells.toList.map ofVal)
    | none => none
  | none => none

theorem run_zeroValue {P : Program} {t : TypeId} {zs : List AV} (h : zeroOf P t = some zs) : ∃ z : Value, (∀ w, (zeroValue t).run P w = .ok z w) ∧ z.cells.size = zs.length ∧
    ∀ (M : Nat → Prop) (w : World) (i : Nat) a, zs[i]? = some a → Rep M w (z.cells.getD i undef) a := by
  unfold zeroOf at h
  split at h <;> try contradiction
  rename_i i hi
  split at h <;> try contradiction
  rename_i z hz
  cases h
  refine ⟨z, fun w => by simp [zeroValue, typeInfo, hi, hz], by simp, fun M w i a ha => ?_⟩
  simp only [List.getElem?_map, Array.getElem?_toList] at ha
  cases hc : z.cells[i]? with
  | none => simp [hc] at ha
  | some c =>
    simp [hc] at ha
    subst ha
    have : z.cells.getD i undef = c := by simp [Array.getD_eq_getD_getElem?, hc]
    rw [this]
    exact ofVal_rep M w c

section
variable {P : Program} {G : Gh} {X : Option (List Nat × List Nat)} {K : Fr → Store → Prop} {M : Nat → Prop} {fr : Fr} {st : Store} {a : Act} {w : World}
variable {dst : Option Tmp} {ty : TypeId} {pos : String} {aft : Array Edge} {gd : Option (Nat × Bool)}

theorem Tr.alloc (w : World) (cs : Array Value) (t : TypeId) : Tr [] w (w.alloc (.cells cs t)) :=
  ⟨rfl, rfl, rfl, by simp, fun b hb _ => heap_alloc_old w _ b hb, fun b hb => by simp [bsize, World.shape?, heap_alloc_old w _ b hb]⟩

theorem Tr.drew (w : World) : Tr [] w w.drew := ⟨rfl, rfl, rfl, Nat.le_refl _, fun _ _ _ => rfl, fun _ _ => rfl⟩

theorem Sim.key_lt (h : Sim M w st) {b : Nat} (hb : b ∈ keys st) : b < w.heap.size := by
  obtain ⟨e, he⟩ := of_mem_keys hb
  exact (h.ent b e he).lt

/-- A new block, the call's own. -/
theorem StM.alloc (h : StM G M fr st a w) (cs : Array Value) (t : TypeId) (e : Entry) (he : ERep M (w.alloc (.cells cs t)) w.heap.size e) :
    StM G M fr ((w.heap.size, e) :: st) a (w.alloc (.cells cs t)) := by
  have h' := h.tr' (Tr.alloc w cs t)
  have hnew : w.heap.size ∉ keys st := fun hk => Nat.lt_irrefl _ (h.sim.key_lt hk)
  refine ⟨h'.size, h'.defers, h'.tr, h'.m0, h'.m1, fun b hb => ?_, h'.fr, ⟨?_, fun b e' hb => ?_, fun b e' hb hM => ?_, h'.sim.lt⟩⟩
  · rcases List.mem_cons.1 hb with rfl | hb
    · exact .inr h.tr.size
    · exact h.k1 b hb
  · exact List.nodup_cons.2 ⟨hnew, h.sim.nodup⟩
  · rcases List.mem_cons.1 hb with hb | hb
    · cases hb; exact he
    · exact h'.sim.ent b e' hb
  · rcases List.mem_cons.1 hb with hb | hb
    · cases hb; exact Nat.lt_irrefl _ (h.sim.lt _ hM)
    · exact h.sim.notM b e' hb hM

theorem run_newVar (t : TypeId) (v : Value) (w : World) : (newVar t v).run P w = .ok ⟨w.heap.size, 0, none⟩ (w.alloc (.cells v.cells t)) := by
  simp [newVar, newRow]

theorem keys_new {x : Nat} {e : Entry} (hx : x ∈ keys ((w.heap.size, e) :: st)) : x ∈ keys st ∨ w.heap.size ≤ x := by
  rcases List.mem_cons.1 hx with rfl | hx
  · exact .inr (Nat.le_refl _)
  · exact .inl hx

theorem op_box {x : Operand} {t : TypeId} {av : AV} {cs : List AV} (hd : okDst G.n dst = true) (hx : opv fr x = some av) (hc : cellsOf av = some cs)
    (k : ∀ b, K (putF fr dst (.ptr b 0)) ((b, .box cs) :: st)) : Aop P G X ⟨dst, .box t x, ty, pos, aft, gd⟩ K fr st := fun a w ⟨M, hM⟩ Q => by
  obtain ⟨h1, h2⟩ := cells_rep (opv_rep hM hx) hc
  have hT := Tr.alloc w (a.eval x).cells t
  have := hM.alloc (a.eval x).cells t (.box cs) ⟨_, _, heap_alloc_new w _, h1, fun i av' hi => (h2 i av' hi).mono (fun _ h => h) (fun b hb => hT.same b (hM.sim.lt b hb) (by simp)) hT.bs⟩
  simp only [Oper.wp, execOp, Instr.box, Sem.run_bind, run_newVar, Result.andThen_ok, Sem.run_pure, Oper.upon_value]
  exact ⟨TrX.of_nil hT, _, _, fun _ hx => keys_new hx, k _, M, this.put hd (.ptr _ _)⟩

theorem op_alloc {t : TypeId} {cs : List AV} (hd : okDst G.n dst = true) (hz : zeroOf P t = some cs)
    (k : ∀ b, K (putF fr dst (.ptr b 0)) ((b, .box cs) :: st)) : Aop P G X ⟨dst, .alloc t, ty, pos, aft, gd⟩ K fr st := fun a w ⟨M, hM⟩ Q => by
  obtain ⟨z, h0, h1, h2⟩ := run_zeroValue hz
  have hT := Tr.alloc w z.cells t
  have := hM.alloc z.cells t (.box cs) ⟨_, _, heap_alloc_new w _, h1, fun i av' hi => h2 M _ i av' hi⟩
  simp only [Oper.wp, execOp, Instr.alloc, Sem.run_bind, h0, run_newVar, Result.andThen_ok, Sem.run_pure, Oper.upon_value]
  exact ⟨TrX.of_nil hT, _, _, fun _ hx => keys_new hx, k _, M, this.put hd (.ptr _ _)⟩

/-! ### Writing -/

/-- A segment of cells, written over. -/
def segSet (cells : List AV) (off : Nat) (vs : List AV) : List AV := cells.take off ++ vs ++ cells.drop (off + vs.length)

theorem segSet_len {cells vs : List AV} {off : Nat} (h : off + vs.length ≤ cells.length) : (segSet cells off vs).length = cells.length := by
  simp [segSet]; omega

theorem splice_get {α : Type} (l vs : List α) (off i : Nat) (h : off + vs.length ≤ l.length) :
    (l.take off ++ vs ++ l.drop (off + vs.length))[i]? = if off ≤ i ∧ i < off + vs.length then vs[i - off]? else l[i]? := by
  have hmin : min off l.length = off := by omega
  by_cases h1 : i < off
  · rw [if_neg (by omega), List.append_assoc, List.getElem?_append_left (by simp; omega), List.getElem?_take, if_pos h1]
  · by_cases h2 : i < off + vs.length
    · rw [if_pos ⟨by omega, h2⟩, List.getElem?_append_left (by simp; omega), List.getElem?_append_right (by simp; omega)]
      simp [hmin]
    · rw [if_neg (by omega), List.getElem?_append_right (by simp; omega), List.getElem?_drop]
      congr 1
      simp
      omega

def cellsN (P : Program) (t : TypeId) : Option Nat := (P.info? t).map (·.size)

theorem run_storeVar_at {t te : TypeId} {v : Value} {b o : Nat} {cur : Array Value} (hs : cellsN P t = some v.cells.size) (hg : w.heap[b]? = some (.cells cur te (0, 0))) (hl : o + v.cells.size ≤ cur.size)
    (h1 : ∀ u ∈ v.cells.toList, u.oneCell' = true) : (storeVar t ⟨b, o, none⟩ v).run P w = .ok () (w.setRow b (cur.toList.take o ++ v.cells.toList ++ cur.toList.drop (o + v.cells.toList.length)).toArray) := by
  unfold cellsN at hs
  cases hi : P.info? t with
  | none => simp [hi] at hs
  | some i =>
    simp [hi] at hs
    have := run_storeCells_at P b o te v.cells.toList 0 cur w hg (by simpa using hl) h1
    simp only [Nat.add_zero] at this
    simp [storeVar, sizeOf, typeInfo, hi, hs, this]

theorem Tr.setRow {b : Nat} {cur cs : Array Value} {t : TypeId} (hg : w.heap[b]? = some (.cells cur t (0, 0))) (hl : cs.size = cur.size) : Tr [b] w (w.setRow b cs) :=
  ⟨rfl, rfl, rfl, by simp, fun x _ hx => setRow_other w b x cs (by simpa using hx), fun x _ => by
    by_cases hxb : x = b
    · subst hxb
      rw [bsize_of (setRow_heap w x cur cs t (0, 0) hg), bsize_of hg, hl]
    · simp [bsize, World.shape?, setRow_other w b x cs hxb]⟩

/-- A block of the call's own is written. -/
theorem StM.write {b : Nat} {e e' : Entry} {rest : Store} (h : StM G M fr st a w) (hp : Pick st b e rest) {w' : World} (t : Tr [b] w w') (he : ERep M w' b e') : StM G M fr ((b, e') :: rest) a w' := by
  have hb : ¬ M b := h.sim.notM b e hp.mem
  have hk : b ∈ keys st := mem_keys hp.mem
  have hs := h.sim.perm hp.perm
  have hn : b ∉ keys rest := by
    have := hs.nodup
    simp only [keys, List.map_cons, List.nodup_cons] at this
    exact this.1
  have hMs : ∀ x, M x → w'.heap[x]? = w.heap[x]? := fun x hx => t.same x (h.sim.lt x hx) (by simp; rintro rfl; exact hb hx)
  refine ⟨h.size, h.defers, h.tr.trans t (fun x hx => by rw [List.mem_singleton.1 hx]; exact h.k1 b hk), h.m0, h.m1, fun x hx => ?_,
    fun s av hsl => ⟨(h.fr s av hsl).1, (h.fr s av hsl).2.mono (fun _ h => h) hMs t.bs⟩, ⟨?_, fun x ex hx => ?_, fun x ex hx hM => ?_, fun x hx => Nat.lt_of_lt_of_le (h.sim.lt x hx) t.size⟩⟩
  · rcases List.mem_cons.1 hx with rfl | hx
    · exact h.k1 _ hk
    · obtain ⟨ex, hex⟩ := of_mem_keys hx
      exact h.k1 x (mem_keys (hp.perm.mem_iff.2 (List.mem_cons_of_mem _ hex)))
  · exact List.nodup_cons.2 ⟨hn, (List.nodup_cons.1 hs.nodup).2⟩
  · rcases List.mem_cons.1 hx with hx' | hx'
    · cases hx'; exact he
    · have hxe := hs.ent x ex (List.mem_cons_of_mem _ hx')
      have hne : x ≠ b := fun e => hn (e ▸ mem_keys hx')
      exact hxe.mono (fun _ h => h) hMs t.bs (t.same x hxe.lt (by simpa using hne))
  · rcases List.mem_cons.1 hx with hx | hx
    · cases hx; exact hb hM
    · exact hs.notM x ex (List.mem_cons_of_mem _ hx) hM

/-- What may be written in a region that draws its order. -/
def InT (X : Option (List Nat × List Nat)) (b : Nat) (rest : Store) : Prop := match X with
  | none => True
  | some (Xl, Ko) => b ∈ Xl ∨ ∀ y ∈ Ko, y ∈ keys rest

theorem TrX.of_one {b : Nat} {e : Entry} {rest : Store} {w' : World} (hx : InT X b rest) (hp : Pick st b e rest) (hs : Sim M w st) (t : Tr [b] w w') : TrX X st w w' := by
  cases X with
  | none => trivial
  | some l =>
    refine ⟨[b], t, fun x hx' => ?_⟩
    rw [List.mem_singleton.1 hx']
    rcases hx with hx | hx
    · exact .inl hx
    · exact .inr ⟨mem_keys hp.mem, fun hb => hp.ne hs (hx b hb) rfl⟩

theorem keys_same {b : Nat} {e e' : Entry} {rest : Store} (hp : Pick st b e rest) {x : Nat} (hx : x ∈ keys ((b, e') :: rest)) : x ∈ keys st := by
  rcases List.mem_cons.1 hx with rfl | hx
  · exact mem_keys hp.mem
  · obtain ⟨ex, hex⟩ := of_mem_keys hx
    exact mem_keys (hp.perm.mem_iff.2 (List.mem_cons_of_mem _ hex))

theorem flats_of {v : Value} {cs : List AV} (hl : v.cells.size = cs.length) (h : ∀ (i : Nat) a, cs[i]? = some a → Rep M w (v.cells.getD i undef) a) (hf : cs.all flat = true) : ∀ u ∈ v.cells.toList, u.oneCell' = true := by
  intro u hu
  obtain ⟨i, hi⟩ := List.mem_iff_getElem?.1 hu
  have hlt : i < cs.length := by
    have := (List.getElem?_eq_some_iff.1 hi).1
    simp at this; omega
  have h2 := h i _ (List.getElem?_eq_getElem hlt)
  have : v.cells.getD i undef = u := by
    simp at hi
    simp [Array.getD_eq_getD_getElem?, hi]
  rw [this] at h2
  exact flat_rep h2 (List.all_eq_true.1 hf _ (List.getElem_mem hlt))

theorem op_store_box {t : TypeId} {p x : Operand} {b off : Nat} {cells cs cells' : List AV} {av : AV} {rest : Store} (hd : okDst G.n dst = true) (hp : opv fr p = some (.ptr b off)) (hx : opv fr x = some av) (hc : cellsOf av = some cs)
    (hpk : Pick st b (.box cells) rest) (hs : cellsN P t = some cs.length) (hf : cs.all flat = true) (hl : Nat.ble (off + cs.length) cells.length = true) (hnew : segSet cells off cs = cells') (hX : InT X b rest)
    (k : K (putF fr dst .any) ((b, .box cells') :: rest)) : Aop P G X ⟨dst, .store t p x, ty, pos, aft, gd⟩ K fr st := fun a w ⟨M, hM⟩ Q => by
  obtain ⟨h1, h2⟩ := cells_rep (opv_rep hM hx) hc
  obtain ⟨cur, te, g1, g2, g3⟩ := hM.sim.ent _ _ hpk.mem
  have hl' : off + cs.length ≤ cells.length := Nat.le_of_ble_eq_true hl
  have hrun := run_storeVar_at (P := P) (w := w) (t := t) (v := a.eval x) (o := off) (by rw [h1]; exact hs) g1 (by omega) (flats_of h1 h2 hf)
  have hsz : ((cur.toList.take off ++ (a.eval x).cells.toList ++ cur.toList.drop (off + (a.eval x).cells.toList.length)).toArray).size = cur.size := by
    simp; omega
  have hT := Tr.setRow g1 hsz
  have hE : ERep M (w.setRow b (cur.toList.take off ++ (a.eval x).cells.toList ++ cur.toList.drop (off + (a.eval x).cells.toList.length)).toArray) b (.box cells') := by
    refine ⟨_, _, setRow_heap w b cur _ te _ g1, by rw [hsz, g2, ← hnew, segSet_len hl'], fun i av' hi => ?_⟩
    have hb : ¬ M b := hM.sim.notM _ _ hpk.mem
    refine Rep.mono (w := w) (fun _ h => h) (fun y hy => hT.same y (hM.sim.lt y hy) (by simp; rintro rfl; exact hb hy)) hT.bs ?_
    rw [← hnew] at hi
    have e1 : ∀ (arr : List Value), (arr.toArray).getD i undef = (arr[i]?).getD undef := fun arr => by simp [Array.getD_eq_getD_getElem?]
    rw [e1, splice_get cur.toList _ off i (by simp; omega)]
    unfold segSet at hi
    rw [splice_get cells cs off i hl'] at hi
    simp only [Array.length_toList, h1]
    split
    · rename_i hin
      rw [if_pos hin] at hi
      have := h2 (i - off) av' hi
      simpa [Array.getD_eq_getD_getElem?] using this
    · rename_i hin
      rw [if_neg hin] at hi
      have := g3 i av' hi
      simpa [Array.getD_eq_getD_getElem?] using this
  simp only [Oper.wp, execOp, Instr.storeAt, (opv_rep hM hp).ptr_inv, Instr.sureAddr, Sem.run_bind, Sem.run_pure, Result.andThen_ok, hrun, Oper.upon_skip]
  exact ⟨TrX.of_one hX hpk hM.sim hT, _, _, fun _ hx => .inl (keys_same hpk hx), k, M, (hM.write hpk hT hE).put hd (.any _)⟩

theorem op_store_e {t te : TypeId} {p x : Operand} {s b i off : Nat} {rows : List (List AV)} {row cs row' : List AV} {av : AV} {rest : Store} (hd : okDst G.n dst = true) (hp : opv fr p = some (.eptr s b i off)) (hx : opv fr x = some av)
    (hc : cellsOf av = some cs) (hpk : Pick st b (.arr te s rows) rest) (hr : rows[i]? = some row) (hs : cellsN P t = some cs.length) (hf : cs.all flat = true) (hl : Nat.ble (off + cs.length) row.length = true) (hnew : segSet row off cs = row') (hX : InT X b rest)
    (k : K (putF fr dst .any) ((b, .arr te s (rows.set i row')) :: rest)) : Aop P G X ⟨dst, .store t p x, ty, pos, aft, gd⟩ K fr st := fun a w ⟨M, hM⟩ Q => by
  obtain ⟨h1, h2⟩ := cells_rep (opv_rep hM hx) hc
  obtain ⟨cur, g1, g2, g0, g4, g3⟩ := hM.sim.ent _ _ hpk.mem
  have hl' : off + cs.length ≤ row.length := Nat.le_of_ble_eq_true hl
  have hi := (List.getElem?_eq_some_iff.1 hr).1
  have hrl := g4 i row hr
  have hle : (i + 1) * s ≤ cur.size := Nat.le_trans (Nat.mul_le_mul_right _ hi) g2
  rw [Nat.add_mul, Nat.one_mul] at hle
  have hrun := run_storeVar_at (P := P) (w := w) (t := t) (v := a.eval x) (o := i * s + off) (by rw [h1]; exact hs) g1 (by omega) (flats_of h1 h2 hf)
  have hsz : ((cur.toList.take (i * s + off) ++ (a.eval x).cells.toList ++ cur.toList.drop (i * s + off + (a.eval x).cells.toList.length)).toArray).size = cur.size := by
    simp; omega
  have hT := Tr.setRow g1 hsz
  have hrl' : row'.length = s := by rw [← hnew, segSet_len hl', hrl]
  have hE : ERep M (w.setRow b (cur.toList.take (i * s + off) ++ (a.eval x).cells.toList ++ cur.toList.drop (i * s + off + (a.eval x).cells.toList.length)).toArray) b (.arr te s (rows.set i row')) := by
    refine ⟨_, setRow_heap w b cur _ te _ g1, by rw [hsz, List.length_set]; exact g2, g0, fun i' r hr' => ?_, fun i' r j av' hr' hj => ?_⟩
    · by_cases hii : i = i'
      · subst hii
        rw [List.getElem?_set_self hi] at hr'
        cases hr'; exact hrl'
      · rw [List.getElem?_set_ne hii] at hr'
        exact g4 i' r hr'
    · have hb : ¬ M b := hM.sim.notM _ _ hpk.mem
      refine Rep.mono (w := w) (fun _ h => h) (fun y hy => hT.same y (hM.sim.lt y hy) (by simp; rintro rfl; exact hb hy)) hT.bs ?_
      have e1 : ∀ (arr : List Value) (n : Nat), (arr.toArray).getD n undef = (arr[n]?).getD undef := fun arr n => by simp [Array.getD_eq_getD_getElem?]
      rw [e1, splice_get cur.toList _ (i * s + off) _ (by simp; omega)]
      simp only [Array.length_toList, h1]
      by_cases hii : i = i'
      · subst hii
        rw [List.getElem?_set_self hi] at hr'
        cases hr'
        rw [← hnew] at hj
        unfold segSet at hj
        rw [splice_get row cs off j hl'] at hj
        by_cases hin : off ≤ j ∧ j < off + cs.length
        · rw [if_pos hin] at hj
          rw [if_pos (by omega)]
          have := h2 (j - off) av' hj
          rw [show i * s + j - (i * s + off) = j - off by omega]
          simpa [Array.getD_eq_getD_getElem?] using this
        · rw [if_neg hin] at hj
          rw [if_neg (by omega)]
          have := g3 i row j av' hr hj
          simpa [Array.getD_eq_getD_getElem?] using this
      · rw [List.getElem?_set_ne hii] at hr'
        have hjs : j < s := by rw [← g4 i' r hr']; exact (List.getElem?_eq_some_iff.1 hj).1
        rw [if_neg (by
          rintro ⟨ha, hb⟩
          rcases Nat.lt_or_gt_of_ne hii with h | h
          · have : (i + 1) * s ≤ i' * s := Nat.mul_le_mul_right _ h
            rw [Nat.add_mul, Nat.one_mul] at this
            omega
          · have : (i' + 1) * s ≤ i * s := Nat.mul_le_mul_right _ h
            rw [Nat.add_mul, Nat.one_mul] at this
            omega)]
        have := g3 i' r j av' hr' hj
        simpa [Array.getD_eq_getD_getElem?] using this
  simp only [Oper.wp, execOp, Instr.storeAt, (opv_rep hM hp).eptr_inv, Instr.sureAddr, Sem.run_bind, Sem.run_pure, Result.andThen_ok, hrun, Oper.upon_skip]
  exact ⟨TrX.of_one hX hpk hM.sim hT, _, _, fun _ hx => .inl (keys_same hpk hx), k, M, (hM.write hpk hT hE).put hd (.any _)⟩

end
end Go.Fw
