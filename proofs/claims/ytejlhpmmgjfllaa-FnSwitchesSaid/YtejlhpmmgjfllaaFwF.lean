/-
  The framework, part F: append; calls; a function's beginning and end; loops. It holds for every program. Condition: none.
-/
import Derived.Test.YtejlhpmmgjfllaaFwE
namespace Go.Fw
open Go

/-- Some entries of the store, and the others. -/
inductive Picks : Store → Store → Store → Prop
  | nil (st : Store) : Picks st [] st
  | cons {st st' l rest : Store} {b : Nat} {e : Entry} (h : Pick st b e st') (hs : Picks st' l rest) : Picks st ((b, e) :: l) rest

theorem Picks.perm {st l rest : Store} (h : Picks st l rest) : List.Perm st (l ++ rest) := by
  induction h with
  | nil st => exact List.Perm.refl _
  | cons h _ ih => exact h.perm.trans (ih.cons _)

theorem Sim.left {M : Nat → Prop} {w : World} {st st' : Store} (h : Sim M w (st ++ st')) : Sim M w st :=
  ⟨by have := h.nodup; simp only [keys, List.map_append] at this; exact (List.nodup_append.1 this).1, fun b e hb => h.ent b e (List.mem_append_left _ hb), fun b e hb => h.notM b e (List.mem_append_left _ hb), h.lt⟩

theorem Sim.right {M : Nat → Prop} {w : World} {st st' : Store} (h : Sim M w (st ++ st')) : Sim M w st' :=
  ⟨by have := h.nodup; simp only [keys, List.map_append] at this; exact (List.nodup_append.1 this).2.1, fun b e hb => h.ent b e (List.mem_append_right _ hb), fun b e hb => h.notM b e (List.mem_append_right _ hb), h.lt⟩

theorem keys_append (st st' : Store) : keys (st ++ st') = keys st ++ keys st' := by simp [keys]

theorem StM.left {G : Gh} {M : Nat → Prop} {fr : Fr} {st st' : Store} {a : Act} {w : World} (h : StM G M fr (st ++ st') a w) : StM G M fr st a w :=
  ⟨h.size, h.defers, h.tr, h.m0, h.m1, fun b hb => h.k1 b (by rw [keys_append]; exact List.mem_append_left _ hb), h.fr, h.sim.left⟩

/-- Fewer blocks, fewer slots may be spoken of. -/
theorem StM.sub {G : Gh} {M : Nat → Prop} {fr fr' : Fr} {st st' rest : Store} {a : Act} {w : World} (h : StM G M fr st a w) (hp : Picks st st' rest) (hf : ∀ s av, look fr' s = some av → look fr s = some av) : StM G M fr' st' a w := by
  have := (h.perm hp.perm).left
  exact ⟨this.size, this.defers, this.tr, this.m0, this.m1, this.k1, fun s av hs => this.fr s av (hf s av hs), this.sim⟩

section
variable {P : Program} {G : Gh} {Y : World → World → Prop} {X : Option (List Nat × List Nat)} {K : Fr → Store → Prop} {M : Nat → Prop} {fr : Fr} {st : Store} {a : Act} {w : World}
variable {dst : Option Tmp} {ty : TypeId} {pos : String} {aft : Array Edge} {gd : Option (Nat × Bool)}

/-! ### append -/

/-- What is appended: the cells, each of one cell. -/
def Src (M : Nat → Prop) (w : World) (s : Nat) (v : Value) (rows : List (List AV)) : Prop :=
  ∃ (ad : Option Addr) (c : Nat), v = .slice ad rows.length c ∧ (rows = [] ∨ ∃ (ad' : Addr) (news : List Value), ad = some ad' ∧ news.length = rows.length * s ∧ (∀ (j : Nat) u, news[j]? = some u → w.cell? (ad'.add j) = some u) ∧
    (∀ u ∈ news, u.oneCell' = true) ∧ ∀ (i : Nat) row (j : Nat) av, rows[i]? = some row → row[j]? = some av → Rep M w (news.getD (i * s + j) undef) av)

/-- The rows of a slice that is read. -/
inductive Rows (st : Store) : AV → List (List AV) → Prop
  | nil : Rows st .nil []
  | sl (rows : List (List AV)) : Rows st (.sl rows) rows
  | own {t s b len : Nat} {rows : List (List AV)} (h : (b, .arr t s rows) ∈ st) (hl : rows.length = len) : Rows st (.own s b 0 len) rows
  | ownAt {t s b off len : Nat} {rows : List (List AV)} (h : (b, .arr t s rows) ∈ st) (hl : off + len ≤ rows.length) : Rows st (.own s b off len) ((rows.drop off).take len)

theorem src_cells {s b off n : Nat} {rows : List (List AV)} {cs : Nat → Nat → Value} (hs : 0 < s) (hrow : ∀ r ∈ rows, r.length = s) (hn : rows.length = n)
    (hcell : ∀ (i : Nat) row (j : Nat) av, rows[i]? = some row → row[j]? = some av → w.cell? ⟨b, off + i * s + j, none⟩ = some (cs i j))
    (hrep : ∀ (i : Nat) row (j : Nat) av, rows[i]? = some row → row[j]? = some av → Rep M w (cs i j) av) (hf : ∀ r ∈ rows, r.all flat = true) (c : Nat) : Src M w s (.slice (some ⟨b, off, none⟩) n c) rows := by
  subst hn
  refine ⟨_, c, rfl, .inr ⟨_, (List.range (rows.length * s)).map fun x => cs (x / s) (x % s), rfl, by simp, fun j u hj => ?_, fun u hu => ?_, fun i row j av hi hj => ?_⟩⟩
  · rw [List.getElem?_map] at hj
    cases hx : (List.range (rows.length * s))[j]? with
    | none => simp [hx] at hj
    | some x =>
      simp [hx] at hj
      subst hj
      obtain ⟨hlt, hxe⟩ := List.getElem?_eq_some_iff.1 hx
      simp at hlt hxe
      subst hxe
      have h1 : j / s < rows.length := (Nat.div_lt_iff_lt_mul hs).2 hlt
      have h2 : j % s < s := Nat.mod_lt _ hs
      have h3 := hrow _ (List.getElem_mem h1)
      have h4 := hcell (j / s) _ (j % s) _ (List.getElem?_eq_getElem h1) (List.getElem?_eq_getElem (by omega))
      rw [Addr.add_lit, ← h4]
      congr 2
      have := Nat.div_add_mod j s
      rw [Nat.mul_comm] at this
      omega
  · obtain ⟨x, hx, rfl⟩ := List.mem_map.1 hu
    simp at hx
    have h1 : x / s < rows.length := (Nat.div_lt_iff_lt_mul hs).2 hx
    have h2 : x % s < s := Nat.mod_lt _ hs
    have h3 := hrow _ (List.getElem_mem h1)
    exact flat_rep (hrep (x / s) _ (x % s) _ (List.getElem?_eq_getElem h1) (List.getElem?_eq_getElem (by omega))) (List.all_eq_true.1 (hf _ (List.getElem_mem h1)) _ (List.getElem_mem _))
  · have hil := (List.getElem?_eq_some_iff.1 hi).1
    have hjl : j < s := by rw [← hrow row (List.mem_of_getElem? hi)]; exact (List.getElem?_eq_some_iff.1 hj).1
    have hlt : i * s + j < rows.length * s := by
      have : (i + 1) * s ≤ rows.length * s := Nat.mul_le_mul_right _ hil
      rw [Nat.add_mul, Nat.one_mul] at this
      omega
    have e1 : (i * s + j) / s = i := by rw [Nat.mul_comm, Nat.mul_add_div hs, Nat.div_eq_of_lt hjl, Nat.add_zero]
    have e2 : (i * s + j) % s = j := by rw [Nat.mul_comm, Nat.mul_add_mod, Nat.mod_eq_of_lt hjl]
    have := hrep i row j av hi hj
    simp [List.getD, hlt, e1, e2, this]

theorem src_of {s : Nat} {av : AV} {rows : List (List AV)} {v : Value} (hs : 0 < s) (hsim : Sim M w st) (hv : Rep M w v av) (hr : Rows st av rows) (hrow : ∀ r ∈ rows, r.length = s) (hf : ∀ r ∈ rows, r.all flat = true) : Src M w s v rows := by
  cases hr with
  | nil => cases hv; exact ⟨_, _, rfl, .inl rfl⟩
  | sl rows =>
    cases hv with
    | sl0 ad c => exact ⟨_, _, rfl, .inl rfl⟩
    | sl b off c s' _ cs h1 hc hrow' hcell hrep =>
      by_cases h0 : rows = []
      · subst h0; exact ⟨_, _, rfl, .inl rfl⟩
      · have hss : s' = s := by
          have hl : 0 < rows.length := List.length_pos_iff.2 h0
          have e1 := hrow' 0 _ (List.getElem?_eq_getElem hl)
          have e2 := hrow _ (List.getElem_mem hl)
          omega
        subst hss
        exact src_cells hs hrow rfl hcell hrep hf c
  | @own t s' b len rows h hl =>
    cases hv with
    | own _ _ _ _ c n h1 h2 h3 h4 =>
      obtain ⟨cs, g1, g2, g0, g3, g4⟩ := hsim.ent _ _ h
      by_cases h0 : rows = []
      · subst h0; subst hl; exact ⟨_, _, rfl, .inl rfl⟩
      · have hss : s' = s := by
          have hl : 0 < rows.length := List.length_pos_iff.2 h0
          have e1 := g3 0 _ (List.getElem?_eq_getElem hl)
          have e2 := hrow _ (List.getElem_mem hl)
          omega
        subst hss
        refine src_cells hs hrow hl (fun i row j av hi hj => ?_) g4 hf c
        have hil := (List.getElem?_eq_some_iff.1 hi).1
        have hjl : j < s' := by rw [← hrow row (List.mem_of_getElem? hi)]; exact (List.getElem?_eq_some_iff.1 hj).1
        have : (i + 1) * s' ≤ rows.length * s' := Nat.mul_le_mul_right _ hil
        rw [Nat.add_mul, Nat.one_mul] at this
        rw [Nat.zero_mul, Nat.zero_add]
        exact cell_of_heap g1 (by omega)
  | @ownAt t s' b off len rows h hl =>
    cases hv with
    | own _ _ _ _ c n h1 h2 h3 h4 =>
      obtain ⟨cs, g1, g2, g0, g3, g4⟩ := hsim.ent _ _ h
      have hlen : ((rows.drop off).take len).length = len := by simp; omega
      have hget : ∀ (i : Nat) row, ((rows.drop off).take len)[i]? = some row → rows[off + i]? = some row := fun i row hi => by
        rw [List.getElem?_take, List.getElem?_drop] at hi
        split at hi
        · exact hi
        · cases hi
      by_cases h0 : len = 0
      · subst h0
        simp only [List.take_zero]
        exact ⟨_, _, rfl, .inl rfl⟩
      · have hss : s' = s := by
          have hl' : 0 < ((rows.drop off).take len).length := by omega
          have e1 := g3 _ _ (hget 0 _ (List.getElem?_eq_getElem hl'))
          have e2 := hrow _ (List.getElem_mem hl')
          omega
        subst hss
        refine src_cells (cs := fun i j => cs.getD ((off + i) * s' + j) undef) hs hrow hlen (fun i row j av hi hj => ?_) (fun i row j av hi hj => g4 _ row j av (hget i row hi) hj) hf c
        have hil := (List.getElem?_eq_some_iff.1 (hget i row hi)).1
        have hjl : j < s' := by rw [← hrow row (List.mem_of_getElem? hi)]; exact (List.getElem?_eq_some_iff.1 hj).1
        have : (off + i + 1) * s' ≤ rows.length * s' := Nat.mul_le_mul_right _ hil
        rw [Nat.add_mul, Nat.one_mul] at this
        rw [← Nat.add_mul]
        exact cell_of_heap g1 (by omega)

theorem run_append_none {t e : TypeId} {ty : TypeId} {i : TypeInfo} (hu : P.underlying t = some (.slice e)) (hi : P.info? e = some i) (ad ad' : Option Addr) (n c c' : Nat) (hn : n ≤ c) (w : World) :
    (Builtin.append_ #[t, t] ty #[.slice ad n c, .slice ad' 0 c']).run P w = .ok (.slice ad n c) w := by
  cases ad <;> cases ad' <;> simp [Builtin.append_, run_underlying hu, sizeOf, typeInfo, hi, Builtin.lenOf, hn, Builtin.firstCells, loadCells, loadCellsFrom, storeCells]

theorem op_append {t e : TypeId} {s by' b len : Nat} {x y : Operand} {ay : AV} {rows rows2 : List (List AV)} {rest : Store} (hd : okDst G.n dst = true) (he : elemOfT P t = some (e, s, by')) (hx : opv fr x = some (.own s b 0 len)) (hy : opv fr y = some ay)
    (hp : Pick st b (.arr e s rows) rest) (hlen : rows.length = len) (hr : Rows st ay rows2) (hrow : ∀ r ∈ rows2, r.length = s) (hf : ∀ r ∈ rows2, r.all flat = true) (hb : (len + rows2.length) * by' ≤ 140737488355328) (h63 : len + rows2.length ≤ 9223372036854775807) (hX : InT X b rest)
    (k : ∀ b', K (putF fr dst (.own s b' 0 (len + rows2.length))) ((b', .arr e s (rows ++ rows2)) :: rest)) :
    Aop P G X ⟨dst, .call { callee := .builtin .append, args := #[x, y], argTypes := #[t, t] }, ty, pos, aft, gd⟩ K fr st := fun a w ⟨M, hM⟩ Q => by
  obtain ⟨inf, z, hu, hi, hz, e1, e2, e3, hs0⟩ := elemOfT_spec he
  subst e1 e2 hlen
  have hrx := opv_rep hM hx
  generalize hvx : a.eval x = vx at hrx
  have hsrc := src_of hs0 hM.sim (opv_rep hM hy) hr hrow hf
  obtain ⟨ad2, c2, hv2, hsrc⟩ := hsrc
  obtain ⟨cur, g1, g2, g0, g3, g4⟩ := hM.sim.ent _ _ hp.mem
  cases hrx with
  | own _ _ _ _ c n h1 h2 h3 h4 =>
  have hn : n = cur.size := by rw [bsize_of g1] at h1; cases h1; rfl
  rw [Nat.zero_add] at h2 h4
  rw [Nat.zero_mul] at hvx
  -- what is left to do, once the append has run
  have fin : ∀ (v' : Value) (w' : World) (b' : Nat), (Builtin.append_ #[t, t] ty #[a.eval x, a.eval y]).run P w = .ok v' w' → TrX X st w w' → (∀ q ∈ keys ((b', Entry.arr e inf.size (rows ++ rows2)) :: rest), q ∈ keys st ∨ w.heap.size ≤ q) →
      StM G M fr ((b', .arr e inf.size (rows ++ rows2)) :: rest) a w' → Rep M w' v' (.own inf.size b' 0 (rows.length + rows2.length)) →
      (Oper.wp P ⟨dst, .call { callee := .builtin .append, args := #[x, y], argTypes := #[t, t] }, ty, pos, aft, gd⟩ a w (fun a' w' => TrX X st w w' ∧ ∃ fr' st', (∀ x ∈ keys st', x ∈ keys st ∨ w.heap.size ≤ x) ∧ K fr' st' ∧ St G fr' st' a' w') Q) := by
    intro v' w' b' hrun ht hks hS hR
    simp only [Oper.wp, execOp, resolve, invoke, builtin, Sem.run_bind, Sem.run_pure, Result.andThen_ok, List.map_toArray, List.map_cons, List.map_nil, hrun, Oper.upon_value]
    exact ⟨ht, _, _, hks, k b', M, hS.put hd hR⟩
  by_cases h0 : rows2 = []
  · subst h0
    have hrun := run_append_none (P := P) (ty := ty) hu hi (some ⟨b, 0, none⟩) ad2 rows.length c c2 h3 w
    refine fin _ _ b (by rw [hvx, hv2]; exact hrun) (TrX.of_nil (Tr.refl _ _)) (fun q hq => .inl (keys_same hp hq)) ?_ ?_
    · rw [List.append_nil]; exact hM.perm hp.perm
    · have := Rep.own (M := M) (w := w) inf.size b 0 rows.length c n h1 (by rw [h2, Nat.zero_add]) h3 (by omega)
      rwa [Nat.zero_mul] at this
  · obtain ⟨ad', news, rfl, hnl, hnc, hnf, hnr⟩ := hsrc.resolve_left h0
    have hlen2 : ∀ r ∈ rows ++ rows2, r.length = inf.size := fun r hr => by
      rcases List.mem_append.1 hr with hr | hr
      · obtain ⟨i, hi⟩ := List.mem_iff_getElem?.1 hr
        exact g3 i r hi
      · exact hrow r hr
    by_cases hroom : rows.length + rows2.length ≤ c
    · have hrun := run_append_room (P := P) w t ty e inf hu hi b rows.length c cur g1 ad' rows2.length c2 news hnl hnc hnf hroom (by rw [hnl, ← Nat.add_mul, ← hn, h2]; exact Nat.mul_le_mul_right _ hroom)
      have hfit : rows.length * inf.size + news.length ≤ cur.size := by rw [hnl, ← Nat.add_mul, ← hn, h2]; exact Nat.mul_le_mul_right _ hroom
      have hsz : ((cur.toList.take (rows.length * inf.size) ++ news ++ cur.toList.drop (rows.length * inf.size + news.length)).toArray).size = cur.size := by simp; omega
      have hT := Tr.setRow g1 hsz
      have hb' : ¬ M b := hM.sim.notM _ _ hp.mem
      refine fin _ _ b (by rw [hvx, hv2]; exact hrun) (TrX.of_one hX hp hM.sim hT) (fun q hq => .inl (keys_same hp hq)) (hM.write hp hT ?_) ?_
      · refine ⟨_, setRow_heap w b cur _ e _ g1, by rw [hsz, List.length_append, Nat.add_mul, ← hnl]; exact hfit, hs0, fun i row hi' => hlen2 row (List.mem_of_getElem? hi'), fun i row j av hi' hj => ?_⟩
        refine Rep.mono (w := w) (fun _ h => h) (fun y hy => hT.same y (hM.sim.lt y hy) (by simp; rintro rfl; exact hb' hy)) hT.bs ?_
        have e1 : ∀ (arr : List Value) (n : Nat), (arr.toArray).getD n undef = (arr[n]?).getD undef := fun arr n => by simp [Array.getD_eq_getD_getElem?]
        rw [e1, splice_get cur.toList _ _ _ (by simpa using hfit)]
        have hjl : j < inf.size := by rw [← hlen2 row (List.mem_of_getElem? hi')]; exact (List.getElem?_eq_some_iff.1 hj).1
        by_cases hil : i < rows.length
        · rw [List.getElem?_append_left hil] at hi'
          have : (i + 1) * inf.size ≤ rows.length * inf.size := Nat.mul_le_mul_right _ hil
          rw [Nat.add_mul, Nat.one_mul] at this
          rw [if_neg (by omega)]
          have := g4 i row j av hi' hj
          simpa [Array.getD_eq_getD_getElem?] using this
        · rw [List.getElem?_append_right (by omega)] at hi'
          have hil2 := (List.getElem?_eq_some_iff.1 hi').1
          have e5 : i * inf.size + j = rows.length * inf.size + ((i - rows.length) * inf.size + j) := by
            rw [← Nat.add_assoc, ← Nat.add_mul]; congr 2; omega
          have : (i - rows.length + 1) * inf.size ≤ rows2.length * inf.size := Nat.mul_le_mul_right _ hil2
          rw [Nat.add_mul, Nat.one_mul] at this
          rw [if_pos (by omega)]
          have := hnr (i - rows.length) row j av hi' hj
          rw [show i * inf.size + j - rows.length * inf.size = (i - rows.length) * inf.size + j by omega]
          simpa [List.getD] using this
      · have := Rep.own (M := M) (w := w.setRow b _) inf.size b 0 (rows.length + rows2.length) c n (by rw [bsize_of (setRow_heap w b cur _ e _ g1), hsz, hn]) (by rw [h2, Nat.zero_add]) hroom (by omega)
        rwa [Nat.zero_mul] at this
    · have hrl : rows.length * inf.size ≤ cur.size := g2
      have hrun := run_append_grow (P := P) w t ty e inf z hu hi hz ⟨b, 0, none⟩ rows.length c (cur.toList.take (rows.length * inf.size)) (by simp; omega) (fun j v hj => by
          rw [List.getElem?_take] at hj
          split at hj
          · rw [Addr.add_lit, Nat.zero_add, cell_of_row w b j cur e _ g1]; simpa using hj
          · cases hj) ad' rows2.length c2 news hnl hnc (by omega) (by omega) (growslice_fits (by omega) hb)
      have hcap := grownCap_ge w (rows.length + rows2.length) c e
      have hcapm := grownCap_le_maxLen w (rows.length + rows2.length) c e (maxLen_big h63)
      generalize hcp : grownCap w (rows.length + rows2.length) c e = cp at hrun hcap hcapm
      have hsz : ((cur.toList.take (rows.length * inf.size)).toArray ++ news.toArray ++ Builtin.zeroCells z.cells (cp - (rows.length + rows2.length))).size = cp * inf.size := by
        simp only [Array.size_append, List.size_toArray, List.length_take, Array.length_toList, size_zeroCells, e3, hnl]
        rw [Nat.min_eq_left hrl, ← Nat.add_mul, ← Nat.add_mul]
        congr 1; omega
      generalize hnew : (cur.toList.take (rows.length * inf.size)).toArray ++ news.toArray ++ Builtin.zeroCells z.cells (cp - (rows.length + rows2.length)) = arr at hrun hsz
      have hM1 : StM G M fr rest a w.drew := ((hM.sub (.cons hp (.nil _)) (fun _ _ h => h)).tr' (Tr.drew w) |> fun _ => ((hM.perm hp.perm).sub (st' := rest) (rest := [(b, .arr e inf.size rows)]) (by
        have : Picks ((b, Entry.arr e inf.size rows) :: rest) rest [(b, .arr e inf.size rows)] := by
          clear hrun hM hp k fin hX hr hsrc
          induction rest with
          | nil => exact .nil _
          | cons x l ih => exact .cons (.next _ (.here _ _ _)) ih
        exact this) (fun _ _ h => h)).tr' (Tr.drew w))
      have hT := Tr.alloc w.drew arr e
      have hM2 := hM1.alloc arr e (.arr e inf.size (rows ++ rows2)) ⟨_, heap_alloc_new w.drew _, by rw [hsz, List.length_append]; exact Nat.mul_le_mul_right _ hcap, hs0, fun i row hi' => hlen2 row (List.mem_of_getElem? hi'), fun i row j av hi' hj => by
        refine Rep.mono (w := w) (fun _ h => h) (fun y hy => hT.same y (hM.sim.lt y hy) (by simp)) hT.bs ?_
        have hjl : j < inf.size := by rw [← hlen2 row (List.mem_of_getElem? hi')]; exact (List.getElem?_eq_some_iff.1 hj).1
        rw [← hnew]
        have e6 : ((cur.toList.take (rows.length * inf.size)).toArray ++ news.toArray).size = (rows.length + rows2.length) * inf.size := by
          simp only [Array.size_append, List.size_toArray, List.length_take, Array.length_toList, hnl]
          rw [Nat.min_eq_left hrl, ← Nat.add_mul]
        have hil := (List.getElem?_eq_some_iff.1 hi').1
        rw [List.length_append] at hil
        have hlt : i * inf.size + j < (rows.length + rows2.length) * inf.size := by
          have : (i + 1) * inf.size ≤ (rows.length + rows2.length) * inf.size := Nat.mul_le_mul_right _ hil
          rw [Nat.add_mul, Nat.one_mul] at this
          omega
        rw [Array.getD_eq_getD_getElem?, Array.getElem?_append_left (by omega)]
        by_cases hil : i < rows.length
        · rw [List.getElem?_append_left hil] at hi'
          have : (i + 1) * inf.size ≤ rows.length * inf.size := Nat.mul_le_mul_right _ hil
          rw [Nat.add_mul, Nat.one_mul] at this
          rw [Array.getElem?_append_left (by simp; omega)]
          have h6 := g4 i row j av hi' hj
          have h7 : i * inf.size + j < rows.length * inf.size := by omega
          simpa [Array.getD_eq_getD_getElem?, List.getElem?_take, h7] using h6
        · rw [List.getElem?_append_right (by omega)] at hi'
          have e5 : i * inf.size + j = rows.length * inf.size + ((i - rows.length) * inf.size + j) := by
            rw [← Nat.add_assoc, ← Nat.add_mul]; congr 2; omega
          have e7 : ((cur.toList.take (rows.length * inf.size)).toArray).size = rows.length * inf.size := by simp; omega
          rw [Array.getElem?_append_right (by omega), e7, show i * inf.size + j - rows.length * inf.size = (i - rows.length) * inf.size + j by omega]
          have := hnr (i - rows.length) row j av hi' hj
          simpa [List.getD] using this⟩
      refine fin _ _ w.heap.size (by rw [hvx, hv2]; exact hrun) (TrX.of_nil ((Tr.drew w).trans' hT)) (fun q hq => ?_) hM2 ?_
      · rcases List.mem_cons.1 hq with rfl | hq
        · exact .inr (Nat.le_refl _)
        · exact .inl (keys_same (e' := .arr e inf.size rows) hp (List.mem_cons_of_mem _ hq))
      · have := Rep.own (M := M) (w := w.drew.alloc (.cells arr e)) inf.size w.heap.size 0 (rows.length + rows2.length) cp arr.size (bsize_of (heap_alloc_new w.drew _)) (by rw [hsz, Nat.zero_add]) hcap (by omega)
        rwa [Nat.zero_mul] at this

end
end Go.Fw
