/-
  The framework, part Q: putting elements in in place: copies within a block's room, capacities, clearing that keeps the room, slices that do not overlap. It holds for every program. Condition: none.
-/
import Derived.Lib.Overlaps
import Derived.Test.YtejlhpmmgjfllaaFwP
namespace Go.Fw
open Go
set_option linter.unusedVariables false
set_option linter.unusedSimpArgs false

section
variable {P : Program} {G : Gh} {Y : World → World → Prop} {X : Option (List Nat × List Nat)} {K : Fr → Store → Prop} {M : Nat → Prop} {fr : Fr} {st : Store} {a : Act} {w : World}
variable {dst : Option Tmp} {ty : TypeId} {pos : String} {aft : Array Edge} {gd : Option (Nat × Bool)}

/-- How far a slice of the call's own may be stretched: at least over what is told of its block. -/
theorem op_cap {t te : TypeId} {s b off len : Nat} {x : Operand} {rows : List (List AV)} (hd : okDst G.n dst = true) (hs : isSlice P t = true) (hx : opv fr x = some (.own s b off len)) (hm : (b, .arr te s rows) ∈ st)
    (k : ∀ c : Nat, rows.length ≤ off + c → c ≤ maxLen → K (putF fr dst (.int .i64 c)) st) : Aop P G X ⟨dst, .call { callee := .builtin .cap, args := #[x], argTypes := #[t] }, ty, pos, aft, gd⟩ K fr st := fun a w ⟨M, hM⟩ Q => by
  have hr := opv_rep hM hx
  generalize hv : a.eval x = v at hr
  unfold isSlice at hs
  split at hs <;> try contradiction
  rename_i e hu
  obtain ⟨cs, g1, g2, g0, g3, g4⟩ := hM.sim.ent _ _ hm
  cases hr with
  | own _ _ _ _ c n h1 h2 h3 h4 =>
    have hn : n = cs.size := by rw [bsize_of g1] at h1; cases h1; rfl
    have hc : rows.length ≤ off + c := by
      have h5 : rows.length * s ≤ (off + c) * s := by rw [← h2, hn]; exact g2
      exact Nat.le_of_mul_le_mul_right h5 g0
    have hrun : (execOp a.eval ⟨dst, .call { callee := .builtin .cap, args := #[x], argTypes := #[t] }, ty, pos, aft, gd⟩).run P w = .ok (.value (.int .i64 c)) w := by
      simp [execOp, resolve, invoke, builtin, Builtin.cap_, run_underlying hu, hv, goInt]
    unfold Oper.wp
    rw [hrun]
    exact ⟨TrX.of_nil (Tr.refl _ _), _, _, fun _ hx => .inl hx, k c hc (by omega), M, hM.put hd (.int _ _)⟩

/-- copy: of a slice's first elements, into a slice of the call's own, within what is told of its block; both may lie in the same block. -/
theorem op_copy {t e : TypeId} {s by' b off len b2 off2 len2 : Nat} {x y : Operand} {rows rows2 : List (List AV)} {rest : Store} (m : Nat) (hm : m = min len2 len) (hd : okDst G.n dst = true) (he : elemOfT P t = some (e, s, by')) (hx : opv fr x = some (.own s b off len)) (hy : opv fr y = some (.own s b2 off2 len2))
    (hp : Pick st b (.arr e s rows) rest) (hr : Rows st (.own s b2 off2 m) rows2) (hl2 : rows2.length = m) (hfit : off + m ≤ rows.length) (hrow : ∀ r ∈ rows2, r.length = s) (hf : ∀ r ∈ rows2, r.all flat = true) (hX : InT X b rest)
    (k : K (putF fr dst (.int .i64 m)) ((b, .arr e s (rows.take off ++ rows2 ++ rows.drop (off + m))) :: rest)) :
    Aop P G X ⟨dst, .call { callee := .builtin .copy, args := #[x, y], argTypes := #[t, t] }, ty, pos, aft, gd⟩ K fr st := fun a w ⟨M, hM⟩ Q => by
  obtain ⟨inf, z, hu, hi, hz, e1, e2, e3, hs0⟩ := elemOfT_spec he
  subst e1 e2
  have hrx := opv_rep hM hx
  generalize hvx : a.eval x = vx at hrx
  have hry := opv_rep hM hy
  generalize hvy : a.eval y = vy at hry
  obtain ⟨cur, g1, g2, g0, g3, g4⟩ := hM.sim.ent _ _ hp.mem
  cases hrx with
  | own _ _ _ _ c n h1 h2 h3 h4 =>
  cases hry with
  | own _ _ _ _ c' n' h1' h2' h3' h4' =>
  have hsrc := src_of hs0 hM.sim (Rep.own (M := M) (w := w) inf.size b2 off2 m c' n' h1' h2' (by omega) h4') hr hrow hf
  obtain ⟨ad2, c2, hv2, hsrc⟩ := hsrc
  injection hv2 with q1 q2 q3
  have hn : n = cur.size := by rw [bsize_of g1] at h1; cases h1; rfl
  have hmin : Nat.min len2 len = m := hm.symm
  have fin : ∀ (w' : World), (Builtin.copy_ #[t, t] ty #[.slice (some ⟨b, off * inf.size, none⟩) len c, .slice (some ⟨b2, off2 * inf.size, none⟩) len2 c']).run P w = .ok (goInt m) w' → TrX X st w w' →
      StM G M fr ((b, .arr e inf.size (rows.take off ++ rows2 ++ rows.drop (off + m))) :: rest) a w' →
      (Oper.wp P ⟨dst, .call { callee := .builtin .copy, args := #[x, y], argTypes := #[t, t] }, ty, pos, aft, gd⟩ a w (fun a' w' => TrX X st w w' ∧ ∃ fr' st', (∀ x ∈ keys st', x ∈ keys st ∨ w.heap.size ≤ x) ∧ K fr' st' ∧ St G fr' st' a' w') Q) := by
    intro w' hrun ht hS
    simp only [Oper.wp, execOp, resolve, invoke, builtin, Sem.run_bind, Sem.run_pure, Result.andThen_ok, List.map_toArray, List.map_cons, List.map_nil, hvx, hvy, hrun, Oper.upon_value]
    exact ⟨ht, _, _, fun q hq => .inl (keys_same hp hq), k, M, hS.put hd (.int _ _)⟩
  by_cases h0 : rows2 = []
  · subst h0
    have hm0 : m = 0 := hl2.symm
    have hrun : (Builtin.copy_ #[t, t] ty #[.slice (some ⟨b, off * inf.size, none⟩) len c, .slice (some ⟨b2, off2 * inf.size, none⟩) len2 c']).run P w = .ok (goInt m) w := by
      have hl : ∀ (x : Addr), (loadCells x 0).run P w = .ok #[] w := fun x => by simpa using run_loadCells_list (P := P) (w := w) x [] (by simp)
      subst hm0
      simp [Builtin.copy_, run_underlying hu, Builtin.lenOf, Builtin.firstCells, sizeOf, typeInfo, hi, hmin, storeCells, hl]
    refine fin w hrun (TrX.of_nil (Tr.refl _ _)) ?_
    rw [hm0, Nat.add_zero, List.append_nil, List.take_append_drop]
    exact hM.perm hp.perm
  · obtain ⟨ad', news, rfl, hnl, hnc, hnf, hnr⟩ := hsrc.resolve_left h0
    cases q1
    have hroom : off + m ≤ off + c := by omega
    have hnl' : news.length = m * inf.size := by rw [hnl, hl2]
    have hfit' : off * inf.size + news.length ≤ cur.size := by rw [hnl', ← Nat.add_mul, ← hn, h2]; exact Nat.mul_le_mul_right _ hroom
    have hload := run_loadCells_list (P := P) (w := w) ⟨b2, off2 * inf.size, none⟩ news hnc
    have hst := run_storeCells_at P b (off * inf.size) e news 0 cur w g1 hfit' hnf
    simp only [Nat.add_zero] at hst
    rw [hnl'] at hload
    have hrun : (Builtin.copy_ #[t, t] ty #[.slice (some ⟨b, off * inf.size, none⟩) len c, .slice (some ⟨b2, off2 * inf.size, none⟩) len2 c']).run P w = .ok (goInt m) (w.setRow b (cur.toList.take (off * inf.size) ++ news ++ cur.toList.drop (off * inf.size + news.length)).toArray) := by
      simp [Builtin.copy_, run_underlying hu, Builtin.lenOf, Builtin.firstCells, sizeOf, typeInfo, hi, hmin, hload, hst]
    have hsz : ((cur.toList.take (off * inf.size) ++ news ++ cur.toList.drop (off * inf.size + news.length)).toArray).size = cur.size := by simp; omega
    have hT := Tr.setRow g1 hsz
    have hb' : ¬ M b := hM.sim.notM _ _ hp.mem
    have hlen' : (rows.take off ++ rows2 ++ rows.drop (off + m)).length = rows.length := by simp; omega
    have hmem : ∀ r ∈ rows.take off ++ rows2 ++ rows.drop (off + m), r.length = inf.size := fun r hr => by
      rcases List.mem_append.1 hr with hr | hr
      · rcases List.mem_append.1 hr with hr | hr
        · obtain ⟨i, hi⟩ := List.mem_iff_getElem?.1 (List.mem_of_mem_take hr)
          exact g3 i r hi
        · exact hrow r hr
      · obtain ⟨i, hi⟩ := List.mem_iff_getElem?.1 (List.mem_of_mem_drop hr)
        exact g3 i r hi
    refine fin _ hrun (TrX.of_one hX hp hM.sim hT) (hM.write hp hT ?_)
    refine ⟨_, setRow_heap w b cur _ e _ g1, by rw [hsz, hlen']; exact g2, hs0, fun i row hi' => hmem row (List.mem_of_getElem? hi'), fun i row j av hi' hj => ?_⟩
    refine Rep.mono (w := w) (fun _ h => h) (fun y hy => hT.same y (hM.sim.lt y hy) (by simp; rintro rfl; exact hb' hy)) hT.bs ?_
    have e1 : ∀ (arr : List Value) (n : Nat), (arr.toArray).getD n undef = (arr[n]?).getD undef := fun arr n => by simp [Array.getD_eq_getD_getElem?]
    rw [e1, splice_get cur.toList _ _ _ (by simpa using hfit')]
    have hjl : j < inf.size := by rw [← hmem row (List.mem_of_getElem? hi')]; exact (List.getElem?_eq_some_iff.1 hj).1
    have htl : (rows.take off).length = off := by simp; omega
    by_cases hil : i < off
    · rw [List.append_assoc, List.getElem?_append_left (by omega), List.getElem?_take, if_pos hil] at hi'
      have : (i + 1) * inf.size ≤ off * inf.size := Nat.mul_le_mul_right _ hil
      rw [Nat.add_mul, Nat.one_mul] at this
      rw [if_neg (by omega)]
      have := g4 i row j av hi' hj
      simpa [Array.getD_eq_getD_getElem?] using this
    · by_cases hil2 : i < off + m
      · rw [List.append_assoc, List.getElem?_append_right (by omega), htl, List.getElem?_append_left (by omega)] at hi'
        have hil3 := (List.getElem?_eq_some_iff.1 hi').1
        have e5 : i * inf.size + j = off * inf.size + ((i - off) * inf.size + j) := by
          rw [← Nat.add_assoc, ← Nat.add_mul]; congr 2; omega
        have : (i - off + 1) * inf.size ≤ rows2.length * inf.size := Nat.mul_le_mul_right _ hil3
        rw [Nat.add_mul, Nat.one_mul] at this
        rw [if_pos (by omega)]
        have := hnr (i - off) row j av hi' hj
        rw [show i * inf.size + j - off * inf.size = (i - off) * inf.size + j by omega]
        simpa [List.getD] using this
      · rw [List.getElem?_append_right (by simp; omega), List.getElem?_drop] at hi'
        have e6 : off + m + (i - (rows.take off ++ rows2).length) = i := by simp; omega
        rw [e6] at hi'
        have : (off + m) * inf.size ≤ i * inf.size := Nat.mul_le_mul_right _ (by omega)
        rw [Nat.add_mul] at this
        rw [if_neg (by omega)]
        have := g4 i row j av hi' hj
        simpa [Array.getD_eq_getD_getElem?] using this

/-- clear: of what was cleared it is told that it is there. -/
theorem op_clearA {t e : TypeId} {s by' b off len : Nat} {x : Operand} {rows : List (List AV)} {zs : List AV} {rest : Store} (hd : okDst G.n dst = true) (he : elemOfT P t = some (e, s, by')) (hz : zeroOf P e = some zs) (hzf : zs.all flat = true) (hx : opv fr x = some (.own s b off len)) (h0 : 0 < len)
    (hp : Pick st b (.arr e s rows) rest) (hX : InT X b rest)
    (k : K (putF fr dst .any) ((b, .arr e s (rows.take off ++ List.replicate len (List.replicate s .any))) :: rest)) :
    Aop P G X ⟨dst, .call { callee := .builtin .clear, args := #[x], argTypes := #[t] }, ty, pos, aft, gd⟩ K fr st := fun a w ⟨M, hM⟩ Q => by
  obtain ⟨inf, z, hu, hi, hz', e1, e2, e3, hs0⟩ := elemOfT_spec he
  subst e1 e2
  obtain ⟨z', q0, q1, q2⟩ := run_zeroValue hz
  have hzz : z' = z := by
    have h1 := q0 w
    simp [zeroValue, typeInfo, hi, hz'] at h1
    exact h1.symm
  subst hzz
  have hrx := opv_rep hM hx
  generalize hvx : a.eval x = vx at hrx
  obtain ⟨cur, g1, g2, g0, g3, g4⟩ := hM.sim.ent _ _ hp.mem
  cases hrx with
  | own _ _ _ _ c n h1 h2 h3 h4 =>
  have hn : n = cur.size := by rw [bsize_of g1] at h1; cases h1; rfl
  have hzl : (Builtin.zeroCells z'.cells len).toList.length = len * inf.size := by
    rw [Array.length_toList, size_zeroCells, e3]
  generalize hnews : (Builtin.zeroCells z'.cells len).toList = news at hzl
  have hone : ∀ v ∈ news, v.oneCell' = true := fun v hv => by
    rw [← hnews] at hv
    simp [Builtin.zeroCells] at hv
    obtain ⟨i, hi1, hi2⟩ := hv
    have hm : i % z'.cells.size < z'.cells.size := Nat.mod_lt _ (by rw [e3]; exact hs0)
    have h5 := q2 M w (i % z'.cells.size) _ (List.getElem?_eq_getElem (by rw [← q1]; exact hm))
    have h6 := flat_rep h5 (List.all_eq_true.1 hzf _ (List.getElem_mem _))
    rw [← hi2]
    simpa [Array.getD_eq_getD_getElem?, hm] using h6
  have hfit : off * inf.size + 0 + news.length ≤ cur.size := by
    rw [hzl, Nat.add_zero, ← Nat.add_mul, ← hn, h2]
    exact Nat.mul_le_mul_right _ (by omega)
  have hst := run_storeCells_at P b (off * inf.size) e news 0 cur w g1 hfit hone
  simp only [Nat.add_zero] at hst
  obtain ⟨m, rfl⟩ : ∃ m, len = m + 1 := ⟨len - 1, by omega⟩
  have hrun : (Builtin.clear_ #[t] ty #[.slice (some ⟨b, off * inf.size, none⟩) (m + 1) c]).run P w = .ok (.tuple #[]) (w.setRow b (cur.toList.take (off * inf.size) ++ news ++ cur.toList.drop (off * inf.size + news.length)).toArray) := by
    simp [Builtin.clear_, run_underlying hu, q0, hnews, hst]
  have hfit' : off * inf.size + news.length ≤ cur.size := hfit
  have hsz : ((cur.toList.take (off * inf.size) ++ news ++ cur.toList.drop (off * inf.size + news.length)).toArray).size = cur.size := by simp; omega
  have hT := Tr.setRow g1 hsz
  have hb' : ¬ M b := hM.sim.notM _ _ hp.mem
  have hE : ERep M (w.setRow b (cur.toList.take (off * inf.size) ++ news ++ cur.toList.drop (off * inf.size + news.length)).toArray) b (.arr e inf.size (rows.take off ++ List.replicate (m + 1) (List.replicate inf.size .any))) := by
    have htk : ∀ (i : Nat) row, (rows.take off)[i]? = some row → i < off ∧ rows[i]? = some row := fun i row hi' => by
      rw [List.getElem?_take] at hi'
      split at hi'
      · exact ⟨‹_›, hi'⟩
      · cases hi'
    have hany : ∀ (i : Nat) row, (rows.take off ++ List.replicate (m + 1) (List.replicate inf.size AV.any))[i]? = some row → (rows.take off)[i]? = some row ∨ row = List.replicate inf.size .any := fun i row hi' => by
      rcases Nat.lt_or_ge i (rows.take off).length with h | h
      · rw [List.getElem?_append_left h] at hi'; exact .inl hi'
      · rw [List.getElem?_append_right h, List.getElem?_replicate] at hi'
        split at hi'
        · cases hi'; exact .inr rfl
        · cases hi'
    refine ⟨_, setRow_heap w b cur _ e _ g1, ?_, hs0, fun i row hi' => ?_, fun i row j av hi' hj => ?_⟩
    · rw [hsz, List.length_append, List.length_replicate, ← hn, h2]
      refine Nat.mul_le_mul_right _ ?_
      rw [List.length_take]; omega
    · rcases hany i row hi' with h | h
      · exact g3 i row (htk i row h).2
      · rw [h, List.length_replicate]
    · rcases hany i row hi' with hi' | h
      · obtain ⟨hio, hi2⟩ := htk i row hi'
        refine Rep.mono (w := w) (fun _ h => h) (fun y hy => hT.same y (hM.sim.lt y hy) (by simp; rintro rfl; exact hb' hy)) hT.bs ?_
        have e1 : ∀ (arr : List Value) (n : Nat), (arr.toArray).getD n undef = (arr[n]?).getD undef := fun arr n => by simp [Array.getD_eq_getD_getElem?]
        rw [e1, splice_get cur.toList _ _ _ (by simpa using hfit')]
        have hjl : j < inf.size := by rw [← g3 i row hi2]; exact (List.getElem?_eq_some_iff.1 hj).1
        have : (i + 1) * inf.size ≤ off * inf.size := Nat.mul_le_mul_right _ hio
        rw [Nat.add_mul, Nat.one_mul] at this
        rw [if_neg (by omega)]
        have := g4 i row j av hi2 hj
        simpa [Array.getD_eq_getD_getElem?] using this
      · rw [h, List.getElem?_replicate] at hj
        split at hj
        · cases hj; exact .any _
        · cases hj
  simp only [Oper.wp, execOp, resolve, invoke, builtin, Sem.run_bind, Sem.run_pure, Result.andThen_ok, List.map_toArray, List.map_cons, List.map_nil, hvx, hrun, Oper.upon_value]
  exact ⟨TrX.of_one hX hp hM.sim hT, _, _, fun _ hx => .inl (keys_same hp hx), k, M, (hM.write hp hT hE).put hd (.any _)⟩

/-- What is to be known of a function that is the model's entry for slices.overlaps. -/
def IsOverlaps (P : Program) (f : FuncId) (t tR : TypeId) : Prop :=
  ∃ fn, P.funcs[f]? = some fn ∧ (fn.name == "runtime.NumGoroutine") = false ∧ fn.body.isNone = true ∧ Extern.findNext fn = none ∧ Extern.find fn = some (Extern.SlicesOverlaps.overlaps #[t, t] #[tR])

/-- Slices of two blocks of the call's own do not overlap. -/
theorem op_overlaps {f : FuncId} {t tR e t1 t2 : TypeId} {s by' b off len b2 off2 len2 : Nat} {c x y : Operand} {tt : Array TypeId} {rows rows2 : List (List AV)} {rest : Store} (ho : IsOverlaps P f t tR) (hd : okDst G.n dst = true) (he : elemOfT P t = some (e, s, by')) (hc : opv fr c = some (.fn f []))
    (hx : opv fr x = some (.own s b off len)) (hy : opv fr y = some (.own s b2 off2 len2)) (hp : Pick st b (.arr t1 s rows) rest) (hm : (b2, .arr t2 s rows2) ∈ rest) (h0 : 0 < rows2.length) (k : K (putF fr dst (.bool false)) st) :
    Aop P G X ⟨dst, .call { callee := .value c, args := #[x, y], argTypes := tt }, ty, pos, aft, gd⟩ K fr st := fun a w ⟨M, hM⟩ Q => by
  obtain ⟨fn, f1, f2, f3, f4, f5⟩ := ho
  obtain ⟨inf, z, hu, hi, hz', e1, e2, e3, hs0⟩ := elemOfT_spec he
  subst e1 e2
  have hrc := opv_rep hM hc
  generalize hvc : a.eval c = vc at hrc
  have hrx := opv_rep hM hx
  generalize hvx : a.eval x = vx at hrx
  have hry := opv_rep hM hy
  generalize hvy : a.eval y = vy at hry
  have hMp := hM.perm hp.perm
  have hne : b ≠ b2 := by
    have := hMp.sim.nodup
    rw [show keys ((b, Entry.arr t1 inf.size rows) :: rest) = b :: keys rest from rfl, List.nodup_cons] at this
    rintro rfl
    exact this.1 (mem_keys hm)
  obtain ⟨cs, g1, g2, g0, g3, g4⟩ := hM.sim.ent _ _ hp.mem
  obtain ⟨cs2, j1, j2, j0, j3, j4⟩ := hMp.sim.ent _ _ (List.mem_cons_of_mem _ hm)
  have hk2 : cs2.size ≠ 0 := by
    have : 1 * inf.size ≤ rows2.length * inf.size := Nat.mul_le_mul_right _ h0
    omega
  cases hrx with
  | own _ _ _ _ c1 n1 h1 h2 h3 h4 =>
  cases hry with
  | own _ _ _ _ c2 n2 h1' h2' h3' h4' =>
  cases hrc with
  | fn _ arr _ hl hcap =>
    have harr : arr = #[] := by
      have : arr.size = 0 := by simpa using hl
      exact Array.eq_empty_of_size_eq_zero this
    subst harr
    have hov := Lib.run_overlaps_apart (P := P) w t tR e hu inf.size (fun w => by simp [sizeOf, typeInfo, hi]) ⟨b, off * inf.size, none⟩ ⟨b2, off2 * inf.size, none⟩ len c1 len2 c2 hne t1 t2 cs.size cs2.size (by simp [World.shape?, g1]) (by simp [World.shape?, j1]) hk2 (by simp [World.frozen?, g1]) (by simp [World.frozen?, g1])
    have hrun : (execOp a.eval ⟨dst, .call { callee := .value c, args := #[x, y], argTypes := tt }, ty, pos, aft, gd⟩).run P w = .ok (.value (.bool false)) w := by
      have h5 := run_callFunc_extern f1 f2 f3 f4 f5 #[.slice (some ⟨b, off * inf.size, none⟩) len c1, .slice (some ⟨b2, off2 * inf.size, none⟩) len2 c2] w
      rw [hov] at h5
      simpa [execOp, resolve, hvc, hvx, hvy, Deferred.ofValue, invoke] using h5
    unfold Oper.wp
    rw [hrun]
    exact ⟨TrX.of_nil (Tr.refl _ _), _, _, fun _ hx => .inl hx, k, M, hM.put hd (.bool _)⟩
end

/-! ### The same, told by lists -/
section
variable {P : Program} {G : Gh} {Y : World → World → Prop} {Q : Post} {X : Option (List Nat × List Nat)} {K : Fr → Store → Prop} {fr : Fr} {st : Store}
variable {d : Nat} {ty : TypeId} {pos : String} {aft : Array Edge} {gd : Option (Nat × Bool)}
theorem w_cap {t te : TypeId} {s b off len : Nat} {x : Operand} {rows : List (List AV)} (hd : Nat.blt d G.n = true) (hs : isSlice P t = true) (hx : opv fr x = some (.own s b off len)) (hm : (b, .arr te s rows) ∈ st)
    (k : ∀ c : Nat, rows.length ≤ off + c → c ≤ maxLen → K ((d, .int .i64 c) :: fr) st) : Aop P G X ⟨some d, .call { callee := .builtin .cap, args := #[x], argTypes := #[t] }, ty, pos, aft, gd⟩ K fr st := op_cap (dst := some d) hd hs hx hm k
theorem w_copy {α : Type} (f : α → List AV) {t e : TypeId} {s by' b off len b2 off2 len2 : Nat} {x y : Operand} {xs : List α} (ys : List α) {rest : Store} (m : Nat) (hm : m = min len2 len) (hd : Nat.blt d G.n = true) (he : elemOfT P t = some (e, s, by')) (hx : opv fr x = some (.own s b off len)) (hy : opv fr y = some (.own s b2 off2 len2))
    (hp : Pick st b (.arr e s (xs.map f)) rest) (hr : Rows st (.own s b2 off2 m) (ys.map f)) (hl2 : ys.length = m) (hfit : off + m ≤ xs.length) (hs : ∀ x ∈ ys, (f x).length = s) (hf : ∀ x ∈ ys, (f x).all flat = true) (hX : InT X b rest)
    (k : K ((d, .int .i64 m) :: fr) ((b, .arr e s ((xs.take off ++ ys ++ xs.drop (off + m)).map f)) :: rest)) :
    Aop P G X ⟨some d, .call { callee := .builtin .copy, args := #[x, y], argTypes := #[t, t] }, ty, pos, aft, gd⟩ K fr st :=
  op_copy (dst := some d) m hm hd he hx hy hp hr (by rw [List.length_map]; exact hl2) (by rw [List.length_map]; exact hfit) (fun r hr => by obtain ⟨x, hx, rfl⟩ := List.mem_map.1 hr; exact hs x hx) (fun r hr => by obtain ⟨x, hx, rfl⟩ := List.mem_map.1 hr; exact hf x hx) hX (by
    have := k
    rw [List.map_append, List.map_append, List.map_take, List.map_drop] at this
    exact this)
theorem w_clearA {α : Type} (f : α → List AV) (zs : List AV) {t e : TypeId} {s by' b off len : Nat} {x : Operand} {xs : List α} {rest : Store} (he : elemOfT P t = some (e, s, by')) (hz : zeroOf P e = some zs) (hzf : zs.all flat = true) (hx : opv fr x = some (.own s b off len)) (h0 : 0 < len)
    (hp : Pick st b (.arr e s (xs.map f)) rest) (hX : InT X b rest)
    (k : K fr ((b, .arr e s ((xs.take off).map f ++ List.replicate len (List.replicate s .any))) :: rest)) :
    Aop P G X ⟨none, .call { callee := .builtin .clear, args := #[x], argTypes := #[t] }, ty, pos, aft, gd⟩ K fr st :=
  op_clearA rfl he hz hzf hx h0 hp hX (by
    have := k
    rw [List.map_take] at this
    exact this)
theorem w_overlaps {f : FuncId} {t tR e t1 t2 : TypeId} {s by' b off len b2 off2 len2 : Nat} {c x y : Operand} {tt : Array TypeId} {rows rows2 : List (List AV)} {rest : Store} (ho : IsOverlaps P f t tR) (hd : Nat.blt d G.n = true) (he : elemOfT P t = some (e, s, by')) (hc : opv fr c = some (.fn f []))
    (hx : opv fr x = some (.own s b off len)) (hy : opv fr y = some (.own s b2 off2 len2)) (hp : Pick st b (.arr t1 s rows) rest) (hm : (b2, .arr t2 s rows2) ∈ rest) (h0 : 0 < rows2.length) (k : K ((d, .bool false) :: fr) st) :
    Aop P G X ⟨some d, .call { callee := .value c, args := #[x, y], argTypes := tt }, ty, pos, aft, gd⟩ K fr st := op_overlaps (dst := some d) ho hd he hc hx hy hp hm h0 k
theorem a_perm {c : Code} {st' : Store} (hp : st.Perm st') (h : awp P G c Q fr st') : awp P G c Q fr st :=
  a_less h (fun a w ⟨M, hM⟩ => ⟨M, hM.perm hp⟩)
end
end Go.Fw
