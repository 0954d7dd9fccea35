/-
  The framework, part M: taking elements out in place: append within a block's room, clear, cuts beyond a slice's end. It holds for every program. Condition: none.
-/
import Derived.Test.YtejlhpmmgjfllaaFwL
namespace Go.Fw
open Go

section
variable {P : Program} {G : Gh} {Y : World → World → Prop} {X : Option (List Nat × List Nat)} {K : Fr → Store → Prop} {M : Nat → Prop} {fr : Fr} {st : Store} {a : Act} {w : World}
variable {dst : Option Tmp} {ty : TypeId} {pos : String} {aft : Array Edge} {gd : Option (Nat × Bool)}

/-- A cut that goes beyond the slice's end, within what is told of its block. -/
theorem p_slice_own_st {t te : TypeId} {s b off len : Nat} {x : Operand} {lo hi : Option Operand} {rows : List (List AV)} (l h : Nat) (hs : elemSize P t = some s) (hx : opv fr x = some (.own s b off len)) (hl : loIs fr lo l) (hh : hiIs fr hi h len) (hlh : l < h)
    (hm : (b, .arr te s rows) ∈ st) (hhl : off + h ≤ rows.length) : Pure P G Y fr st ⟨dst, .slice t x lo hi none, ty, pos, aft, gd⟩ (.own s b (off + l) (h - l)) := fun M a w hM => by
  have hr := opv_rep hM hx
  generalize hv : a.eval x = v at hr
  obtain ⟨cs, g1, g2, g0, g3, g4⟩ := hM.sim.ent _ _ hm
  cases hr with
  | own _ _ _ _ c n h1 h2 h3 h4 =>
    have hn : n = cs.size := by rw [bsize_of g1] at h1; cases h1; rfl
    have hc : h ≤ c := by
      have h5 : rows.length * s ≤ (off + c) * s := by rw [← h2, hn]; exact g2
      have := Nat.le_of_mul_le_mul_right h5 g0
      omega
    have := run_slice_of (P := P) hs (some ⟨b, off * s, none⟩) len c (lo.map a.eval) (hi.map a.eval) l h (hi_map hM hh hc) (lo_map hM hl) (by omega)
    refine ⟨_, ?_, fun w' _ => exec_slice (by rw [hv]; exact this) w'⟩
    rw [if_neg (by omega)]
    simp only [Option.map_some, Addr.add_lit, ← Nat.add_mul]
    exact .own s b (off + l) (h - l) (c - l) n h1 (by rw [h2]; congr 1; omega) (by omega) (by omega)

/-- A cut of nothing. -/
theorem p_slice_own_nil {t : TypeId} {s b off len : Nat} {x : Operand} {lo hi : Option Operand} (l : Nat) (hs : elemSize P t = some s) (hx : opv fr x = some (.own s b off len)) (hl : loIs fr lo l) (hh : hiIs fr hi l len) (hll : l ≤ len) :
    Pure P G Y fr st ⟨dst, .slice t x lo hi none, ty, pos, aft, gd⟩ (.sl []) := fun M a w hM => by
  have hr := opv_rep hM hx
  generalize hv : a.eval x = v at hr
  cases hr with
  | own _ _ _ _ c n h1 h2 h3 h4 =>
    have := run_slice_of (P := P) hs (some ⟨b, off * s, none⟩) len c (lo.map a.eval) (hi.map a.eval) l l (hi_map hM hh (by omega)) (lo_map hM hl) (Nat.le_refl _)
    refine ⟨_, ?_, fun w' _ => exec_slice (by rw [hv]; exact this) w'⟩
    rw [Nat.sub_self]
    exact .sl0 _ _

theorem run_slice3 {t : TypeId} {s : Nat} (hs : elemSize P t = some s) (ad : Option Addr) (len cap l h m : Nat) (k1 k2 k3 : IntKind) (h1 : l ≤ h) (h2 : h ≤ m) (h3 : m ≤ cap) (w : World) :
    (Instr.sliceAt t (.slice ad len cap) (some (.int k1 (l : Int))) (some (.int k2 (h : Int))) (some (.int k3 (m : Int)))).run P w = .ok (.slice (if m = l then ad else ad.map (·.add (l * s))) (h - l) (m - l)) w := by
  unfold elemSize at hs
  split at hs <;> try contradiction
  rename_i e hu
  cases hi' : P.info? e with
  | none => simp [hi'] at hs
  | some inf =>
    simp [hi'] at hs
    subst hs
    have b1 : ∀ (k : IntKind) (n y : Nat) code, n ≤ y → (Instr.sliceBound (.int k (n : Int)) y code).run P w = .ok n w := by
      intro k n y code hn
      have h1 : (0 : Int) ≤ n ∧ (n : Int) ≤ y := ⟨by omega, by omega⟩
      simp [Instr.sliceBound, asIntOf, h1]
    simp [Instr.sliceAt, Instr.slice, run_underlying hu, Instr.sliceBounds, sizeOf, typeInfo, hi', b1 k3 m cap _ h3, b1 k2 h m _ h2, b1 k1 l h _ h1]

/-- A slice expression with three bounds, of which nothing more is told. -/
theorem p_slice3 {t : TypeId} {s b off len : Nat} {x y z u : Operand} {k1 k2 k3 : IntKind} {n1 n2 n3 : Int} (l h m : Nat) (hs : elemSize P t = some s) (hx : opv fr x = some (.own s b off len)) (h1 : opv fr y = some (.int k1 n1)) (h2 : opv fr z = some (.int k2 n2)) (h3 : opv fr u = some (.int k3 n3))
    (e1 : n1 = (l : Int)) (e2 : n2 = (h : Int)) (e3 : n3 = (m : Int)) (q1 : l ≤ h) (q2 : h ≤ m) (q3 : m ≤ len) : Pure P G Y fr st ⟨dst, .slice t x (some y) (some z) (some u), ty, pos, aft, gd⟩ .any := fun M a w hM => by
  have hr := opv_rep hM hx
  generalize hv : a.eval x = v at hr
  subst e1 e2 e3
  cases hr with
  | own _ _ _ _ c n g1 g2 g3 g4 =>
    have f := fun w' => run_slice3 (P := P) hs (some ⟨b, off * s, none⟩) len c l h m k1 k2 k3 q1 q2 (by omega) w'
    refine ⟨.slice (if m = l then some ⟨b, off * s, none⟩ else (some (⟨b, off * s, none⟩ : Addr)).map (·.add (l * s))) (h - l) (m - l), .any _, fun w' _ => ?_⟩
    simp only [execOp, Option.map_some, Sem.run_bind, hv, (opv_rep hM h1).int_inv, (opv_rep hM h2).int_inv, (opv_rep hM h3).int_inv, f w', Result.andThen_ok, Sem.run_pure]

/-- An append that stays within what is told of the slice's block; what is appended may lie in the same block. -/
theorem op_append_in {t e : TypeId} {s by' b len : Nat} {x y : Operand} {ay : AV} {rows rows2 : List (List AV)} {rest : Store} (hd : okDst G.n dst = true) (he : elemOfT P t = some (e, s, by')) (hx : opv fr x = some (.own s b 0 len)) (hy : opv fr y = some ay)
    (hp : Pick st b (.arr e s rows) rest) (hr : Rows st ay rows2) (hfit : len + rows2.length ≤ rows.length) (hrow : ∀ r ∈ rows2, r.length = s) (hf : ∀ r ∈ rows2, r.all flat = true) (hX : InT X b rest)
    (k : K (putF fr dst (.own s b 0 (len + rows2.length))) ((b, .arr e s (rows.take len ++ rows2 ++ rows.drop (len + rows2.length))) :: rest)) :
    Aop P G X ⟨dst, .call { callee := .builtin .append, args := #[x, y], argTypes := #[t, t] }, ty, pos, aft, gd⟩ K fr st := fun a w ⟨M, hM⟩ Q => by
  obtain ⟨inf, z, hu, hi, hz, e1, e2, e3, hs0⟩ := elemOfT_spec he
  subst e1 e2
  have hrx := opv_rep hM hx
  generalize hvx : a.eval x = vx at hrx
  have hsrc := src_of hs0 hM.sim (opv_rep hM hy) hr hrow hf
  obtain ⟨ad2, c2, hv2, hsrc⟩ := hsrc
  obtain ⟨cur, g1, g2, g0, g3, g4⟩ := hM.sim.ent _ _ hp.mem
  cases hrx with
  | own _ _ _ _ c n h1 h2 h3 h4 =>
  have hn : n = cur.size := by rw [bsize_of g1] at h1; cases h1; rfl
  rw [Nat.zero_add] at h2 h4
  rw [Nat.zero_mul] at hvx
  have hcr : rows.length ≤ c := by
    have h5 : rows.length * inf.size ≤ c * inf.size := by rw [← h2, hn]; exact g2
    exact Nat.le_of_mul_le_mul_right h5 g0
  have fin : ∀ (v' : Value) (w' : World), (Builtin.append_ #[t, t] ty #[a.eval x, a.eval y]).run P w = .ok v' w' → TrX X st w w' →
      StM G M fr ((b, .arr e inf.size (rows.take len ++ rows2 ++ rows.drop (len + rows2.length))) :: rest) a w' → Rep M w' v' (.own inf.size b 0 (len + rows2.length)) →
      (Oper.wp P ⟨dst, .call { callee := .builtin .append, args := #[x, y], argTypes := #[t, t] }, ty, pos, aft, gd⟩ a w (fun a' w' => TrX X st w w' ∧ ∃ fr' st', (∀ x ∈ keys st', x ∈ keys st ∨ w.heap.size ≤ x) ∧ K fr' st' ∧ St G fr' st' a' w') Q) := by
    intro v' w' hrun ht hS hR
    simp only [Oper.wp, execOp, resolve, invoke, builtin, Sem.run_bind, Sem.run_pure, Result.andThen_ok, List.map_toArray, List.map_cons, List.map_nil, hrun, Oper.upon_value]
    exact ⟨ht, _, _, fun q hq => .inl (keys_same hp hq), k, M, hS.put hd hR⟩
  by_cases h0 : rows2 = []
  · subst h0
    have hrun := run_append_none (P := P) (ty := ty) hu hi (some ⟨b, 0, none⟩) ad2 len c c2 h3 w
    refine fin _ _ (by rw [hvx, hv2]; exact hrun) (TrX.of_nil (Tr.refl _ _)) ?_ ?_
    · simp only [List.append_nil, List.length_nil, Nat.add_zero, List.take_append_drop]
      exact hM.perm hp.perm
    · have := Rep.own (M := M) (w := w) inf.size b 0 len c n h1 (by rw [h2, Nat.zero_add]) h3 (by omega)
      rwa [Nat.zero_mul] at this
  · obtain ⟨ad', news, rfl, hnl, hnc, hnf, hnr⟩ := hsrc.resolve_left h0
    have hroom : len + rows2.length ≤ c := by omega
    have hfit' : len * inf.size + news.length ≤ cur.size := by rw [hnl, ← Nat.add_mul, ← hn, h2]; exact Nat.mul_le_mul_right _ hroom
    have hrun := run_append_room (P := P) w t ty e inf hu hi b len c cur g1 ad' rows2.length c2 news hnl hnc hnf hroom hfit'
    have hsz : ((cur.toList.take (len * inf.size) ++ news ++ cur.toList.drop (len * inf.size + news.length)).toArray).size = cur.size := by simp; omega
    have hT := Tr.setRow g1 hsz
    have hb' : ¬ M b := hM.sim.notM _ _ hp.mem
    have hlen' : (rows.take len ++ rows2 ++ rows.drop (len + rows2.length)).length = rows.length := by simp; omega
    have hmem : ∀ r ∈ rows.take len ++ rows2 ++ rows.drop (len + rows2.length), r.length = inf.size := fun r hr => by
      rcases List.mem_append.1 hr with hr | hr
      · rcases List.mem_append.1 hr with hr | hr
        · obtain ⟨i, hi⟩ := List.mem_iff_getElem?.1 (List.mem_of_mem_take hr)
          exact g3 i r hi
        · exact hrow r hr
      · obtain ⟨i, hi⟩ := List.mem_iff_getElem?.1 (List.mem_of_mem_drop hr)
        exact g3 i r hi
    refine fin _ _ (by rw [hvx, hv2]; exact hrun) (TrX.of_one hX hp hM.sim hT) (hM.write hp hT ?_) ?_
    · refine ⟨_, setRow_heap w b cur _ e _ g1, by rw [hsz, hlen']; exact g2, hs0, fun i row hi' => hmem row (List.mem_of_getElem? hi'), fun i row j av hi' hj => ?_⟩
      refine Rep.mono (w := w) (fun _ h => h) (fun y hy => hT.same y (hM.sim.lt y hy) (by simp; rintro rfl; exact hb' hy)) hT.bs ?_
      have e1 : ∀ (arr : List Value) (n : Nat), (arr.toArray).getD n undef = (arr[n]?).getD undef := fun arr n => by simp [Array.getD_eq_getD_getElem?]
      rw [e1, splice_get cur.toList _ _ _ (by simpa using hfit')]
      have hjl : j < inf.size := by rw [← hmem row (List.mem_of_getElem? hi')]; exact (List.getElem?_eq_some_iff.1 hj).1
      have htl : (rows.take len).length = len := by simp; omega
      by_cases hil : i < len
      · rw [List.append_assoc, List.getElem?_append_left (by omega), List.getElem?_take, if_pos hil] at hi'
        have : (i + 1) * inf.size ≤ len * inf.size := Nat.mul_le_mul_right _ hil
        rw [Nat.add_mul, Nat.one_mul] at this
        rw [if_neg (by omega)]
        have := g4 i row j av hi' hj
        simpa [Array.getD_eq_getD_getElem?] using this
      · by_cases hil2 : i < len + rows2.length
        · rw [List.append_assoc, List.getElem?_append_right (by omega), htl, List.getElem?_append_left (by omega)] at hi'
          have hil3 := (List.getElem?_eq_some_iff.1 hi').1
          have e5 : i * inf.size + j = len * inf.size + ((i - len) * inf.size + j) := by
            rw [← Nat.add_assoc, ← Nat.add_mul]; congr 2; omega
          have : (i - len + 1) * inf.size ≤ rows2.length * inf.size := Nat.mul_le_mul_right _ hil3
          rw [Nat.add_mul, Nat.one_mul] at this
          rw [if_pos (by omega)]
          have := hnr (i - len) row j av hi' hj
          rw [show i * inf.size + j - len * inf.size = (i - len) * inf.size + j by omega]
          simpa [List.getD] using this
        · rw [List.getElem?_append_right (by simp; omega), List.getElem?_drop] at hi'
          have e6 : len + rows2.length + (i - (rows.take len ++ rows2).length) = i := by simp; omega
          rw [e6] at hi'
          have : (len + rows2.length) * inf.size ≤ i * inf.size := Nat.mul_le_mul_right _ (by omega)
          rw [Nat.add_mul] at this
          rw [if_neg (by omega)]
          have := g4 i row j av hi' hj
          simpa [Array.getD_eq_getD_getElem?] using this
    · have := Rep.own (M := M) (w := w.setRow b _) inf.size b 0 (len + rows2.length) c n (by rw [bsize_of (setRow_heap w b cur _ e _ g1), hsz, hn]) (by rw [h2, Nat.zero_add]) hroom (by omega)
      rwa [Nat.zero_mul] at this

/-- clear: of what lies from the slice's beginning on, nothing is told any more. -/
theorem op_clear {t e : TypeId} {s by' b off len : Nat} {x : Operand} {rows : List (List AV)} {zs : List AV} {rest : Store} (hd : okDst G.n dst = true) (he : elemOfT P t = some (e, s, by')) (hz : zeroOf P e = some zs) (hzf : zs.all flat = true) (hx : opv fr x = some (.own s b off len)) (h0 : 0 < len)
    (hp : Pick st b (.arr e s rows) rest) (hX : InT X b rest)
    (k : K (putF fr dst .any) ((b, .arr e s (rows.take off)) :: rest)) :
    Aop P G X ⟨dst, .call { callee := .builtin .clear, args := #[x], argTypes := #[t] }, ty, pos, aft, gd⟩ K fr st := fun a w ⟨M, hM⟩ Q => by
  obtain ⟨inf, z, hu, hi, hz', e1, e2, e3, hs0⟩ := elemOfT_spec he
  subst e1 e2
  obtain ⟨z', q0, q1, q2⟩ := run_zeroValue hz
  have hzz : z' = z := by
    have h1 := q0 w
    simp [zeroValue, typeInfo, hi, hz'] at h1
    exact h1.symm
  subst hzz
  have hrx := opv_rep hM hx
  generalize hvx : a.eval x = vx at hrx
  obtain ⟨cur, g1, g2, g0, g3, g4⟩ := hM.sim.ent _ _ hp.mem
  cases hrx with
  | own _ _ _ _ c n h1 h2 h3 h4 =>
  have hn : n = cur.size := by rw [bsize_of g1] at h1; cases h1; rfl
  have hzl : (Builtin.zeroCells z'.cells len).toList.length = len * inf.size := by
    rw [Array.length_toList, size_zeroCells, e3]
  generalize hnews : (Builtin.zeroCells z'.cells len).toList = news at hzl
  have hone : ∀ v ∈ news, v.oneCell' = true := fun v hv => by
    rw [← hnews] at hv
    simp [Builtin.zeroCells] at hv
    obtain ⟨i, hi1, hi2⟩ := hv
    have hm : i % z'.cells.size < z'.cells.size := Nat.mod_lt _ (by rw [e3]; exact hs0)
    have h5 := q2 M w (i % z'.cells.size) _ (List.getElem?_eq_getElem (by rw [← q1]; exact hm))
    have h6 := flat_rep h5 (List.all_eq_true.1 hzf _ (List.getElem_mem _))
    rw [← hi2]
    simpa [Array.getD_eq_getD_getElem?, hm] using h6
  have hfit : off * inf.size + 0 + news.length ≤ cur.size := by
    rw [hzl, Nat.add_zero, ← Nat.add_mul, ← hn, h2]
    exact Nat.mul_le_mul_right _ (by omega)
  have hst := run_storeCells_at P b (off * inf.size) e news 0 cur w g1 hfit hone
  simp only [Nat.add_zero] at hst
  obtain ⟨m, rfl⟩ : ∃ m, len = m + 1 := ⟨len - 1, by omega⟩
  have hrun : (Builtin.clear_ #[t] ty #[.slice (some ⟨b, off * inf.size, none⟩) (m + 1) c]).run P w = .ok (.tuple #[]) (w.setRow b (cur.toList.take (off * inf.size) ++ news ++ cur.toList.drop (off * inf.size + news.length)).toArray) := by
    simp [Builtin.clear_, run_underlying hu, q0, hnews, hst]
  have hfit' : off * inf.size + news.length ≤ cur.size := hfit
  have hsz : ((cur.toList.take (off * inf.size) ++ news ++ cur.toList.drop (off * inf.size + news.length)).toArray).size = cur.size := by simp; omega
  have hT := Tr.setRow g1 hsz
  have hb' : ¬ M b := hM.sim.notM _ _ hp.mem
  have hE : ERep M (w.setRow b (cur.toList.take (off * inf.size) ++ news ++ cur.toList.drop (off * inf.size + news.length)).toArray) b (.arr e inf.size (rows.take off)) := by
    have htk : ∀ (i : Nat) row, (rows.take off)[i]? = some row → i < off ∧ rows[i]? = some row := fun i row hi' => by
      rw [List.getElem?_take] at hi'
      split at hi'
      · exact ⟨‹_›, hi'⟩
      · cases hi'
    refine ⟨_, setRow_heap w b cur _ e _ g1, ?_, hs0, fun i row hi' => g3 i row (htk i row hi').2, fun i row j av hi' hj => ?_⟩
    · rw [hsz]
      refine Nat.le_trans (Nat.mul_le_mul_right _ ?_) g2
      simp; omega
    · obtain ⟨hio, hi2⟩ := htk i row hi'
      refine Rep.mono (w := w) (fun _ h => h) (fun y hy => hT.same y (hM.sim.lt y hy) (by simp; rintro rfl; exact hb' hy)) hT.bs ?_
      have e1 : ∀ (arr : List Value) (n : Nat), (arr.toArray).getD n undef = (arr[n]?).getD undef := fun arr n => by simp [Array.getD_eq_getD_getElem?]
      rw [e1, splice_get cur.toList _ _ _ (by simpa using hfit')]
      have hjl : j < inf.size := by rw [← g3 i row hi2]; exact (List.getElem?_eq_some_iff.1 hj).1
      have : (i + 1) * inf.size ≤ off * inf.size := Nat.mul_le_mul_right _ hio
      rw [Nat.add_mul, Nat.one_mul] at this
      rw [if_neg (by omega)]
      have := g4 i row j av hi2 hj
      simpa [Array.getD_eq_getD_getElem?] using this
  simp only [Oper.wp, execOp, resolve, invoke, builtin, Sem.run_bind, Sem.run_pure, Result.andThen_ok, List.map_toArray, List.map_cons, List.map_nil, hvx, hrun, Oper.upon_value]
  exact ⟨TrX.of_one hX hp hM.sim hT, _, _, fun _ hx => .inl (keys_same hp hx), k, M, (hM.write hp hT hE).put hd (.any _)⟩

end

/-! ### The same, told by lists -/
section
variable {P : Program} {G : Gh} {Y : World → World → Prop} {X : Option (List Nat × List Nat)} {K : Fr → Store → Prop} {fr : Fr} {st : Store}
variable {d : Nat} {ty : TypeId} {pos : String} {aft : Array Edge} {gd : Option (Nat × Bool)}

theorem w_append_in {α : Type} (f : α → List AV) {t e : TypeId} {s by' b len : Nat} {x y : Operand} {ay : AV} {xs ys : List α} {rest : Store} (hd : Nat.blt d G.n = true) (he : elemOfT P t = some (e, s, by')) (hx : opv fr x = some (.own s b 0 len)) (hy : opv fr y = some ay)
    (hp : Pick st b (.arr e s (xs.map f)) rest) (hr : Rows st ay (ys.map f)) (hfit : len + ys.length ≤ xs.length) (hs : ∀ x, (f x).length = s) (hf : ∀ x, (f x).all flat = true) (hX : InT X b rest)
    (k : K ((d, .own s b 0 (len + ys.length)) :: fr) ((b, .arr e s ((xs.take len ++ ys ++ xs.drop (len + ys.length)).map f)) :: rest)) :
    Aop P G X ⟨some d, .call { callee := .builtin .append, args := #[x, y], argTypes := #[t, t] }, ty, pos, aft, gd⟩ K fr st :=
  op_append_in hd he hx hy hp hr (by simpa using hfit) (lenAll f ys hs) (flatAll f ys hf) hX (by
    have := k
    rw [List.map_append, List.map_append, List.map_take, List.map_drop] at this
    rw [List.length_map]
    exact this)
theorem w_clear {α : Type} (f : α → List AV) (z : α) {t e : TypeId} {s by' b off len : Nat} {x : Operand} {xs : List α} {rest : Store} (he : elemOfT P t = some (e, s, by')) (hz : zeroOf P e = some (f z)) (hzf : (f z).all flat = true) (hx : opv fr x = some (.own s b off len)) (h0 : 0 < len)
    (hp : Pick st b (.arr e s (xs.map f)) rest) (hX : InT X b rest)
    (k : K fr ((b, .arr e s ((xs.take off).map f)) :: rest)) :
    Aop P G X ⟨none, .call { callee := .builtin .clear, args := #[x], argTypes := #[t] }, ty, pos, aft, gd⟩ K fr st :=
  op_clear rfl he hz hzf hx h0 hp hX (by
    have := k
    rw [List.map_take] at this
    exact this)
theorem rowsAt {α : Type} {f : α → List AV} {t s b off len : Nat} {xs : List α} (h : (b, Entry.arr t s (xs.map f)) ∈ st) (hl : off + len ≤ xs.length) : Rows st (.own s b off len) (((xs.drop off).take len).map f) := by
  rw [List.map_take, List.map_drop]
  exact .ownAt h (by simpa using hl)
end

end Go.Fw
