/-
  The framework, part P: growing a nil slice; capacities. It holds for every program. Condition: none.
-/
import Derived.Lib.AppendZeros
import Derived.Test.YtejlhpmmgjfllaaFwO
namespace Go.Fw
open Go
set_option linter.unusedVariables false
set_option linter.unusedSimpArgs false

theorem run_grow {P : Program} (w : World) (ad : Option Addr) (t tn ty e : TypeId) (i : TypeInfo) (z : Value) (k kn : IntKind) (ht : P.underlying t = some (.slice e)) (htn : P.underlying tn = some (.int kn)) (hi : P.info? e = some i) (hz : i.zero = some z)
    (n : Nat) (h0 : 0 < n) (hs : 0 < i.size) (h63 : (n : Int) ≤ 9223372036854775807) (h48 : n * i.bytes ≤ 281474976710656) :
    (Builtin.append_ #[t, tn] ty #[.slice ad 0 0, .int k n]).run P w =
      .ok (.slice (some ⟨w.heap.size, 0, none⟩) n (grownCap w n 0 e)) (w.drew.alloc (.cells (Builtin.zeroCells z.cells n ++ Builtin.zeroCells z.cells (grownCap w n 0 e - n)) e)) := by
  cases ad with
  | none => exact Lib.run_append_nil_zeros w t tn ty e i z k kn ht htn hi hz n h0 hs h63 h48
  | some ad =>
    have hn : n ≠ 0 := by omega
    have hw : IntKind.i64.wrap (n : Int) = n := by rw [IntKind.wrap_i64]; omega
    have h63' : ¬ (9223372036854775807 < (n : Int)) := by omega
    have h48' : ¬ (281474976710656 < Builtin.nextslicecap n 0 * i.bytes) := by rw [nextslicecap_zero h0]; omega
    have h48i : ¬ (281474976710656 < (n : Int) * (i.bytes : Int)) := by
      rw [← Int.natCast_mul]
      omega
    have hneg : ¬ ((n : Int) < 0) := by omega
    have hns : ¬ (n * i.size = 0) := Nat.mul_ne_zero hn (by omega)
    simp [Builtin.append_, run_underlying ht, run_underlying htn, sizeOf, typeInfo, zeroValue, hi, hz, asInt, asIntOf, hw, hn, hneg, hns, h63', h48', h48i, Question.forced, Builtin.firstCells, loadCells, loadCellsFrom, newRow, grownCap]

section
variable {P : Program} {G : Gh} {Y : World → World → Prop} {X : Option (List Nat × List Nat)} {K : Fr → Store → Prop} {M : Nat → Prop} {fr : Fr} {st : Store} {a : Act} {w : World}
variable {dst : Option Tmp} {ty : TypeId} {pos : String} {aft : Array Edge} {gd : Option (Nat × Bool)}

/-- .. append(nil, make([]T, n)...): a new block; of its zeros nothing is told. -/
theorem op_grow {t tn e : TypeId} {s by' : Nat} {x y : Operand} {k kn : IntKind} {n : Int} (m : Nat) (hd : okDst G.n dst = true) (he : elemOfT P t = some (e, s, by')) (htn : P.underlying tn = some (.int kn)) (hx : opv fr x = some .nil) (hy : opv fr y = some (.int k n))
    (hn : n = (m : Int)) (h0 : 0 < m) (hb : m * by' ≤ 281474976710656) (h63 : m ≤ 9223372036854775807)
    (kk : ∀ b, K (putF fr dst (.own s b 0 m)) ((b, .arr e s []) :: st)) : Aop P G X ⟨dst, .call { callee := .builtin .append, args := #[x, y], argTypes := #[t, tn] }, ty, pos, aft, gd⟩ K fr st := fun a w ⟨M, hM⟩ Q => by
  obtain ⟨inf, z, hu, hi, hz, e1, e2, e3, hs0⟩ := elemOfT_spec he
  subst e1 e2 hn
  have hrx := opv_rep hM hx
  generalize hvx : a.eval x = vx at hrx
  cases hrx with
  | nil ad =>
  have hvy := (opv_rep hM hy).int_inv
  have hrun := run_grow (P := P) w ad t tn ty e inf z k kn hu htn hi hz m h0 hs0 (by omega) hb
  have hcap := grownCap_ge w m 0 e
  have hcapm := grownCap_le_maxLen w m 0 e (maxLen_big h63)
  generalize grownCap w m 0 e = cp at hrun hcap hcapm
  have hsz : (Builtin.zeroCells z.cells m ++ Builtin.zeroCells z.cells (cp - m)).size = cp * inf.size := by
    simp only [Array.size_append, size_zeroCells, e3]
    rw [← Nat.add_mul]
    congr 1; omega
  generalize Builtin.zeroCells z.cells m ++ Builtin.zeroCells z.cells (cp - m) = arr at hrun hsz
  have hM1 : StM G M fr st a w.drew := hM.tr' (Tr.drew w)
  have hT := Tr.alloc w.drew arr e
  have hM2 := hM1.alloc arr e (.arr e inf.size []) ⟨_, heap_alloc_new w.drew _, by simp, hs0, (fun i row hi' => by simp at hi'), fun i row j av hi' hj => by simp at hi'⟩
  simp only [Oper.wp, execOp, resolve, invoke, builtin, Sem.run_bind, Sem.run_pure, Result.andThen_ok, List.map_toArray, List.map_cons, List.map_nil, hvx, hvy, hrun, Oper.upon_value]
  refine ⟨TrX.of_nil ((Tr.drew w).trans' hT), _, _, fun q hq => ?_, kk w.heap.size, M, hM2.put hd ?_⟩
  · rcases List.mem_cons.1 hq with rfl | hq
    · exact .inr (Nat.le_refl _)
    · exact .inl hq
  · have := Rep.own (M := M) (w := w.drew.alloc (.cells arr e)) inf.size w.heap.size 0 m cp arr.size (bsize_of (heap_alloc_new w.drew _)) (by rw [hsz, Nat.zero_add]) hcap (by omega)
    rwa [Nat.zero_mul] at this

theorem p_cap_nil {t : TypeId} {x : Operand} (hs : isSlice P t = true) (hx : opv fr x = some .nil) : Pure P G Y fr st ⟨dst, .call { callee := .builtin .cap, args := #[x], argTypes := #[t] }, ty, pos, aft, gd⟩ (.int .i64 0) := fun M a w h => by
  have hrx := opv_rep h hx
  generalize hv : a.eval x = v at hrx
  unfold isSlice at hs
  split at hs <;> try contradiction
  rename_i e hu
  refine ⟨.int .i64 0, .int _ _, fun w' _ => ?_⟩
  cases hrx
  simp [execOp, resolve, invoke, builtin, Builtin.cap_, run_underlying hu, hv, goInt]
theorem p_slice_nil {t : TypeId} {s : Nat} {x : Operand} {hi : Option Operand} (hs : elemSize P t = some s) (hx : opv fr x = some .nil) (hh : hiIs fr hi 0 0) : Pure P G Y fr st ⟨dst, .slice t x none hi none, ty, pos, aft, gd⟩ .nil := fun M a w hM => by
  have hr := opv_rep hM hx
  generalize hv : a.eval x = v at hr
  cases hr with
  | nil ad =>
    have := run_slice_of (P := P) hs ad 0 0 none (hi.map a.eval) 0 0 (hi_map hM hh (by omega)) rfl (by omega)
    exact ⟨_, .nil _, fun w' _ => exec_slice (by rw [hv]; exact this) w'⟩
end
section
variable {P : Program} {G : Gh} {X : Option (List Nat × List Nat)} {K : Fr → Store → Prop} {fr : Fr} {st : Store} {d : Nat} {ty : TypeId} {pos : String} {aft : Array Edge} {gd : Option (Nat × Bool)}
theorem w_grow {t tn e : TypeId} {s by' : Nat} {x y : Operand} {k kn : IntKind} {n : Int} (m : Nat) (hd : Nat.blt d G.n = true) (he : elemOfT P t = some (e, s, by')) (htn : P.underlying tn = some (.int kn)) (hx : opv fr x = some .nil) (hy : opv fr y = some (.int k n))
    (hn : n = (m : Int)) (h0 : 0 < m) (hb : m * by' ≤ 281474976710656) (h63 : m ≤ 9223372036854775807)
    (kk : ∀ b, K ((d, .own s b 0 m) :: fr) ((b, .arr e s []) :: st)) : Aop P G X ⟨some d, .call { callee := .builtin .append, args := #[x, y], argTypes := #[t, tn] }, ty, pos, aft, gd⟩ K fr st :=
  op_grow (dst := some d) m hd he htn hx hy hn h0 hb h63 kk
end
end Go.Fw
