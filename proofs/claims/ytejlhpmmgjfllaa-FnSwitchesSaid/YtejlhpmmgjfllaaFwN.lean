/-
  The framework, part N: drawing choices from bytes: the cursor. It holds for every program. Condition: none.
-/
import Derived.Test.YtejlhpmmgjfllaaFwI
import Derived.Test.YtejlhpmmgjfllaaFwL
namespace Go.Fw
open Go

/-- What the cursor's block holds. -/
def curE (bs : List Int) (a s : Int) : Entry := .box [.sl (bs.map eByte), .int .i64 a, .int .u64 s]
def Bytes (bs : List Int) : Prop := bs.length ≤ 65536 ∧ ∀ x ∈ bs, 0 ≤ x ∧ x ≤ 255
theorem Bytes.at {bs : List Int} (h : Bytes bs) {j : Nat} (hj : j < bs.length) : 0 ≤ bs.getD j 0 ∧ bs.getD j 0 ≤ 255 := by
  rw [List.getD_eq_getElem?_getD, List.getElem?_eq_getElem hj]
  exact h.2 _ (List.getElem_mem hj)
theorem wrap_small {x : Int} (h : 0 ≤ x ∧ x ≤ 255) : IntKind.i64.wrap x = x := wrap_in (by unfold InI; omega)
theorem and255 (x : Int) : 0 ≤ bits .and .u64 x 255 ∧ bits .and .u64 x 255 ≤ 255 := by
  have h : (BitVec.ofInt IntKind.u64.bits x &&& BitVec.ofInt IntKind.u64.bits 255).toNat ≤ 255 := by
    rw [BitVec.toNat_and]
    exact Nat.le_trans Nat.and_le_right (by decide)
  show 0 ≤ IntKind.u64.wrap (((BitVec.ofInt IntKind.u64.bits x &&& BitVec.ofInt IntKind.u64.bits 255).toNat : Nat) : Int) ∧ IntKind.u64.wrap (((BitVec.ofInt IntKind.u64.bits x &&& BitVec.ofInt IntKind.u64.bits 255).toNat : Nat) : Int) ≤ 255
  generalize (BitVec.ofInt IntKind.u64.bits x &&& BitVec.ofInt IntKind.u64.bits 255).toNat = n at h
  have : IntKind.u64.wrap (n : Int) = (n : Int) := by
    simp only [IntKind.wrap, IntKind.bits, IntKind.signed, Bool.false_and, Bool.false_eq_true, if_false]; omega
  omega
theorem freezeE {P : Program} {f : FuncId} {args : List AV} {R : AV → Store → Prop} {R' : AV → Prop} (h : ACalls P f args [] R) (hf : ∀ r st', R r st' → ∃ r', Vw st' r r' ∧ R' r') : ACalls P f args [] (fun r st => R' r ∧ st = []) := fun M w vs h1 h2 h3 =>
  (h M w vs h1 h2 h3).mono fun e w' ⟨v, r, st', M', e1, hR, hr, hs, ht, hm, hm', hk⟩ => by
    obtain ⟨r', hv, hR'⟩ := hf r st' hR
    exact ⟨v, r', [], fun b => M' b ∨ b ∈ keys st', e1, ⟨hR', rfl⟩, vw_rep hs (fun _ h => .inl h) (fun _ h => .inr h) _ _ _ hv hr,
      ⟨List.nodup_nil, (fun _ _ hb => by cases hb), (fun _ _ hb => by cases hb), fun b hb => hb.elim (hs.lt b) hs.key_lt⟩, ht, fun b hb => .inl (hm b hb),
      fun b hb => hb.elim (hm' b) (fun h => (hk b h).elim (fun h => by cases h) (fun h => .inr (.inr h))), fun b hb => by cases hb⟩
section
variable {P : Program} {G : Gh} {X : Option (List Nat × List Nat)} {K : Fr → Store → Prop} {fr : Fr} {st : Store} {R : AV → Store → Prop}
variable {dst : Option Tmp} {ty : TypeId} {pos : String} {aft : Array Edge} {gd : Option (Nat × Bool)}
/-- A callee that may write some of the caller's blocks (st1); nothing is lent to it. -/
theorem op_callM0 {f : FuncId} {c : Operand} {args : Array Operand} {tt : Array TypeId} {caps avs : List AV} {st1 st2 : Store} (hd : okDst G.n dst = true) (hf : opv fr c = some (.fn f caps)) (ha : argsA fr args.toList = some avs) (hc : callable P f = true) (hp : Picks st st1 st2)
    (h : ACalls P f (avs ++ caps) st1 R) (hX : InTs X st1 st2) (k : ∀ r st', R r st' → K (putF fr dst r) (st' ++ st2)) : Aop P G X ⟨dst, .call { callee := .value c, args := args, argTypes := tt }, ty, pos, aft, gd⟩ K fr st := fun a w ⟨M, hM⟩ Q => by
  have hMp := hM.perm hp.perm
  have hs1 := hMp.sim.left
  have hs2 := hMp.sim.right
  have hdis : ∀ b, b ∈ keys st1 → b ∈ keys st2 → False := fun b h3 h4 => by
    have := hMp.sim.nodup
    rw [keys_append] at this
    exact (List.nodup_append.1 this).2.2 b h3 b h4 rfl
  refine call_wp hM hf ha hc (fun vs h1 h2 => (h M w vs hs1 h1 h2).mono ?_)
  rintro e w' ⟨v, r, st', M', rfl, hR, hr, hs, ht, hm, hm', hk⟩
  have hT1 : ∀ x ∈ keys st1, ¬ M x ∧ x ∉ keys st2 := fun x hx => by
    obtain ⟨e', he'⟩ := of_mem_keys hx
    exact ⟨hs1.notM x e' he', hdis x hx⟩
  have hk1 : ∀ x ∈ keys st1, x ∈ keys st := fun x hx => by
    obtain ⟨e', he'⟩ := of_mem_keys hx
    exact mem_keys (hp.perm.mem_iff.2 (List.mem_append_left _ he'))
  have hk2 : ∀ x ∈ keys st2, x ∈ keys st := fun x hx => by
    obtain ⟨e', he'⟩ := of_mem_keys hx
    exact mem_keys (hp.perm.mem_iff.2 (List.mem_append_right _ he'))
  have hs2' := hs2.tr ht hT1
  have hMs : ∀ b, M b → w'.heap[b]? = w.heap[b]? := fun b hb => ht.same b (hM.sim.lt b hb) (fun hx => (hT1 b hx).1 hb)
  have hs2'' : Sim M' w' st2 := ⟨hs2'.nodup, fun b e hb => (hs2'.ent b e hb).mono hm (fun _ _ => rfl) (fun _ _ => rfl) rfl, fun b e hb hb' => by
    rcases hm' b hb' with h | h | h
    · exact hs2.notM b e hb h
    · exact hdis b h (mem_keys hb)
    · have := (hs2.ent b e hb).lt; omega, hs.lt⟩
  refine ⟨?_, _, _, fun x hx => ?_, k r st' hR, M', StM.put (st := st' ++ st2) ⟨hM.size, hM.defers, hM.tr.trans ht (fun x hx => hM.k1 x (hk1 x hx)), fun b hb => hm b (hM.m0 b hb), fun b hb => ?_, fun b hb => ?_,
    fun s av hsl => ⟨(hM.fr s av hsl).1, (hM.fr s av hsl).2.mono hm hMs ht.bs⟩, hs.app hs2'' (fun b h3 h4 => ?_)⟩ hd hr⟩
  · cases X with
    | none => trivial
    | some l => exact ⟨keys st1, ht, fun x hx => (hX x hx).imp id (fun h => ⟨hk1 x hx, fun hko => hdis x hx (h x hko)⟩)⟩
  · rw [keys_append] at hx
    rcases List.mem_append.1 hx with hx | hx
    · exact (hk x hx).imp (hk1 x) id
    · exact .inl (hk2 x hx)
  · rcases hm' b hb with h | h | h
    · exact hM.m1 b h
    · exact .inr (hM.k1 b (hk1 b h))
    · exact .inr (.inr (Nat.le_trans hM.tr.size h))
  · rw [keys_append] at hb
    rcases List.mem_append.1 hb with hb | hb
    · rcases hk b hb with h | h
      · exact hM.k1 b (hk1 b h)
      · exact .inr (Nat.le_trans hM.tr.size h)
    · exact hM.k1 b (hk2 b hb)
  · rcases hk b h3 with h | h
    · exact hdis b h h4
    · have := hs2.key_lt h4; omega
theorem w_callM0 {d : Nat} {f : FuncId} {c : Operand} {args : Array Operand} {tt : Array TypeId} {caps avs : List AV} {st1 st2 : Store} (hd : Nat.blt d G.n = true) (hf : opv fr c = some (.fn f caps)) (ha : argsA fr args.toList = some avs) (hc : callable P f = true) (hp : Picks st st1 st2)
    (h : ACalls P f (avs ++ caps) st1 R) (hX : InTs X st1 st2) (k : ∀ r st', R r st' → K ((d, r) :: fr) (st' ++ st2)) : Aop P G X ⟨some d, .call { callee := .value c, args := args, argTypes := tt }, ty, pos, aft, gd⟩ K fr st :=
  op_callM0 hd hf ha hc hp h hX k
end
section
variable {P : Program} {G : Gh} {Y : World → World → Prop} {fr : Fr} {st : Store} {dst : Option Tmp} {ty : TypeId} {pos : String} {aft : Array Edge} {gd : Option (Nat × Bool)}
/-- The beginning of a slice. -/
theorem p_take {α : Type} (f : α → List AV) {t : TypeId} {s : Nat} {x z : Operand} {xs : List α} {k : IntKind} {m : Int} (hs : elemSize P t = some s) (hx : opv fr x = some (.sl (xs.map f))) (hz : opv fr z = some (.int k m)) (h0 : 0 ≤ m) (h1 : m ≤ xs.length) (hf : ∀ x, (f x).length = s) :
    Pure P G Y fr st ⟨dst, .slice t x none (some z) none, ty, pos, aft, gd⟩ (.sl ((xs.take m.toNat).map f)) :=
  p_slice_sl 0 m.toNat hs hx rfl (hi_some hz (by omega)) (Nat.zero_le _) (by rw [List.length_map]; omega) (lenAll _ _ hf) (by rw [List.drop_zero, List.map_take])
end
theorem wrap_rng {x : Int} (h : 0 ≤ x ∧ x ≤ 255) : 0 ≤ IntKind.i64.wrap x ∧ IntKind.i64.wrap x ≤ 255 := by rw [wrap_small h]; exact h
theorem and_rng (x : Int) : 0 ≤ IntKind.i64.wrap (bits .and .u64 x 255) ∧ IntKind.i64.wrap (bits .and .u64 x 255) ≤ 255 := wrap_rng (and255 x)
theorem getD_mem {xs : List Int} {p : Int → Prop} (h : ∀ x ∈ xs, p x) {j : Nat} (hj : j < xs.length) : p (xs.getD j 0) := by
  rw [List.getD_eq_getElem?_getD, List.getElem?_eq_getElem hj]
  exact h _ (List.getElem_mem hj)
theorem mem_take {xs : List Int} {p : Int → Prop} (h : ∀ x ∈ xs, p x) (n : Nat) : ∀ x ∈ xs.take n, p x := fun x hx => h x (List.mem_of_mem_take hx)

end Go.Fw
