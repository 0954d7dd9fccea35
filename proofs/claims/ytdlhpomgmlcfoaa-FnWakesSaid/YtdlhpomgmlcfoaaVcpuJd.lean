/-
  Credits: the law on credits. No condition.
-/
import Derived.Test.YtdlhpomgmlcfoaaFwK
import Derived.Test.YtdlhpomgmlcfoaaFwN
import Derived.Test.YtdlhpomgmlcfoaaVcpuCd
namespace Go.Hv
open Go Go.Fw

def pickV (c : Prop) [Decidable c] (p : List Vcpu) : List Vcpu := if c then p else []
def pickL (c : Prop) [Decidable c] (p : List Int) : List Int := if c then p else []
def pickI (c : Prop) [Decidable c] (n : Int) : Int := if c then n else 0
theorem pickV_y {c : Prop} [Decidable c] {p : List Vcpu} (h : c) : pickV c p = p := if_pos h
theorem pickV_n {c : Prop} [Decidable c] {p : List Vcpu} (h : ¬ c) : pickV c p = [] := if_neg h
theorem pickL_y {c : Prop} [Decidable c] {p : List Int} (h : c) : pickL c p = p := if_pos h
theorem pickL_n {c : Prop} [Decidable c] {p : List Int} (h : ¬ c) : pickL c p = [] := if_neg h
theorem pickI_y {c : Prop} [Decidable c] {n : Int} (h : c) : pickI c n = n := if_pos h
theorem pickI_n {c : Prop} [Decidable c] {n : Int} (h : ¬ c) : pickI c n = 0 := if_neg h
theorem pickV_small {c : Prop} [Decidable c] {p : List Vcpu} (h : c → p.length ≤ 1048576) : (pickV c p).length ≤ 1048576 := by
  unfold pickV; split
  · exact h (by assumption)
  · exact Nat.zero_le _
theorem pickL_small {c : Prop} [Decidable c] {p : List Int} (h : c → p.length ≤ 1048576) : (pickL c p).length ≤ 1048576 := by
  unfold pickL; split
  · exact h (by assumption)
  · exact Nat.zero_le _
theorem small_tick {xs : List Vcpu} (h : GoodTick xs) : (tickL xs).length ≤ 1048576 := by rw [tickL_len]; have := h.1.2; omega
theorem small_run {xs : List Vcpu} {n : Int} (h : GoodRun xs n) : (tickN xs (tkN n)).length ≤ 1048576 := by
  have := h.1.2
  by_cases h0 : 0 < n
  · rw [(h.at h0 _).2.2]; omega
  · rw [show tkN n = 0 by unfold tkN; omega]
    show xs.length ≤ _
    omega
theorem small_ids {xs : List Vcpu} {n : Int} (h : GoodRun xs n) : (idsTo xs (tkN n)).length ≤ 1048576 := by rw [idsTo_len]; have := h.2.1; unfold tkN; omega
theorem pickTo_un (xs : List Vcpu) : ∀ i : Nat, 0 ≤ pickTo xs i → (xs.getD (pickTo xs i).toNat zVcpu).blocked = false
  | 0, h => by simp [pickTo] at h
  | i + 1, h => by
    have ih := pickTo_un xs i
    rw [pickTo] at h ⊢
    split
    · rename_i q; exact q.1
    · rename_i q; rw [if_neg q] at h; exact ih h
theorem pick_base {xs : List Vcpu} (h : GoodTick xs) : pickVcpu (baseL xs) = (tickId xs, true) := by
  have h0 := tickI_runs h.2
  have h1 := (tickI_lt xs).2
  have hs := (base_same xs).2 (tickI xs).toNat (by omega)
  unfold pickVcpu
  rw [baseL_len, if_pos ⟨are_base h.1, h0⟩]
  show (((baseL xs).getD (tickI xs).toNat zVcpu).id, true) = _
  rw [hs.1]; rfl
theorem tick_at {xs : List Vcpu} (h : GoodTick xs) : ∀ i, i < xs.length → (((tickL xs).getD i zVcpu).id ≠ tickId xs → (tickL xs).getD i zVcpu = (baseL xs).getD i zVcpu) ∧
    (((tickL xs).getD i zVcpu).id = tickId xs → ((tickL xs).getD i zVcpu).blocked = false ∧ ((tickL xs).getD i zVcpu).event = false ∧ ((tickL xs).getD i zVcpu).credit ≤ ((baseL xs).getD i zVcpu).credit) := by
  intro i hi
  have h0 := tickI_runs h.2
  have h1 := (tickI_lt xs).2
  have hk : (tickI xs).toNat < (baseL xs).length := by rw [baseL_len]; omega
  have e := tick_getId h.2
  have hA := tick_are h.1 h.2
  have hl := tickL_len xs
  by_cases hki : (tickI xs).toNat = i
  · subst hki
    refine ⟨fun q => absurd e q, fun _ => ?_⟩
    have hu := pickTo_un (baseL xs) xs.length h0
    have hc := ((are_base h.1).1 _ hk).1
    unfold tickL
    rw [set_get hk, if_pos rfl]
    refine ⟨hu, rfl, ?_⟩
    obtain ⟨g1, g2, g3, g4⟩ := hc
    unfold spend
    dsimp only
    split <;> omega
  · refine ⟨fun _ => ?_, fun q => ?_⟩
    · unfold tickL
      rw [set_get hk, if_neg hki]
    · exfalso
      rcases Nat.lt_or_gt_of_ne hki with q1 | q1
      · have := ids_lt hA q1 (by omega); omega
      · have := ids_lt hA q1 (by omega); omega
theorem ids_at {xs : List Vcpu} : ∀ {N i : Nat}, i < N → (idsTo xs N).getD i 0 = tickId (tickN xs i)
  | 0, i, h => by omega
  | N + 1, i, h => by
    have l2 := idsTo_len xs N
    rw [idsTo]
    rcases Nat.lt_succ_iff_lt_or_eq.1 h with h' | h'
    · rw [← ids_at h', List.getD_eq_getElem?_getD, List.getElem?_append_left (by omega), ← List.getD_eq_getElem?_getD]
    · subst h'
      rw [List.getD_eq_getElem?_getD, List.getElem?_append_right (by omega), l2]; simp
theorem eqC_vcpu {a b : Vcpu} (h : a = b) : eqC [true, true, true, false, false] (eVcpu a) (eVcpu b) = some true := by
  subst h
  simp [eVcpu, eqC]
section
variable {P : Program} {G : Gh} {Y : World → World → Prop} {fr : Fr} {st : Store} {dst : Option Tmp} {ty : TypeId} {pos : String} {aft : Array Edge} {gd : Option (Nat × Bool)} {t t' : TypeId} {x y : Operand} {k : IntKind} {m n : Int}
theorem p_neqS {ks : List Bool} {l l' : List AV} {b : Bool} (hs : eqShape P t = some ks) (hx : opv fr x = some (.agg l)) (hy : opv fr y = some (.agg l')) (hb : eqC ks l l' = some b) :
    Pure P G Y fr st ⟨dst, .binOp .neq t x y t', ty, pos, aft, gd⟩ (.bool (!b)) := fun M a w h => by
  refine ⟨_, .bool _, fun w' _ => ?_⟩
  unfold eqShape at hs
  split at hs
  · rename_i fs hu
    split at hs
    · rename_i hc
      have hf : P.fieldsOf t = fs := by simp [Program.fieldsOf, hu]
      have hrx := opv_rep h hx
      have hry := opv_rep h hy
      generalize hvx : a.eval x = vx at hrx
      generalize hvy : a.eval y = vy at hry
      cases hrx with
      | agg xs _ lx rx =>
        cases hry with
        | agg ys _ ly ry =>
          have := run_eqC (P := P) (M := M) (w := w) (w' := w') (xs := xs) (ys := ys) 9998 fs.toList 0 ks l l' b hs hb (by omega) (by omega) (by simpa using rx) (by simpa using ry)
          simp only [execOp, hvx, hvy]
          have e := run_equalIn_struct (P := P) w' 9999 t xs ys (by rw [hf]; exact hu) hc.1
          rw [hf] at e
          have g : (eqGuard .neq t x y (.agg xs) (.agg ys)).run P w' = .ok () w' := by
            simp [eqGuard, hc.2]
          simp [g, binOp, Op.equal, Op.maxDepth, e, this]
    · cases hs
  · cases hs

theorem p_neqF (hx : opv fr x = some (.int k m)) (hy : opv fr y = some (.int k n)) (h : m = n) : Pure P G Y fr st ⟨dst, .binOp .neq t x y t', ty, pos, aft, gd⟩ (.bool false) := by
  subst h; exact p_neq_same hx hy
theorem p_eqlT (hx : opv fr x = some (.int k m)) (hy : opv fr y = some (.int k n)) (h : m = n) : Pure P G Y fr st ⟨dst, .binOp .eql t x y t', ty, pos, aft, gd⟩ (.bool true) := by
  subst h; exact p_eql_same hx hy
theorem p_eqlF (hx : opv fr x = some (.int k m)) (hy : opv fr y = some (.int k n)) (h : m ≠ n) : Pure P G Y fr st ⟨dst, .binOp .eql t x y t', ty, pos, aft, gd⟩ (.bool false) := by
  have := p_eql (P := P) (G := G) (Y := Y) (st := st) (dst := dst) (ty := ty) (pos := pos) (aft := aft) (gd := gd) (t := t) (t' := t') hx hy
  rwa [decide_eq_false h] at this
theorem p_gtrF (hx : opv fr x = some (.int k m)) (hy : opv fr y = some (.int k n)) (h : m ≤ n) : Pure P G Y fr st ⟨dst, .binOp .gtr t x y t', ty, pos, aft, gd⟩ (.bool false) := by
  have := p_gtr (P := P) (G := G) (Y := Y) (st := st) (dst := dst) (ty := ty) (pos := pos) (aft := aft) (gd := gd) (t := t) (t' := t') hx hy
  rwa [decide_eq_false (by omega)] at this
end

end Go.Hv
