/-
  Equality of structs whose fields are integers and Bools. No condition.
-/
import Derived.Test.YtejlhpmmgjfllaaFwJ
import Derived.ChangeKeysEq
namespace Go.Fw
open Go

def eqShapeF (P : Program) : List Field → Nat → Option (List Bool)
  | [], _ => some []
  | f :: fs, off =>
    if f.name ≠ "_" ∧ f.offset = off ∧ P.plainKey f.type = true then
      match P.underlying f.type, eqShapeF P fs (off + 1) with
      | some (.int _), some l => some (true :: l)
      | some .bool, some l => some (false :: l)
      | _, _ => none
    else none
def eqShape (P : Program) (t : TypeId) : Option (List Bool) :=
  match P.underlying t with
  | some (.struct fs) => if P.stoodInHeld t = false ∧ P.eqGuardType P.depth t = false then eqShapeF P fs.toList 0 else none
  | _ => none

def eqC : List Bool → List AV → List AV → Option Bool
  | [], _, _ => some true
  | true :: ks, .int k a :: l, .int k' b :: l' => if k = k' then (eqC ks l l').map (decide (a = b) && ·) else none
  | false :: ks, .bool a :: l, .bool b :: l' => (eqC ks l l').map (decide (a = b) && ·)
  | _, _, _ => none

theorem run_eqC {P : Program} {M : Nat → Prop} {w w' : World} {xs ys : Array Value} (D : Nat) : ∀ (fs : List Field) (off : Nat) (ks : List Bool) (l l' : List AV) (b : Bool), eqShapeF P fs off = some ks → eqC ks l l' = some b →
    off + l.length = xs.size → off + l'.length = ys.size → (∀ (i : Nat) av, l[i]? = some av → Rep M w (xs.getD (off + i) undef) av) → (∀ (i : Nat) av, l'[i]? = some av → Rep M w (ys.getD (off + i) undef) av) →
    (Op.eqFields (D + 1) xs ys fs).run P w' = .ok b w'
  | [], off, ks, l, l', b, h1, h2, _, _, _, _ => by
    cases h1
    simp only [eqC] at h2
    cases h2
    rfl
  | f :: fs, off, ks, l, l', b, h1, h2, hx, hy, hl, hl' => by
    unfold eqShapeF at h1
    split at h1
    · rename_i hc
      obtain ⟨hn, ho, hp⟩ := hc
      have nxt : ∀ (a a' : AV) (t t' : List AV), l = a :: t → l' = a' :: t' → (∀ (i : Nat) av, t[i]? = some av → Rep M w (xs.getD (off + 1 + i) undef) av) ∧ (∀ (i : Nat) av, t'[i]? = some av → Rep M w (ys.getD (off + 1 + i) undef) av) ∧
          Rep M w (xs.getD off undef) a ∧ Rep M w (ys.getD off undef) a' ∧ xs[off]? = some (xs.getD off undef) ∧ ys[off]? = some (ys.getD off undef) := by
        rintro a a' t t' rfl rfl
        refine ⟨fun i av hi => ?_, fun i av hi => ?_, ?_, ?_, ?_, ?_⟩
        · have := hl (i + 1) av (by simpa using hi); rwa [show off + (i + 1) = off + 1 + i by omega] at this
        · have := hl' (i + 1) av (by simpa using hi); rwa [show off + (i + 1) = off + 1 + i by omega] at this
        · simpa using hl 0 a rfl
        · simpa using hl' 0 a' rfl
        · have : off < xs.size := by simp at hx; omega
          simp [this]
        · have : off < ys.size := by simp at hy; omega
          simp [this]
      split at h1
      · rename_i k r hu hr
        cases h1
        match l, l', h2 with
        | .int k1 a :: t, .int k2 a' :: t', h2 =>
          simp only [eqC] at h2
          split at h2
          · rename_i hk
            subst hk
            obtain ⟨b', hb', rfl⟩ := Option.map_eq_some_iff.1 h2
            obtain ⟨n1, n2, n3, n4, n5, n6⟩ := nxt _ _ _ _ rfl rfl
            have e3 := n3.int_inv
            have e4 := n4.int_inv
            rw [e3] at n5
            rw [e4] at n6
            have ih := run_eqC (w' := w') D fs (off + 1) _ t t' b' hr hb' (by simp at hx; omega) (by simp at hy; omega) n1 n2
            simp only [Op.eqFields, ne_eq, hn, not_false_eq_true, if_true, Sem.run_bind, ho, run_part_plain w' hp n5, run_part_plain w' hp n6, Result.andThen_ok, run_equalIn_int w' D f.type k1 k a a' hu]
            by_cases he : a = a'
            · subst he; simpa using ih
            · simp [he]
          · cases h2
      · rename_i r hu hr
        cases h1
        match l, l', h2 with
        | .bool a :: t, .bool a' :: t', h2 =>
          simp only [eqC] at h2
          obtain ⟨b', hb', rfl⟩ := Option.map_eq_some_iff.1 h2
          obtain ⟨n1, n2, n3, n4, n5, n6⟩ := nxt _ _ _ _ rfl rfl
          have e3 := n3.bool_inv
          have e4 := n4.bool_inv
          rw [e3] at n5
          rw [e4] at n6
          have ih := run_eqC (w' := w') D fs (off + 1) _ t t' b' hr hb' (by simp at hx; omega) (by simp at hy; omega) n1 n2
          simp only [Op.eqFields, ne_eq, hn, not_false_eq_true, if_true, Sem.run_bind, ho, run_part_plain w' hp n5, run_part_plain w' hp n6, Result.andThen_ok, run_equalIn_bool' w' D f.type a a' hu]
          by_cases he : a = a'
          · subst he; simpa using ih
          · simp [he]
      · cases h1
    · cases h1

section
variable {P : Program} {G : Gh} {Y : World → World → Prop} {fr : Fr} {st : Store} {x y : Operand} {t t' : TypeId} {dst : Option Tmp} {ty : TypeId} {pos : String} {aft : Array Edge} {gd : Option (Nat × Bool)}

theorem p_eql_s {ks : List Bool} {l l' : List AV} {b : Bool} (hs : eqShape P t = some ks) (hx : opv fr x = some (.agg l)) (hy : opv fr y = some (.agg l')) (hb : eqC ks l l' = some b) :
    Pure P G Y fr st ⟨dst, .binOp .eql t x y t', ty, pos, aft, gd⟩ (.bool b) := fun M a w h => by
  refine ⟨_, .bool _, fun w' _ => ?_⟩
  unfold eqShape at hs
  split at hs
  · rename_i fs hu
    split at hs
    · rename_i hc
      have hf : P.fieldsOf t = fs := by simp [Program.fieldsOf, hu]
      have hrx := opv_rep h hx
      have hry := opv_rep h hy
      generalize hvx : a.eval x = vx at hrx
      generalize hvy : a.eval y = vy at hry
      cases hrx with
      | agg xs _ lx rx =>
        cases hry with
        | agg ys _ ly ry =>
          have := run_eqC (P := P) (M := M) (w := w) (w' := w') (xs := xs) (ys := ys) 9998 fs.toList 0 ks l l' b hs hb (by omega) (by omega) (by simpa using rx) (by simpa using ry)
          simp only [execOp, hvx, hvy]
          have e := run_equalIn_struct (P := P) w' 9999 t xs ys (by rw [hf]; exact hu) hc.1
          rw [hf] at e
          have g : (eqGuard .eql t x y (.agg xs) (.agg ys)).run P w' = .ok () w' := by
            simp [eqGuard, hc.2]
          simp [g, binOp, Op.equal, Op.maxDepth, e, this]
    · cases hs
  · cases hs

theorem p_neq_s {ks : List Bool} {l l' : List AV} {b : Bool} (hs : eqShape P t = some ks) (hx : opv fr x = some (.agg l)) (hy : opv fr y = some (.agg l')) (hb : eqC ks l l' = some b) :
    Pure P G Y fr st ⟨dst, .binOp .neq t x y t', ty, pos, aft, gd⟩ (.bool (!b)) := fun M a w h => by
  refine ⟨_, .bool _, fun w' _ => ?_⟩
  unfold eqShape at hs
  split at hs
  · rename_i fs hu
    split at hs
    · rename_i hc
      have hf : P.fieldsOf t = fs := by simp [Program.fieldsOf, hu]
      have hrx := opv_rep h hx
      have hry := opv_rep h hy
      generalize hvx : a.eval x = vx at hrx
      generalize hvy : a.eval y = vy at hry
      cases hrx with
      | agg xs _ lx rx =>
        cases hry with
        | agg ys _ ly ry =>
          have := run_eqC (P := P) (M := M) (w := w) (w' := w') (xs := xs) (ys := ys) 9998 fs.toList 0 ks l l' b hs hb (by omega) (by omega) (by simpa using rx) (by simpa using ry)
          simp only [execOp, hvx, hvy]
          have e := run_equalIn_struct (P := P) w' 9999 t xs ys (by rw [hf]; exact hu) hc.1
          rw [hf] at e
          have g : (eqGuard .neq t x y (.agg xs) (.agg ys)).run P w' = .ok () w' := by
            simp [eqGuard, hc.2]
          simp [g, binOp, Op.equal, Op.maxDepth, e, this]
    · cases hs
  · cases hs

theorem eqC_one {ks : List Bool} {l l' : List AV} {b c : Bool} (h : eqC ks l l' = some b) (hbc : b = c) : eqC ks l l' = some c := hbc ▸ h
end
end Go.Fw
