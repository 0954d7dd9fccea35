/-
  Halls: how often one wakes. No condition.
-/
import Derived.Test.YtdlhpomgmlcfoaaVcpuKd
namespace Go.Hv
open Go Go.Fw

def sigTo (ops : List HallOp) (id : Int) : Nat → Int
  | 0 => 0
  | k + 1 => if (ops.getD k zHallOp).kind = 2 ∧ (ops.getD k zHallOp).id = id then sigTo ops id k + 1 else sigTo ops id k
def evb (g : Hall) (i : Nat) : Int := if evt g i = true then 1 else 0
theorem evb_rng (g : Hall) (i : Nat) : 0 ≤ evb g i ∧ evb g i ≤ 1 := by unfold evb; split <;> decide
theorem evb_same {g g' : Hall} {i : Nat} (h : g'.events = g.events) : evb g' i = evb g i := by unfold evb evt; rw [h]
theorem evb_off {l : List Vcpu} {e : List Bool} {j : Nat} {b : Bool} {i : Nat} (h : j ≠ i) : evb ⟨l, e.set j b⟩ i = if e.getD i false = true then 1 else 0 := by
  unfold evb evt
  dsimp only
  rw [List.getD_eq_getElem?_getD, List.getElem?_set_ne h, ← List.getD_eq_getElem?_getD]
theorem evb_clear {l : List Vcpu} {e : List Bool} {i : Nat} : evb ⟨l, e.set i false⟩ i = 0 := by
  unfold evb evt
  dsimp only
  rw [List.getD_eq_getElem?_getD, List.getElem?_set]
  split
  · split <;> simp
  · contradiction
theorem tickH_ev (g : Hall) : (tickH g).1.events = g.events := by unfold tickH; split <;> rfl
theorem wk_step {id : Int} {r : Run} {o : HallOp} {i j : Nat} (hij : o.kind ≠ 3 → (o.id = id ↔ j = i)) :
    (stepR id j r o).woken ≤ r.woken + (if o.kind = 2 ∧ o.id = id then 1 else 0) ∧
    (stepR id j r o).woken + (stepR id j r o).takes + evb (stepR id j r o).hall i ≤ r.woken + r.takes + evb r.hall i + (if o.kind = 2 ∧ o.id = id then 1 else 0) := by
  generalize hs : (if o.kind = 2 ∧ o.id = id then (1 : Int) else 0) = s
  unfold stepR
  by_cases h3 : o.kind = 3
  · rw [if_neg (by omega)] at hs
    rw [if_pos h3]
    dsimp only
    rw [evb_same (tickH_ev r.hall)]
    omega
  · have hij := hij h3
    rw [if_neg h3]
    by_cases h2 : o.kind = 2
    · rw [if_pos h2]
      dsimp only
      have hr := evb_rng r.hall i
      have hr2 := evb_rng (signalH r.hall j) i
      by_cases hid : o.id = id
      · rw [if_pos ⟨h2, hid⟩] at hs
        cases hb : blk r.hall j with
        | true =>
          rw [if_pos ⟨rfl, hid⟩, signalH_t hb]
          rw [show evb ⟨r.hall.list.set j (wake (r.hall.list.getD j zVcpu)), r.hall.events⟩ i = evb r.hall i from evb_same rfl]
          omega
        | false => rw [if_neg (fun q => by cases q.1)]; omega
      · rw [if_neg (fun q => hid q.2)] at hs
        rw [if_neg (fun q => hid q.2)]
        have hne : j ≠ i := fun q => hid (hij.2 q)
        have : evb (signalH r.hall j) i = evb r.hall i := by
          cases hb : (r.hall.list.getD j zVcpu).blocked with
          | true => rw [signalH_t hb]; exact evb_same rfl
          | false => rw [signalH_f hb, evb_off hne]; rfl
        omega
    · rw [if_neg (fun q => h2 q.1)] at hs
      rw [if_neg h2]
      split
      · rename_i hb
        dsimp only
        cases he : r.hall.events.getD j false with
        | true =>
          rw [waitH_t he]
          by_cases hid : o.id = id
          · have hji := hij.1 hid
            subst hji
            rw [if_pos ⟨he, hid⟩, evb_clear]
            have : evb r.hall j = 1 := if_pos he
            omega
          · rw [if_neg (fun q => hid q.2), evb_off (fun q => hid (hij.2 q))]
            have : evb r.hall i = if r.hall.events.getD i false = true then 1 else 0 := rfl
            omega
        | false =>
          rw [waitH_f he, if_neg (fun q => by have q1 : r.hall.events.getD j false = true := q.1; rw [he] at q1; cases q1)]
          rw [show evb ⟨r.hall.list.set j (halt (r.hall.list.getD j zVcpu)), r.hall.events⟩ i = evb r.hall i from evb_same rfl]
          omega
      · omega
theorem wk_inv {h : Hall} {ops : List HallOp} {id : Int} (g : GoodWk h ops id) : ∀ k, k ≤ ops.length →
    (runR h ops id k).woken ≤ sigTo ops id k ∧ (runR h ops id k).woken + (runR h ops id k).takes + evb (runR h ops id k).hall (hI h id) ≤ sigTo ops id k + evb h (hI h id)
  | 0, _ => ⟨Int.le_refl _, by simp [runR, sigTo]⟩
  | k + 1, hk => by
    have ih := wk_inv g k (by omega)
    have hs := wk_step (id := id) (r := runR h ops id k) (o := ops.getD k zHallOp) (i := hI h id) (j := (findI h.list (ops.getD k zHallOp).id).toNat) (fun h3 => by
      constructor
      · rintro rfl; rfl
      · intro e
        rcases g.1.at (show k < ops.length by omega) with ⟨_, h1⟩ | ⟨h1, _⟩
        · have e1 := findI_id h1
          have e2 := (at_id g.2).2
          rw [e, e2] at e1
          exact e1.symm
        · exact absurd h1 h3)
    rw [runR, sigTo]
    split <;> rename_i hc
    · rw [if_pos hc] at hs; omega
    · rw [if_neg hc] at hs; omega
theorem wk_end {h : Hall} {ops : List HallOp} {id : Int} (g : GoodWk h ops id) :
    (fin h ops id).woken ≤ sigTo ops id ops.length ∧ (fin h ops id).woken + (fin h ops id).takes ≤ sigTo ops id ops.length + evb h (hI h id) := by
  have := wk_inv g ops.length (Nat.le_refl _)
  have h1 := (evb_rng (runR h ops id ops.length).hall (hI h id)).1
  unfold fin
  omega

end Go.Hv
