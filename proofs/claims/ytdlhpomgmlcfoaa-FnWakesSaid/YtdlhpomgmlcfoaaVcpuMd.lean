/-
  Halls: a run made op by op. No condition.
-/
import Derived.Test.YtdlhpomgmlcfoaaVcpuLd
namespace Go.Hv
open Go Go.Fw

theorem sigTo_rng (ops : List HallOp) (id : Int) : ∀ k : Nat, 0 ≤ sigTo ops id k ∧ sigTo ops id k ≤ k
  | 0 => ⟨Int.le_refl _, Int.le_refl _⟩
  | k + 1 => by
    have := sigTo_rng ops id k
    rw [sigTo]
    split <;> omega
theorem sig_step1 {ops : List HallOp} {id : Int} {k : Nat} {n : Int} (h : n = sigTo ops id k) (h1 : (ops.getD k zHallOp).kind = 2) (h2 : (ops.getD k zHallOp).id = id) : n + 1 = sigTo ops id (k + 1) := by
  rw [sigTo, if_pos ⟨h1, h2⟩, h]
theorem sig_step2 {ops : List HallOp} {id : Int} {k : Nat} {n : Int} (h : n = sigTo ops id k) (h1 : ¬ (ops.getD k zHallOp).kind = 2) : n = sigTo ops id (k + 1) := by
  rw [sigTo, if_neg (fun q => h1 q.1), h]
theorem sig_step3 {ops : List HallOp} {id : Int} {k : Nat} {n : Int} (h : n = sigTo ops id k) (h1 : ¬ (ops.getD k zHallOp).id = id) : n = sigTo ops id (k + 1) := by
  rw [sigTo, if_neg (fun q => h1 q.2), h]

def WInv (h : Hall) (ops : List HallOp) (k : Nat) (g : Hall) (tk : List Int) : Prop := g = (runR h ops 0 k).hall ∧ tk = (runR h ops 0 k).ticks
section
variable {h : Hall} {ops : List HallOp} {k : Nat} {g : Hall} {tk : List Int}
theorem WInv.zero : WInv h ops 0 h [] := ⟨rfl, rfl⟩
theorem WInv.rinv (G : GoodOps h ops) (hk : k ≤ ops.length) (I : WInv h ops k g tk) : RInv h ops 0 k g.list g.events tk (runR h ops 0 k).woken (runR h ops 0 k).takes := by
  have := fin_inv (id := 0) G k hk
  rw [← I.1, ← I.2] at this
  exact this
theorem WInv.hall (G : GoodOps h ops) (hk : k ≤ ops.length) (I : WInv h ops k g tk) : IsHall g := (I.rinv G hk).hall
theorem WInv.small (G : GoodOps h ops) (hk : k ≤ ops.length) (I : WInv h ops k g tk) : SmallHall g := small_of (I.hall G hk) ⟨rfl, rfl⟩
theorem WInv.tl (G : GoodOps h ops) (hk : k ≤ ops.length) (I : WInv h ops k g tk) : tk.length ≤ k := (I.rinv G hk).tl
theorem WInv.step (I : WInv h ops k g tk) : runR h ops 0 (k + 1) = stepR 0 (findI h.list (ops.getD k zHallOp).id).toNat ⟨⟨g.list, g.events⟩, tk, (runR h ops 0 k).woken, (runR h ops 0 k).takes⟩ (ops.getD k zHallOp) := by
  rw [runR, I.1, I.2]
theorem WInv.idx (G : GoodOps h ops) (hk : k < ops.length) (I : WInv h ops k g tk) : hI g (ops.getD k zHallOp).id = (findI h.list (ops.getD k zHallOp).id).toNat := by
  unfold hI; rw [(I.rinv G (by omega)).find]
theorem WInv.fnd (G : GoodOps h ops) (hk : k < ops.length) (I : WInv h ops k g tk) (h3 : ¬ (ops.getD k zHallOp).kind = 3) : 0 ≤ findI g.list (ops.getD k zHallOp).id := by
  rw [(I.rinv G (by omega)).find]
  rcases (I.rinv G (by omega)).idx G hk with q | ⟨_, q, _⟩
  · exact absurd q h3
  · exact q
theorem WInv.good (G : GoodOps h ops) (hk : k < ops.length) (I : WInv h ops k g tk) (h2 : (ops.getD k zHallOp).kind = 2) : GoodSig g (ops.getD k zHallOp).id :=
  ⟨I.hall G (by omega), I.fnd G hk (by omega)⟩
theorem WInv.sig (G : GoodOps h ops) (hk : k < ops.length) (I : WInv h ops k g tk) (h2 : (ops.getD k zHallOp).kind = 2) : WInv h ops (k + 1) (signalH g (hI g (ops.getD k zHallOp).id)) tk := by
  unfold WInv
  rw [I.step, I.idx G hk, stepR, if_neg (by omega), if_pos h2]
  exact ⟨rfl, rfl⟩
theorem WInv.wait1 (G : GoodOps h ops) (hk : k < ops.length) (I : WInv h ops k g tk) (h1 : (ops.getD k zHallOp).kind = 1) (hh : GoodHalt g (ops.getD k zHallOp).id) :
    WInv h ops (k + 1) (pickH (GoodHalt g (ops.getD k zHallOp).id) (waitH g (hI g (ops.getD k zHallOp).id))) tk := by
  unfold WInv
  have hb : blk g (findI h.list (ops.getD k zHallOp).id).toNat = false := by rw [← I.idx G hk]; exact hh.2.2
  rw [pickH_y hh, I.step, I.idx G hk, stepR, if_neg (by omega), if_neg (by omega), if_pos (show blk _ _ = false from hb)]
  exact ⟨rfl, rfl⟩
theorem WInv.wait0 (G : GoodOps h ops) (hk : k < ops.length) (I : WInv h ops k g tk) (h1 : (ops.getD k zHallOp).kind = 1) (hh : ¬ GoodHalt g (ops.getD k zHallOp).id) : WInv h ops (k + 1) g tk := by
  unfold WInv
  have hb : ¬ blk g (findI h.list (ops.getD k zHallOp).id).toNat = false := by
    rw [← I.idx G hk]
    exact fun q => hh ⟨I.hall G (by omega), I.fnd G hk (by omega), q⟩
  rw [I.step, stepR, if_neg (by omega), if_neg (by omega), if_neg (show ¬ blk _ _ = false from hb)]
  exact ⟨rfl, rfl⟩
theorem WInv.tick (G : GoodOps h ops) (hk : k < ops.length) (I : WInv h ops k g tk) (h1 : ¬ (ops.getD k zHallOp).kind = 1) (h2 : ¬ (ops.getD k zHallOp).kind = 2) : WInv h ops (k + 1) (tickH g).1 (tk ++ [(tickH g).2]) := by
  have h3 : (ops.getD k zHallOp).kind = 3 := by
    rcases (I.rinv G (by omega)).idx G hk with q | ⟨q, _⟩
    · exact q
    · omega
  unfold WInv
  rw [I.step, stepR, if_pos h3]
  exact ⟨rfl, rfl⟩
theorem WInv.fin (I : WInv h ops ops.length g tk) : g = (fin h ops 0).hall ∧ tk = (fin h ops 0).ticks := I
end
theorem small_ticks {h : Hall} {ops : List HallOp} (g : GoodOps h ops) : (fin h ops 0).ticks.length ≤ 1048576 := by
  have h1 := (fin_inv (id := 0) g ops.length (Nat.le_refl _)).tl
  have := g.2.1
  show (runR h ops 0 ops.length).ticks.length ≤ _
  omega
theorem small_fin {h : Hall} {ops : List HallOp} (g : GoodOps h ops) : SmallHall (fin h ops 0).hall :=
  small_of (fin_inv (id := 0) g ops.length (Nat.le_refl _)).hall ⟨rfl, rfl⟩
theorem has_evt_wk {h : Hall} {ops : List HallOp} {id : Int} (g : GoodWk h ops id) : decide (id ∈ evtIds h) = evt h (hI h id) := has_evt g.1.1 (at_id g.2).1 (at_id g.2).2
theorem evb_t {h : Hall} {ops : List HallOp} {id : Int} (g : GoodWk h ops id) (h1 : id ∈ evtIds h) : evb h (hI h id) = 1 := by
  have := has_evt_wk g
  rw [decide_eq_true h1] at this
  exact if_pos this.symm
theorem evb_f {h : Hall} {ops : List HallOp} {id : Int} (g : GoodWk h ops id) (h1 : ¬ id ∈ evtIds h) : evb h (hI h id) = 0 := by
  have := has_evt_wk g
  rw [decide_eq_false h1] at this
  exact if_neg (by rw [← this]; decide)

end Go.Hv
