/-
  Halls: the law on halls. No condition.
-/
import Derived.Test.YtdlhpomgmlcfoaaVcpuJd
import Derived.Test.YtdlhpomgmlcfoaaVcpuId
namespace Go.Hv
open Go Go.Fw

def DrawnH (p : Hall) : Prop := p.list.length ≤ 6 ∧ p.events.length ≤ 7
theorem DrawnH.small {p : Hall} (h : DrawnH p) : SmallHall p := ⟨by have := h.1; omega, by have := h.2; omega⟩
theorem mem_idsOf {xs : List Vcpu} {p : Nat → Bool} {id : Int} : ∀ n, id ∈ idsOf xs p n ↔ ∃ j, j < n ∧ p j = true ∧ (xs.getD j zVcpu).id = id
  | 0 => ⟨fun h => by simp [idsOf] at h, fun ⟨j, hj, _⟩ => by omega⟩
  | n + 1 => by
    have ih := mem_idsOf (xs := xs) (p := p) (id := id) n
    rw [idsOf]
    split
    · rename_i hp
      rw [List.mem_append, ih, List.mem_singleton]
      constructor
      · rintro (⟨j, h1, h2, h3⟩ | h)
        · exact ⟨j, by omega, h2, h3⟩
        · exact ⟨n, by omega, hp, h.symm⟩
      · rintro ⟨j, h1, h2, h3⟩
        rcases Nat.lt_succ_iff_lt_or_eq.1 h1 with h' | h'
        · exact .inl ⟨j, h', h2, h3⟩
        · subst h'; exact .inr h3.symm
    · rename_i hp
      rw [ih]
      constructor
      · rintro ⟨j, h1, h2, h3⟩; exact ⟨j, by omega, h2, h3⟩
      · rintro ⟨j, h1, h2, h3⟩
        rcases Nat.lt_succ_iff_lt_or_eq.1 h1 with h' | h'
        · exact ⟨j, h', h2, h3⟩
        · subst h'; exact absurd h2 hp
theorem has_ids {xs : List Vcpu} (hA : AreVcpus xs) {p : Nat → Bool} {i : Nat} {id : Int} (hi : i < xs.length) (he : (xs.getD i zVcpu).id = id) : decide (id ∈ idsOf xs p xs.length) = p i := by
  cases hp : p i with
  | true => exact decide_eq_true ((mem_idsOf _).2 ⟨i, hi, hp, he⟩)
  | false =>
    refine decide_eq_false (fun q => ?_)
    obtain ⟨j, h1, h2, h3⟩ := (mem_idsOf _).1 q
    rcases Nat.lt_trichotomy i j with q1 | q1 | q1
    · have := ids_lt hA q1 h1; omega
    · subst q1; rw [hp] at h2; cases h2
    · have := ids_lt hA q1 hi; omega
theorem has_blk {g : Hall} (k : IsHall g) {i : Nat} {id : Int} (hi : i < g.list.length) (he : (g.list.getD i zVcpu).id = id) : decide (id ∈ blkIds g) = blk g i := has_ids k.1.1 hi he
theorem has_evt {g : Hall} (k : IsHall g) {i : Nat} {id : Int} (hi : i < g.list.length) (he : (g.list.getD i zVcpu).id = id) : decide (id ∈ evtIds g) = evt g i := has_ids k.1.1 hi he
theorem setB_get {xs : List Bool} {k : Nat} {v : Bool} (hk : k < xs.length) : (xs.set k v).getD k false = v := by
  rw [List.getD_eq_getElem?_getD, List.getElem?_set_self hk]; rfl
theorem at_id {h : Hall} {id : Int} (h0 : 0 ≤ findI h.list id) : hI h id < h.list.length ∧ (h.list.getD (hI h id) zVcpu).id = id := by
  have := (findI_lt h.list id).2
  exact ⟨by unfold hI; omega, findI_id h0⟩
theorem sig_hall {h : Hall} {id : Int} (hG : GoodSig h id) : IsHall (signalH h (hI h id)) := (signal_hall hG.1 (at_id hG.2).1).1
theorem sig_at {h : Hall} {id : Int} (hG : GoodSig h id) : hI h id < (signalH h (hI h id)).list.length ∧ ((signalH h (hI h id)).list.getD (hI h id) zVcpu).id = id := by
  obtain ⟨h1, h2⟩ := at_id hG.2
  have hs := (signal_hall hG.1 h1).2
  exact ⟨by rw [hs.1]; exact h1, by rw [hs.2 _ h1]; exact h2⟩
theorem sig_now {h : Hall} {id : Int} (hG : GoodSig h id) : decide (id ∈ blkIds (signalH h (hI h id))) = false := by
  rw [has_blk (sig_hall hG) (sig_at hG).1 (sig_at hG).2]
  cases hb : (h.list.getD (hI h id) zVcpu).blocked with
  | true => unfold blk; rw [signalH_t hb]; dsimp only; rw [set_get (at_id hG.2).1, if_pos rfl]; rfl
  | false => unfold blk; rw [signalH_f hb]; exact hb
theorem sig_evt {h : Hall} {id : Int} (hG : GoodSig h id) : decide (id ∈ evtIds (signalH h (hI h id))) = !decide (id ∈ blkIds h) := by
  rw [has_evt (sig_hall hG) (sig_at hG).1 (sig_at hG).2, has_blk hG.1 (at_id hG.2).1 (at_id hG.2).2]
  have hi := (at_id hG.2).1
  cases hb : (h.list.getD (hI h id) zVcpu).blocked with
  | true =>
    unfold blk evt; rw [signalH_t hb, hb]
    rcases hG.1.2 _ hi with q | q
    · rw [hb] at q; cases q
    · exact q
  | false =>
    unfold blk evt; rw [signalH_f hb, hb]
    exact setB_get (by rw [hG.1.1.2]; exact hi)
theorem sig_free {h : Hall} {id : Int} (hG : GoodSig h id) (hb : decide (id ∈ blkIds h) = false) : signalH h (hI h id) = ⟨h.list, h.events.set (hI h id) true⟩ := by
  rw [has_blk hG.1 (at_id hG.2).1 (at_id hG.2).2] at hb
  exact signalH_f hb
theorem sig_halt {h : Hall} {id : Int} (hG : GoodSig h id) (hb : decide (id ∈ blkIds h) = false) : GoodHalt (signalH h (hI h id)) id := by
  have hk := sig_hall hG
  have e := sig_free hG hb
  rw [has_blk hG.1 (at_id hG.2).1 (at_id hG.2).2] at hb
  refine ⟨hk, ?_, ?_⟩
  · rw [e]; exact hG.2
  · rw [e]; exact hb
theorem sig_still {h : Hall} {id : Int} (hG : GoodSig h id) (hb : decide (id ∈ blkIds h) = false) : decide (id ∈ blkIds (waitH (signalH h (hI h id)) (hI (signalH h (hI h id)) id))) = false ∧ decide (id ∈ evtIds (waitH (signalH h (hI h id)) (hI (signalH h (hI h id)) id))) = false := by
  have hk := sig_hall hG
  have e := sig_free hG hb
  obtain ⟨h1, h2⟩ := at_id hG.2
  have hb' := hb
  rw [has_blk hG.1 h1 h2] at hb'
  have ei : hI (signalH h (hI h id)) id = hI h id := by rw [e]; rfl
  rw [ei]
  have s1 := sig_at hG
  have hw := wait_hall hk s1.1
  have s2 : ((waitH (signalH h (hI h id)) (hI h id)).list.getD (hI h id) zVcpu).id = id := by rw [hw.2.2 _ s1.1]; exact s1.2
  have s3 : hI h id < (waitH (signalH h (hI h id)) (hI h id)).list.length := by rw [hw.2.1]; exact s1.1
  rw [has_blk hw.1 s3 s2, has_evt hw.1 s3 s2]
  have he : hI h id < h.events.length := by rw [hG.1.1.2]; exact h1
  have ew : waitH (signalH h (hI h id)) (hI h id) = ⟨h.list, (h.events.set (hI h id) true).set (hI h id) false⟩ := by
    rw [e]
    exact waitH_t (setB_get he)
  rw [ew]
  exact ⟨hb', setB_get (by rw [List.length_set]; exact he)⟩
theorem halt_is {h : Hall} {id : Int} (hG : GoodHalt h id) : IsHall (waitH h (hI h id)) := (wait_hall hG.1 (at_id hG.2.1).1).1
theorem halt_evt {h : Hall} {id : Int} (hG : GoodHalt h id) : decide (id ∈ blkIds (waitH h (hI h id))) = !decide (id ∈ evtIds h) := by
  obtain ⟨h1, h2⟩ := at_id hG.2.1
  have hw := wait_hall hG.1 h1
  rw [has_blk hw.1 (by rw [hw.2.1]; exact h1) (by rw [hw.2.2 _ h1]; exact h2), has_evt hG.1 h1 h2]
  have hb := hG.2.2
  unfold blk evt
  cases he : h.events.getD (hI h id) false with
  | true => rw [waitH_t he]; exact hb
  | false => rw [waitH_f he]; dsimp only; rw [set_get h1, if_pos rfl]; rfl
theorem has_at {xs : List Int} {x : Int} {i : Nat} (hi : i < xs.length) (h : xs.getD i 0 = x) : x ∈ xs := by
  rw [List.getD_eq_getElem?_getD, List.getElem?_eq_getElem hi] at h
  subst h
  exact List.getElem_mem hi
theorem has_not {xs : List Int} {x : Int} (h : ∀ j, j < xs.length → xs.getD j 0 ≠ x) : x ∉ xs := by
  intro q
  obtain ⟨i, hi, rfl⟩ := List.getElem_of_mem q
  refine h i hi ?_
  rw [List.getD_eq_getElem?_getD, List.getElem?_eq_getElem hi]; rfl
def pickH (c : Prop) [Decidable c] (p : Hall) : Hall := if c then p else ⟨[], []⟩
theorem pickH_y {c : Prop} [Decidable c] {p : Hall} (h : c) : pickH c p = p := if_pos h
theorem pickH_n {c : Prop} [Decidable c] {p : Hall} (h : ¬ c) : pickH c p = ⟨[], []⟩ := if_neg h
theorem pickH_small {c : Prop} [Decidable c] {p : Hall} (h : c → SmallHall p) : SmallHall (pickH c p) := by
  unfold pickH; split
  · exact h (by assumption)
  · exact ⟨Nat.zero_le _, Nat.zero_le _⟩
theorem small_ih {h : Hall} (k : IsHall h) : SmallHall h := small_of k ⟨rfl, rfl⟩
theorem small_blk {h : Hall} (k : IsHall h) : (blkIds h).length ≤ 1048576 := Nat.le_trans (idsOf_len h.list (blk h) h.list.length) (small_ih k).1
theorem small_evt {h : Hall} (k : IsHall h) : (evtIds h).length ≤ 1048576 := Nat.le_trans (idsOf_len h.list (evt h) h.list.length) (small_ih k).1
section
variable {P : Program} {G : Gh} {Y : World → World → Prop} {fr : Fr} {st : Store} {dst : Option Tmp} {ty : TypeId} {pos : String} {aft : Array Edge} {gd : Option (Nat × Bool)} {t t' : TypeId} {x y : Operand} {p q : Bool}
theorem p_eqlBF (ht : P.underlying t = some .bool) (hx : opv fr x = some (.bool p)) (hy : opv fr y = some (.bool q)) (h : p = !q) : Pure P G Y fr st ⟨dst, .binOp .eql t x y t', ty, pos, aft, gd⟩ (.bool false) := by
  subst h
  have := p_eql_b (P := P) (G := G) (Y := Y) (st := st) (dst := dst) (ty := ty) (pos := pos) (aft := aft) (gd := gd) (t := t) (t' := t') ht hx hy
  cases q <;> simpa using this
end

end Go.Hv
