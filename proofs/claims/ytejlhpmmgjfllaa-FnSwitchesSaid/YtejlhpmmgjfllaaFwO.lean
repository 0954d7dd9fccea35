/-
  The framework, part O: families of blocks, one for each element of a list. It holds for every program. Condition: none.
-/
import Derived.Test.YtejlhpmmgjfllaaFwN
namespace Go.Fw
open Go
set_option linter.unusedVariables false

/-! ### Picking from a store that holds families -/
theorem Pick.under {l l' : Store} {b : Nat} {e : Entry} (h : Pick l b e l') : ∀ m : Store, Pick (m ++ l) b e (m ++ l')
  | [] => h
  | x :: m => .next x (Pick.under h m)
theorem Picks.skip1 {l m l' : Store} (x : Nat × Entry) (h : Picks l m l') : Picks (x :: l) m (x :: l') := by
  induction h with
  | nil st => exact .nil _
  | cons h _ ih => exact .cons (.next x h) ih
theorem Picks.skipA {l m l' : Store} (h : Picks l m l') : ∀ n : Store, Picks (n ++ l) m (n ++ l')
  | [] => h
  | x :: n => (Picks.skipA h n).skip1 x
theorem Picks.whole : ∀ m l : Store, Picks (m ++ l) m l
  | [], l => .nil l
  | (b, e) :: m, l => .cons (.here b e _) (Picks.whole m l)
theorem Picks.whole0 (m : Store) : Picks m m [] := by
  have := Picks.whole m []
  rwa [List.append_nil] at this
theorem Picks.both {st m r l r' : Store} (h : Picks st m r) (h2 : Picks r l r') : Picks st (m ++ l) r' := by
  induction h with
  | nil st => exact h2
  | cons h _ ih => exact .cons h (ih h2)

/-! ### A family -/
def fam {α : Type} (f : α → Nat × Entry) (ps : List α) : Store := ps.map f
theorem fam_nil {α : Type} (f : α → Nat × Entry) : fam f [] = [] := rfl
theorem fam_one {α : Type} (f : α → Nat × Entry) (p : α) : fam f [p] = [f p] := rfl
theorem fam_cons {α : Type} (f : α → Nat × Entry) (p : α) (ps : List α) : fam f (p :: ps) = f p :: fam f ps := rfl
theorem fam_app {α : Type} (f : α → Nat × Entry) (ps qs : List α) : fam f (ps ++ qs) = fam f ps ++ fam f qs := List.map_append
theorem fam_split {α : Type} (f : α → Nat × Entry) {ps : List α} {i : Nat} (z : α) (h : i < ps.length) : fam f ps = fam f (ps.take i) ++ f (ps.getD i z) :: fam f (ps.drop (i + 1)) := by
  have : ps = ps.take i ++ ps.getD i z :: ps.drop (i + 1) := by
    rw [List.getD_eq_getElem?_getD, List.getElem?_eq_getElem h, Option.getD_some, List.getElem_cons_drop, List.take_append_drop]
  conv => lhs; rw [this]
  rw [fam_app, fam_cons]
theorem fam_set {α : Type} (f : α → Nat × Entry) {ps : List α} {i : Nat} (p : α) (h : i < ps.length) : fam f (ps.set i p) = fam f (ps.take i) ++ f p :: fam f (ps.drop (i + 1)) := by
  rw [List.set_eq_take_append_cons_drop, if_pos h, fam_app, fam_cons]
theorem mem_fam {α : Type} {f : α → Nat × Entry} {ps : List α} {p : α} (h : p ∈ ps) : f p ∈ fam f ps := List.mem_map_of_mem h

theorem closedS_app {l m : Store} (h : ClosedS l) (k : ClosedS m) : ClosedS (l ++ m) := fun b e hb => (List.mem_append.1 hb).elim (h b e) (k b e)
theorem closedS_fam {α : Type} {f : α → Nat × Entry} (h : ∀ p, ClosedE (f p).2) (ps : List α) : ClosedS (fam f ps) := fun b e hb => by
  obtain ⟨p, _, hp⟩ := List.mem_map.1 hb
  have := h p
  rw [hp] at this; exact this
theorem vwR_map {α β : Type} {st : Store} {own : α → List AV} {pl : β → List AV} {g : α → β} : ∀ {ps : List α}, (∀ p ∈ ps, VwL st (own p) (pl (g p))) → VwR st (ps.map own) ((ps.map g).map pl)
  | [], _ => .nil
  | p :: ps, h => .cons (h p List.mem_cons_self) (vwR_map (fun q hq => h q (List.mem_cons_of_mem _ hq)))

section
variable {P : Program} {G : Gh} {Q : Post} {fr : Fr} {st : Store}
/-- The store may be told in another order, or with less. -/
theorem a_sto {c : Code} {st' rest : Store} (hp : Picks st st' rest) (h : awp P G c Q fr st') : awp P G c Q fr st :=
  a_less h (fun a w ⟨M, hM⟩ => ⟨M, hM.sub hp (fun _ _ h => h)⟩)
end

/-! ### Lists of lists: pairs of a block and what it holds -/
abbrev BI := Nat × List Int
def zBI : BI := (0, [])
def famI (t : TypeId) (p : BI) : Nat × Entry := (p.1, .arr t 1 (p.2.map eInt))
def rowI (p : BI) : List AV := [.own 1 p.1 0 p.2.length]
abbrev eInts (x : List Int) : List AV := [.sl (x.map eInt)]
theorem closed_famI (t : TypeId) (p : BI) : ClosedE (famI t p).2 := closedAll _ _ _ _ (fun _ => all_cons' (closed_int _ _) all_nil')
theorem closed_rowI : ∀ p, ∀ c ∈ rowI p, Closed c := fun _ => all_cons' (closed_own _ _ _ _) all_nil'
theorem vwR_ints {t : TypeId} {st : Store} {ps : List BI} (h : ∀ x ∈ fam (famI t) ps, x ∈ st) : VwR st (ps.map rowI) ((ps.map (·.2)).map eInts) :=
  vwR_map (fun p hp => .cons (.own (h _ (mem_fam hp)) (List.length_map _)) .nil)

end Go.Fw
