/-
  The framework, part I: an argument that reads as data is told by an abstract value; from a contract to a law's row. It holds for every program. Condition: none.
-/
import Derived.Test.YtejlhpmmgjfllaaFwH
import Derived.ProofKit
import Derived.ChangeOld
import Derived.Deep.Slices
import Derived.Carry
namespace Go.Fw
open Go Go.RowKit Go.ChangeShapes Go.WideShapes

/-- Whatever reads as data of type t is told by some a that is ok. -/
def Reads (P : Program) (t : TypeId) {α : Type} (e : α → List AV) (ok : α → Prop) : Prop :=
  ∀ (H : Type) (enc : TypeId × Value → H) (w : World) (fuel : Nat) (cs : List Value) (x : DataW H × List MemPlace), DataW.trod enc P w 0 (fun _ => true) true fuel t cs = some x →
    ∃ a, ok a ∧ cs.length = (e a).length ∧ ∀ (i : Nat) av, (e a)[i]? = some av → Rep (fun b => b < w.heap.size) w (cs.getD i undef) av

def InK (k : IntKind) (n : Int) : Prop := (Lit.int k n).wf = true

theorem InK.i64 {n : Int} (h : InK .i64 n) : InI n := by
  unfold InK Lit.wf at h
  simp only [Bool.and_eq_true, decide_eq_true_eq] at h
  have h1 : IntKind.i64.min = -9223372036854775808 := by decide
  have h2 : IntKind.i64.max = 9223372036854775807 := by decide
  exact ⟨by omega, by omega⟩

theorem InK.u8 {n : Int} (h : InK .u8 n) : 0 ≤ n ∧ n ≤ 255 := by
  unfold InK Lit.wf at h
  simp only [Bool.and_eq_true, decide_eq_true_eq] at h
  have h1 : IntKind.u8.min = 0 := by decide
  have h2 : IntKind.u8.max = 255 := by decide
  exact ⟨by omega, by omega⟩

theorem reads_int {P : Program} {t : TypeId} (ht : P.underlying t = some (.int .i64)) : Reads P t eInt InI := fun H enc w fuel cs x h => by
  obtain ⟨n, rfl, _, hw⟩ := DataW.trod_int ht h
  refine ⟨n, InK.i64 hw, rfl, fun i av hi => ?_⟩
  match i, hi with
  | 0, hi => cases hi; exact .int _ _

abbrev eByte (x : Int) : List AV := [.int .u8 x]
theorem reads_byte {P : Program} {t : TypeId} (ht : P.underlying t = some (.int .u8)) : Reads P t eByte (fun n => 0 ≤ n ∧ n ≤ 255) := fun H enc w fuel cs x h => by
  obtain ⟨n, rfl, _, hw⟩ := DataW.trod_int ht h
  refine ⟨n, InK.u8 hw, rfl, fun i av hi => ?_⟩
  match i, hi with
  | 0, hi => cases hi; exact .int _ _

theorem reads_bool {P : Program} {t : TypeId} (ht : P.underlying t = some .bool) : Reads P t eBool (fun _ => True) := fun H enc w fuel cs x h => by
  obtain ⟨b, rfl, _⟩ := DataW.trod_bool ht h
  refine ⟨b, trivial, rfl, fun i av hi => ?_⟩
  match i, hi with
  | 0, hi => cases hi; exact .bool _

theorem choose_list {α : Type} {n : Nat} {p : Nat → α → Prop} (h : ∀ i, i < n → ∃ a, p i a) : ∃ xs : List α, xs.length = n ∧ ∀ (i : Nat) a, xs[i]? = some a → p i a := by
  induction n with
  | zero => exact ⟨[], rfl, fun i a hi => by simp at hi⟩
  | succ n ih =>
    obtain ⟨xs, h1, h2⟩ := ih (fun i hi => h i (by omega))
    obtain ⟨a, ha⟩ := h n (by omega)
    refine ⟨xs ++ [a], by simp [h1], fun i b hi => ?_⟩
    by_cases hin : i < n
    · rw [List.getElem?_append_left (by omega)] at hi; exact h2 i b hi
    · rw [List.getElem?_append_right (by omega), h1] at hi
      have : i = n := by
        have := (List.getElem?_eq_some_iff.1 hi).1
        simp at this; omega
      subst this
      simp at hi
      subst hi
      exact ha

/-- A slice: its elements, by value. -/
theorem reads_slice {P : Program} {t e : TypeId} {s : Nat} {α : Type} {f : α → List AV} {ok : α → Prop} (ht : P.underlying t = some (.slice e)) (hs : P.cellsOf e = s) (hs0 : 0 < s) (hf : ∀ a, (f a).length = s) (hr : Reads P e f ok) :
    Reads P t (fun xs : List α => [.sl (xs.map f)]) (fun xs => (∀ x ∈ xs, ok x) ∧ xs.length ≤ maxLen) := fun H enc w fuel cs x h => by
  rcases Deep.open_slice ht h with ⟨rfl, _⟩ | ⟨a, len, cap, m, n, D, Pl, rfl, _, hlc, hcm, hm, _, hall⟩
  · refine ⟨[], ⟨(fun x hx => by cases hx), Nat.zero_le _⟩, rfl, fun i av hi => ?_⟩
    match i, hi with
    | 0, hi => cases hi; exact .sl0 _ _
  · simp only [if_true] at hm
    subst hm
    have hch : ∀ i, i < len → ∃ b : α, ok b ∧ ∃ cs' : List Value, cs'.length = s ∧ (∀ j, j < s → w.cell? (a.add (i * s + j)) = cs'[j]?) ∧ (f b).length = s ∧ ∀ (j : Nat) av, (f b)[j]? = some av → Rep (fun b => b < w.heap.size) w (cs'.getD j undef) av := fun i hi => by
      obtain ⟨cs', hc, hd⟩ := hall i (by omega)
      obtain ⟨b, hb, hl, hrep⟩ := hr H enc w n cs' _ hd
      obtain ⟨_, hcl, hat⟩ := World.cells?_some hc
      rw [hs] at hcl hat
      refine ⟨b, hb, cs', hcl, fun j hj => ?_, hf b, hrep⟩
      have := hat j hj
      rw [Deep.add_add] at this
      exact this
    obtain ⟨xs, hx1, hx2⟩ := choose_list hch
    refine ⟨xs, ⟨fun b hb => ?_, by omega⟩, rfl, fun i av hi => ?_⟩
    · obtain ⟨i, hi⟩ := List.mem_iff_getElem?.1 hb
      exact (hx2 i b hi).1
    · match i, hi with
      | 0, hi =>
        cases hi
        simp only [List.getD_cons_zero]
        by_cases h0 : xs = []
        · subst h0
          simp at hx1
          subst hx1
          exact .sl0 _ _
        · have hlen0 : 0 < xs.length := List.length_pos_iff.2 h0
          have hx0 := hx2 0 _ (List.getElem?_eq_getElem hlen0)
          · obtain ⟨_, cs', hl', hat, _, _⟩ := hx0
            have hc0 := hat 0 (by omega)
            have hspot : a.spot = none := by
              rw [Nat.zero_mul, Nat.add_zero, Addr.add_zero'] at hc0
              rw [List.getElem?_eq_getElem (by omega)] at hc0
              exact World.cell?_spot hc0
            obtain ⟨b, off, spot⟩ := a
            simp only at hspot
            subst hspot
            have hM : b < w.heap.size := by
              rw [Nat.zero_mul, Nat.add_zero, Addr.add_zero'] at hc0
              rw [List.getElem?_eq_getElem (by omega)] at hc0
              exact World.block_lt_of_cell? _ _ hc0
            have hcell : ∀ (i : Nat) row (j : Nat) av, (xs.map f)[i]? = some row → row[j]? = some av → ∃ v, w.cell? ⟨b, off + i * s + j, none⟩ = some v ∧ Rep (fun b => b < w.heap.size) w v av := fun i row j av hi hj => by
              rw [List.getElem?_map] at hi
              cases hxi : xs[i]? with
              | none => simp [hxi] at hi
              | some y =>
                simp [hxi] at hi
                subst hi
                obtain ⟨_, cs', hl', hat, hfl, hrep⟩ := hx2 i y hxi
                have hjs : j < s := by rw [← hfl]; exact (List.getElem?_eq_some_iff.1 hj).1
                have h1 := hat j hjs
                rw [List.getElem?_eq_getElem (by omega), Addr.add_lit, ← Nat.add_assoc] at h1
                refine ⟨_, h1, ?_⟩
                have := hrep j av hj
                simpa [List.getD, List.getElem?_eq_getElem (show j < cs'.length by omega)] using this
            have := Rep.sl (M := fun b => b < w.heap.size) (w := w) b off m s (xs.map f) (fun i j => (w.cell? ⟨b, off + i * s + j, none⟩).getD undef) hM (by simp; omega) (fun i row hi => by
                rw [List.getElem?_map] at hi
                cases hxi : xs[i]? with
                | none => simp [hxi] at hi
                | some y => simp [hxi] at hi; subst hi; exact hf y) (fun i row j av hi hj => by
                obtain ⟨v, h1, _⟩ := hcell i row j av hi hj
                simp [h1]) (fun i row j av hi hj => by
                obtain ⟨v, h1, h2⟩ := hcell i row j av hi hj
                simpa [h1] using h2)
            rwa [List.length_map, hx1] at this

/-- The fields of a struct, one behind the other. -/
def ReadsF (P : Program) (fs : List Field) (off : Nat) {α : Type} (e : α → List AV) (ok : α → Prop) : Prop :=
  ∀ (H : Type) (enc : TypeId × Value → H) (w : World) (n : Nat) (cs : List Value) (xs : List (DataW H × List MemPlace)),
    (∀ (i : Nat) (f : Field), fs[i]? = some f → ∃ y, DataW.trod enc P w 0 (fun _ => true) true n f.type ((cs.drop f.offset).take (P.cellsOf f.type)) = some y) →
    xs = xs → ∃ a, ok a ∧ ∀ (i : Nat) av, (e a)[i]? = some av → Rep (fun b => b < w.heap.size) w (cs.getD (off + i) undef) av

theorem readsF_nil {P : Program} (off : Nat) : ReadsF P [] off (fun _ : Unit => []) (fun _ => True) := fun H enc w n cs xs h _ => ⟨(), trivial, fun i av hi => by simp at hi⟩

theorem readsF_cons {P : Program} {f : Field} {fs : List Field} {off s : Nat} {α β : Type} {e : α → List AV} {ok : α → Prop} {e' : β → List AV} {ok' : β → Prop} (h1 : Reads P f.type e ok) (ho : f.offset = off) (hs : P.cellsOf f.type = s) (hl : ∀ a, (e a).length = s)
    (h2 : ReadsF P fs (off + s) e' ok') : ReadsF P (f :: fs) off (fun p : α × β => e p.1 ++ e' p.2) (fun p => ok p.1 ∧ ok' p.2) := fun H enc w n cs xs h hx => by
  obtain ⟨y, hy⟩ := h 0 f rfl
  obtain ⟨a, ha, hla, hra⟩ := h1 H enc w n _ y hy
  obtain ⟨b, hb, hrb⟩ := h2 H enc w n cs xs (fun i g hg => h (i + 1) g (by simpa using hg)) hx
  refine ⟨(a, b), ⟨ha, hb⟩, fun i av hi => ?_⟩
  subst ho hs
  change (e a ++ e' b)[i]? = some av at hi
  by_cases hin : i < (e a).length
  · rw [List.getElem?_append_left hin] at hi
    have := hra i av hi
    have hlt : i < P.cellsOf f.type := by rw [← hl a]; exact hin
    rw [List.getD_eq_getElem?_getD, List.getElem?_take, if_pos hlt, List.getElem?_drop] at this
    rwa [List.getD_eq_getElem?_getD]
  · rw [List.getElem?_append_right (by omega)] at hi
    have := hrb _ av hi
    rw [hl a] at this hin
    rwa [show f.offset + P.cellsOf f.type + (i - P.cellsOf f.type) = f.offset + i by omega] at this

theorem reads_struct {P : Program} {t : TypeId} {fs : Array Field} {α : Type} {e : α → List AV} {ok : α → Prop} (ht : P.underlying t = some (.struct fs)) (hf : ReadsF P fs.toList 0 e ok) (hl : ∀ a, (e a).length = P.cellsOf t) : Reads P t e ok := fun H enc w fuel cs x h => by
  obtain ⟨xs, n, _, _, hlen, hxs, hg⟩ := DataW.trod_struct ht h
  obtain ⟨a, ha, hr⟩ := hf H enc w n cs xs (fun i f hi => by
    have hi' : fs[i]? = some f := by simpa using hi
    have hlt : i < xs.length := by rw [hxs]; exact (Array.getElem?_eq_some_iff.1 hi').1
    exact ⟨xs[i], by rw [hg i f hi', List.getElem?_eq_getElem hlt]⟩) rfl
  exact ⟨a, ha, by rw [hlen, hl], fun i av hi => by simpa using hr i av hi⟩

theorem Reads.map {P : Program} {t : TypeId} {α β : Type} {e : α → List AV} {ok : α → Prop} {e' : β → List AV} {ok' : β → Prop} (h : Reads P t e ok) (g : α → β) (he : ∀ a, e' (g a) = e a) (hok : ∀ a, ok a → ok' (g a)) : Reads P t e' ok' := fun H enc w fuel cs x hx => by
  obtain ⟨a, ha, hl, hr⟩ := h H enc w fuel cs x hx
  exact ⟨g a, hok a ha, by rw [he, hl], by rw [he]; exact hr⟩

section
variable {H : Type} {enc : TypeId × Value → H} {P : Program} {w : World} {r : Reach} {base : Nat} {v : Value} {d : DataW H} {p : List MemPlace}

/-- A struct, by value. -/
theorem arg_agg {t : TypeId} {fs : Array Field} {α : Type} {e : α → List AV} {ok : α → Prop} (hu : P.underlying t = some (.struct fs)) (hr : Reads P t e ok) (hv : Value.okWide P w r base t v) (h : DataW.Trod enc P w 0 (fun _ => true) true t v d p) :
    ∃ a, ok a ∧ Rep (fun b => b < w.heap.size) w v (.agg (e a)) := by
  obtain ⟨cs, rfl, _⟩ := okWide_struct hu hv
  obtain ⟨fuel, hf⟩ := h
  obtain ⟨a, ha, hl, hrep⟩ := hr H enc w fuel _ _ hf
  refine ⟨a, ha, .agg _ _ (by simpa [Value.cells] using hl) (fun i av hi => ?_)⟩
  have := hrep i av hi
  simpa [Value.cells, Array.getD_eq_getD_getElem?, List.getD_eq_getElem?_getD] using this

/-- A value of one cell. -/
theorem arg_one {t : TypeId} {α : Type} {g : α → AV} {ok : α → Prop} (hr : Reads P t (fun a => [g a]) ok) (hv : v.cells = #[v]) (h : DataW.Trod enc P w 0 (fun _ => true) true t v d p) :
    ∃ a, ok a ∧ Rep (fun b => b < w.heap.size) w v (g a) := by
  obtain ⟨fuel, hf⟩ := h
  obtain ⟨a, ha, hl, hrep⟩ := hr H enc w fuel _ _ hf
  have := hrep 0 _ rfl
  rw [hv] at this
  exact ⟨a, ha, by simpa using this⟩

theorem Tr.below {w w' : World} (h : Tr [] w w') : Below w.heap.size w w' := ⟨h.os, h.tape, h.output, h.size, fun k hk => h.same k hk (by simp)⟩

/-- A law's contract, as its row wants it. -/
theorem law_calls {f : FuncId} {args : List AV} (h : ACalls P f args [] (Ret (.bool true))) (w : World) (vs : Array Value) (hl : vs.size = args.length) (hr : ∀ (i : Nat) av, args[i]? = some av → Rep (fun b => b < w.heap.size) w (vs.getD i undef) av) :
    Calls P f vs w fun e w' => e = .returned (.bool true) ∧ Below w.heap.size w w' :=
  (h (fun b => b < w.heap.size) w vs ⟨List.nodup_nil, (fun _ _ hb => by cases hb), (fun _ _ hb => by cases hb), (fun _ hb => hb)⟩ hl hr).mono fun e w' => by
    rintro ⟨v, r, st', M', rfl, ⟨rfl, rfl⟩, hv, _, ht, _⟩
    exact ⟨by rw [hv.bool_inv], Tr.below ht⟩

theorem reps1 {M : Nat → Prop} {v0 : Value} {a0 : AV} (h0 : Rep M w v0 a0) : ∀ (i : Nat) av, [a0][i]? = some av → Rep M w ((#[v0] : Array Value).getD i undef) av := fun i av hi => by
  match i, hi with
  | 0, hi => cases hi; exact h0
theorem reps2 {M : Nat → Prop} {v0 v1 : Value} {a0 a1 : AV} (h0 : Rep M w v0 a0) (h1 : Rep M w v1 a1) : ∀ (i : Nat) av, [a0, a1][i]? = some av → Rep M w ((#[v0, v1] : Array Value).getD i undef) av := fun i av hi => by
  match i, hi with
  | 0, hi => cases hi; exact h0
  | 1, hi => cases hi; exact h1
theorem reps3 {M : Nat → Prop} {v0 v1 v2 : Value} {a0 a1 a2 : AV} (h0 : Rep M w v0 a0) (h1 : Rep M w v1 a1) (h2 : Rep M w v2 a2) : ∀ (i : Nat) av, [a0, a1, a2][i]? = some av → Rep M w ((#[v0, v1, v2] : Array Value).getD i undef) av := fun i av hi => by
  match i, hi with
  | 0, hi => cases hi; exact h0
  | 1, hi => cases hi; exact h1
  | 2, hi => cases hi; exact h2
theorem reps4 {M : Nat → Prop} {v0 v1 v2 v3 : Value} {a0 a1 a2 a3 : AV} (h0 : Rep M w v0 a0) (h1 : Rep M w v1 a1) (h2 : Rep M w v2 a2) (h3 : Rep M w v3 a3) : ∀ (i : Nat) av, [a0, a1, a2, a3][i]? = some av → Rep M w ((#[v0, v1, v2, v3] : Array Value).getD i undef) av := fun i av hi => by
  match i, hi with
  | 0, hi => cases hi; exact h0
  | 1, hi => cases hi; exact h1
  | 2, hi => cases hi; exact h2
  | 3, hi => cases hi; exact h3
end

end Go.Fw
