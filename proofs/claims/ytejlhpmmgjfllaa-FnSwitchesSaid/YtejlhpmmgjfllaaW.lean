/-
  What the program's head says, reckoned once for all laws of the seat. Condition: none.
-/
import Derived.Test.YtejlhpmmgjfllaaRows
import Derived.JoinedOf
import Derived.WalkKit
import Derived.OpenShut
namespace Go.Proofs.Ytejlhpmmgjfllaa
open Go

def head0 : List Char := (([104, 97, 114, 110, 101, 115, 115] : List Nat).map Char.ofNat)
def head1 : List Char := (([49, 50, 97, 55, 54, 48, 101, 98, 57, 51, 50, 100, 102, 48, 99, 54, 98, 102, 97, 102, 102, 99, 101, 51, 100, 99, 51, 100, 97, 50, 51, 48, 50, 51, 101, 101, 101, 52, 99, 101, 51, 49, 57, 97, 98, 55, 50,
  51, 48, 97, 48, 99, 101, 98, 55, 100, 97, 98, 48, 49, 49, 50, 53, 57] : List Nat).map Char.ofNat)
def head2 : List Char := (([99, 117, 116] : List Nat).map Char.ofNat)
def head3 : List Char := (([97, 116, 32, 108, 111, 111, 112, 46, 101, 120, 97, 109, 112, 108, 101, 47, 103, 48, 48, 56, 52, 51, 47, 108, 97, 119, 115, 46, 70, 110, 69, 120, 97, 99, 116, 83, 97, 118, 101, 67, 111, 110, 116, 101,
  120, 116, 32, 108, 111, 111, 112, 46, 101, 120, 97, 109, 112, 108, 101, 47, 103, 48, 48, 56, 52, 51, 47, 108, 97, 119, 115, 46, 70, 110, 69, 120, 97, 99, 116, 67, 104, 97, 110, 103, 101, 100, 87, 111,
  114, 100, 115, 32, 108, 111, 111, 112, 46, 101, 120, 97, 109, 112, 108, 101, 47, 103, 48, 48, 56, 52, 51, 47, 108, 97, 119, 115, 46, 70, 110, 69, 120, 97, 99, 116, 82, 117, 110, 110, 97, 98, 108, 101,
  71, 117, 101, 115, 116, 115, 32, 108, 111, 111, 112, 46, 101, 120, 97, 109, 112, 108, 101, 47, 103, 48, 48, 56, 52, 51, 47, 108, 97, 119, 115, 46, 70, 110, 69, 120, 97, 99, 116, 87, 105, 116, 104, 80,
  101, 110, 100, 105, 110, 103, 32, 108, 111, 111, 112, 46, 101, 120, 97, 109, 112, 108, 101, 47, 103, 48, 48, 56, 52, 51, 47, 108, 97, 119, 115, 46, 70, 110, 69, 120, 97, 99, 116, 82, 97, 105, 115,
  101, 80, 101, 110, 100, 105, 110, 103, 32, 108, 111, 111, 112, 46, 101, 120, 97, 109, 112, 108, 101, 47, 103, 48, 48, 56, 52, 51, 47, 108, 97, 119, 115, 46, 70, 110, 69, 120, 97, 99, 116, 83, 119, 97,
  112, 73, 109, 97, 103, 101, 115, 32, 108, 111, 111, 112, 46, 101, 120, 97, 109, 112, 108, 101, 47, 103, 48, 48, 56, 52, 51, 47, 108, 97, 119, 115, 46, 70, 110, 67, 111, 110, 116, 101, 120, 116, 115,
  32, 108, 111, 111, 112, 46, 101, 120, 97, 109, 112, 108, 101, 47, 103, 48, 48, 56, 52, 51, 47, 108, 97, 119, 115, 46, 70, 110, 83, 119, 105, 116, 99, 104, 101, 115, 32, 108, 111, 111, 112, 46, 101,
  120, 97, 109, 112, 108, 101, 47, 103, 48, 48, 56, 52, 51, 47, 108, 97, 119, 115, 46, 70, 110, 69, 120, 97, 99, 116, 83, 119, 105, 116, 99, 104, 84, 111] : List Nat).map Char.ofNat)
theorem signs : ∀ (w r : List Char), w.all (fun c => c != Char.ofNat 32) = true → wordsSigns (w ++ Char.ofNat 32 :: r) = w :: wordsSigns r
  | [], r, _ => rfl
  | c :: w, r, h => by
    simp only [List.all_cons, Bool.and_eq_true, bne_iff_ne, ne_eq] at h
    have ih := signs w r h.2
    have hc : ¬ c = Char.ofNat 32 := h.1
    rw [List.cons_append]
    conv => lhs; unfold wordsSigns
    split
    · rename_i heq; cases heq
    · rename_i heq; exact absurd (List.cons.inj heq).1 hc
    · rename_i heq
      obtain ⟨rfl, rfl⟩ := List.cons.inj heq
      rw [ih]
theorem headIs : Try.pinned.checked.prog.initOrder = String.ofList (head0 ++ Char.ofNat 32 :: (head1 ++ Char.ofNat 32 :: (head2 ++ Char.ofNat 32 :: head3))) := by kernel_rfl
theorem headSigns : Try.pinned.checked.prog.initOrder.toList = head0 ++ Char.ofNat 32 :: (head1 ++ Char.ofNat 32 :: (head2 ++ Char.ofNat 32 :: head3)) := (congrArg String.toList headIs).trans String.toList_ofList
theorem behind_of {l a b c r : List Char} (h : l = a ++ Char.ofNat 32 :: (b ++ Char.ofNat 32 :: (c ++ Char.ofNat 32 :: r))) (ha : a.all (fun c => c != Char.ofNat 32) = true) (hb : b.all (fun c => c != Char.ofNat 32) = true) (hc : c.all (fun c => c != Char.ofNat 32) = true)
    (hm : ((a == "harness".toList || a == "ownmain".toList) && isSumSigns b) = true) : behindMainWord (wordsSigns l) = c :: wordsSigns r := by
  rw [h, signs _ _ ha, signs _ _ hb, signs _ _ hc]
  exact if_pos hm
theorem strip (c : List Char) (r : List (List Char)) : ∀ (os : List String), os.all (fun o => !(c == o.toList)) = true → stripLifts os (c :: r) = ([], c :: r)
  | [], _ => rfl
  | o :: os, h => by
    simp only [List.all_cons, Bool.and_eq_true, Bool.not_eq_true'] at h
    rw [stripLifts, h.1]
    simp only [Bool.false_eq_true, if_false]
    exact strip c r os h.2
theorem mayEnter_of {P : Program} {c : List Char} {r : List (List Char)} (h : behindMainWord (wordsSigns P.initOrder.toList) = c :: r) (e1 : (c == "gc".toList || c == "spec".toList) = false) (e3 : (c == "carried".toList) = false) (e4 : (some c == some "cut".toList) = true)
    (e8 : liftWords.all (fun o => !(c == o.toList)) = true) (e5 : P.laysLater = false) (e6 : P.bearsReflect = false) (e7 : P.doorFits [] = true) : P.mayEnter = true := by
  unfold Program.mayEnter
  rw [h]
  simp only [e1, e3, strip _ _ _ e8, e4, e5, e6, e7, Bool.false_and, Bool.false_or, Bool.not_false, Bool.or_true, Bool.and_true, List.head?_cons, List.contains_nil]
theorem make_of {P : Program} {c : List Char} {r : List (List Char)} (h : behindMainWord (wordsSigns P.initOrder.toList) = c :: r) (e1 : (c == "gc".toList || c == "spec".toList) = false) (e2 : (c == "cut".toList) = true) : P.make = some .cut := by
  unfold Program.make
  rw [h]
  simp only [e1, e2, Bool.true_or, if_true, Bool.false_eq_true, if_false]
theorem lifts_of {P : Program} {c : List Char} {r : List (List Char)} (h : behindMainWord (wordsSigns P.initOrder.toList) = c :: r) (e3 : (some c == some "carried".toList) = false) (e4 : (some c == some "cut".toList) = true) (e8 : liftWords.all (fun o => !(c == o.toList)) = true) : P.liftsFinal = false := by
  unfold Program.liftsFinal Program.headLifts
  rw [h]
  simp only [strip _ _ _ e8, e3, e4, List.head?_cons, Bool.false_and, Bool.false_or, if_true, List.contains_nil]
theorem e1 : (head2 == "gc".toList || head2 == "spec".toList) = false := by decide +kernel
theorem e2 : (head2 == "cut".toList) = true := by decide +kernel
theorem e3 : (head2 == "carried".toList) = false := by decide +kernel
theorem e3' : (some head2 == some "carried".toList) = false := by decide +kernel
theorem e4 : (some head2 == some "cut".toList) = true := by decide +kernel
theorem e8 : liftWords.all (fun o => !(head2 == o.toList)) = true := by decide +kernel
theorem heads : behindMainWord (wordsSigns Try.pinned.checked.prog.initOrder.toList) = head2 :: wordsSigns head3 := behind_of headSigns (by decide +kernel) (by decide +kernel) (by decide +kernel) (by decide +kernel)
theorem e5 : Try.pinned.checked.prog.laysLater = false := by decide +kernel
theorem e6 : Try.pinned.checked.prog.bearsReflect = false := by decide +kernel
theorem e7 : Try.pinned.checked.prog.doorFits [] = true := by decide +kernel
theorem mayEnter : Try.pinned.checked.prog.mayEnter = true := mayEnter_of heads e1 e3 e4 e8 e5 e6 e7
theorem liftsFinal : Try.pinned.checked.prog.liftsFinal = false := lifts_of heads e3' e4 e8
theorem make_ : Try.pinned.checked.prog.make = some .cut := make_of heads e1 e2
theorem laidW : laidOutB Try.pinned.checked.prog = true := by decide +kernel
theorem rowedW : mapsRowed Try.pinned.checked.prog = true := by decide +kernel
theorem heardW : Try.pinned.checked.prog.stopsHeard = true := by decide +kernel
theorem plainW : Try.pinned.checked.prog.plainKeys = true := by decide +kernel
end Go.Proofs.Ytejlhpmmgjfllaa
