/-
  The walks of this part: each theorem is the contract of one function. Condition: none but those that it names.
-/
import Derived.Test.YtejlhpmmgjfllaaCtxHd
import Derived.Test.YtejlhpmmgjfllaaCtxHF
import Derived.Test.YtejlhpmmgjfllaaCtxA
import Derived.Test.YtejlhpmmgjfllaaCtxB
import Derived.Test.YtejlhpmmgjfllaaCtxCs
import Derived.Test.YtejlhpmmgjfllaaCtxDs
import Derived.Test.YtejlhpmmgjfllaaCtxEs
import Derived.Test.YtejlhpmmgjfllaaCtxGs
namespace Go.Proofs.Ytejlhpmmgjfllaa
open Go Go.Fw Go.Hv
attribute [local irreducible] awp Aops Aop ADraw ADrawAll ACalls
set_option maxRecDepth 4000
set_option linter.unusedSimpArgs false
set_option linter.unusedVariables false

theorem ov_113 : IsOverlaps Try.prog 113 44 4 := ⟨_, Try.func113, by kernel_rfl, by kernel_rfl, by kernel_rfl, by kernel_rfl⟩

theorem c_slices_Delete_impl_Context_impl_Context (b : Nat) (ps : List BC) (m : Int) (h0 : 0 ≤ m) (h1 : m < ps.length) (hn : ps.length ≤ 1000) : ACalls Try.prog 99 [.own 7 b 0 ps.length, .int .i64 m, .int .i64 (m + 1)] [(b, .arr 32 7 (ps.map rowC))] (fun r st => r = .own 7 b 0 (woB ps m.toNat).length ∧ st = [(b, .arr 32 7 ((tellX (woB ps m.toNat)).map oX))]) := by
  have hm : m.toNat < ps.length := by omega
  by_cases hc : m + 1 < ps.length
  all_goals refine a_enter Try.func99 rfl rfl (fun w0 M0 => ?_)
  · skip
    refine a_seq ?_
    refine a_region ?_
    refine aops_cons rfl (w_pure rfl (p_assign rfl) ?_)
    refine aops_nil ?_
    refine a_seq ?_
    refine a_region ?_
    refine aops_cons rfl (w_pure rfl (p_move rfl) ?_)
    refine aops_cons rfl (w_pure rfl (p_move rfl) ?_)
    refine aops_cons rfl (w_pure rfl (p_move rfl) ?_)
    refine aops_cons rfl (w_pure rfl (p_move rfl) ?_)
    refine aops_cons rfl (w_pure rfl (p_len sl_44 rfl rfl) ?_)
    refine aops_cons rfl (w_pure rfl (p_slice3 m.toNat (m.toNat + 1) ps.length es_44 rfl rfl rfl rfl (by omega) (by omega) rfl (by omega) (by omega) (Nat.le_refl _)) ?_)
    refine aops_nil ?_
    refine a_seq ?_
    refine a_seq ?_
    refine a_region ?_
    refine aops_cons rfl (w_pure rfl (p_move rfl) ?_)
    refine aops_cons rfl (w_pure rfl (p_move rfl) ?_)
    refine aops_cons rfl (w_pure rfl (p_eql rfl rfl) ?_)
    refine aops_nil ?_
    first | refine a_cond_d rfl (fun h1 => ?_) (fun h2 => ?_) | refine a_cond_n rfl (fun h1 => ?_) (fun h2 => ?_) | refine a_cond_nb rfl (fun h1 => ?_) (fun h2 => ?_) | refine a_cond rfl (fun h1 => ?_) (fun h2 => ?_)
    · (try simp only [Bool.not_eq_true', Bool.not_eq_false', Bool.not_eq_true, Bool.not_eq_false, decide_eq_true_eq, decide_eq_false_iff_not, List.length_map, List.length_range] at h1)
      refine a_seq ?_
      refine a_region ?_
      refine aops_cons rfl (w_pure rfl (p_move rfl) ?_)
      refine aops_cons rfl (w_pure rfl (p_assign rfl) ?_)
      refine aops_nil ?_
      refine a_ret ?_
      refine ret_ok (hands1 rfl (.tmp rfl)) (st' := [(b, _)]) (.cons (.here _ _ _) (.nil _)) ?_
      first | (exfalso; omega) | exact ⟨congrArg (AV.own 7 b 0) (by have := woB_len hm; rw [List.length_drop]; omega), rfl⟩
    · (try simp only [Bool.not_eq_true', Bool.not_eq_false', Bool.not_eq_true, Bool.not_eq_false, decide_eq_true_eq, decide_eq_false_iff_not, List.length_map, List.length_range] at h2)
      refine a_skip ?_
      refine a_seq ?_
      refine a_region ?_
      refine aops_cons rfl (w_pure rfl (p_move rfl) ?_)
      refine aops_cons rfl (w_pure rfl (p_len sl_44 rfl rfl) ?_)
      refine aops_cons rfl (w_pure rfl (p_assign rfl) ?_)
      refine aops_nil ?_
      refine a_seq ?_
      refine a_draw [b] (by kernel_rfl) ?_
      show ADraw _ _ _ _ _ _ 8 _ _ _ _
      refine d_take 0 rfl (by kernel_rfl) (by kernel_rfl) (by kernel_rfl) rfl (p_move rfl) ?_
      refine d_take 1 rfl (by kernel_rfl) (by kernel_rfl) (by kernel_rfl) rfl (p_move rfl) ?_
      refine d_take 2 rfl (by kernel_rfl) (by kernel_rfl) (by kernel_rfl) rfl (p_slice_own m.toNat es_44 rfl (hi_some rfl (by omega)) (by omega)) ?_
      refine d_take 3 rfl (by kernel_rfl) (by kernel_rfl) (by kernel_rfl) rfl (p_move rfl) ?_
      refine d_take 4 rfl (by kernel_rfl) (by kernel_rfl) (by kernel_rfl) rfl (p_move rfl) ?_
      refine d_take 5 rfl (by kernel_rfl) (by kernel_rfl) (by kernel_rfl) rfl (p_slice_own_lo (m.toNat + 1) ps.length es_44 rfl (lo_some rfl (by omega)) rfl (by omega) (Nat.le_refl _)) ?_
      refine draw_all [6] (by kernel_rfl) (by simp) ?_
      refine all_cons rfl rfl ?_ ?_
      · skip
        refine w_append_in rowC (xs := ps) (ys := (ps.drop (m.toNat + 1))) rfl el_44 rfl rfl (by repeat (first | exact Pick.here _ _ _ | apply Pick.next)) (rowsFrom (by repeat (first | exact List.Mem.head _ | apply List.Mem.tail)) (Nat.zero_add _) (by omega) rfl) (by rw [List.length_drop]; omega) (fun _ => rfl) (fun _ => rfl) (by first | (refine .inl ?_; simp; done) | (refine .inr ?_; simp [keys]; done)) ?_
        refine d_take 7 rfl (by kernel_rfl) (by kernel_rfl) (by kernel_rfl) rfl (p_assign rfl) ?_
        refine draw_done (by kernel_rfl) ?_
        refine a_seq ?_
        refine a_region ?_
        refine aops_cons rfl (w_pure rfl (p_move rfl) ?_)
        refine aops_cons rfl (w_pure rfl (p_move rfl) ?_)
        refine aops_cons rfl (w_pure rfl (p_len sl_44 rfl rfl) ?_)
        refine aops_cons rfl (w_pure rfl (p_move rfl) ?_)
        refine aops_cons rfl (w_pure rfl (p_slice_own_st (m.toNat + (ps.drop (m.toNat + 1)).length) ps.length es_44 rfl (lo_some rfl rfl) (hi_some rfl rfl) (by rw [List.length_drop]; omega) (by repeat (first | exact List.Mem.head _ | apply List.Mem.tail)) (by simp; omega)) ?_)
        refine aops_cons rfl (w_clearA rowC _ el_44 z_32 rfl rfl (by rw [List.length_drop]; omega) (by repeat (first | exact Pick.here _ _ _ | apply Pick.next)) trivial ?_)
        rw [del_any (by omega)]
        refine aops_nil ?_
        refine a_seq ?_
        refine a_region ?_
        refine aops_cons rfl (w_pure rfl (p_move rfl) ?_)
        refine aops_cons rfl (w_pure rfl (p_assign rfl) ?_)
        refine aops_nil ?_
        refine a_ret ?_
        refine ret_ok (hands1 rfl (.tmp rfl)) (st' := [(b, _)]) (.cons (.here _ _ _) (.nil _)) ?_
        first | (exfalso; omega) | exact ⟨congrArg (AV.own 7 b 0) (by have := woB_len hm; rw [List.length_drop]; omega), rfl⟩
      exact all_nil
  · skip
    refine a_seq ?_
    refine a_region ?_
    refine aops_cons rfl (w_pure rfl (p_assign rfl) ?_)
    refine aops_nil ?_
    refine a_seq ?_
    refine a_region ?_
    refine aops_cons rfl (w_pure rfl (p_move rfl) ?_)
    refine aops_cons rfl (w_pure rfl (p_move rfl) ?_)
    refine aops_cons rfl (w_pure rfl (p_move rfl) ?_)
    refine aops_cons rfl (w_pure rfl (p_move rfl) ?_)
    refine aops_cons rfl (w_pure rfl (p_len sl_44 rfl rfl) ?_)
    refine aops_cons rfl (w_pure rfl (p_slice3 m.toNat (m.toNat + 1) ps.length es_44 rfl rfl rfl rfl (by omega) (by omega) rfl (by omega) (by omega) (Nat.le_refl _)) ?_)
    refine aops_nil ?_
    refine a_seq ?_
    refine a_seq ?_
    refine a_region ?_
    refine aops_cons rfl (w_pure rfl (p_move rfl) ?_)
    refine aops_cons rfl (w_pure rfl (p_move rfl) ?_)
    refine aops_cons rfl (w_pure rfl (p_eql rfl rfl) ?_)
    refine aops_nil ?_
    first | refine a_cond_d rfl (fun h1 => ?_) (fun h2 => ?_) | refine a_cond_n rfl (fun h1 => ?_) (fun h2 => ?_) | refine a_cond_nb rfl (fun h1 => ?_) (fun h2 => ?_) | refine a_cond rfl (fun h1 => ?_) (fun h2 => ?_)
    · (try simp only [Bool.not_eq_true', Bool.not_eq_false', Bool.not_eq_true, Bool.not_eq_false, decide_eq_true_eq, decide_eq_false_iff_not, List.length_map, List.length_range] at h1)
      refine a_seq ?_
      refine a_region ?_
      refine aops_cons rfl (w_pure rfl (p_move rfl) ?_)
      refine aops_cons rfl (w_pure rfl (p_assign rfl) ?_)
      refine aops_nil ?_
      refine a_ret ?_
      refine ret_ok (hands1 rfl (.tmp rfl)) (st' := [(b, _)]) (.cons (.here _ _ _) (.nil _)) ?_
      first | (exfalso; omega) | exact ⟨congrArg (AV.own 7 b 0) (by have := woB_len hm; rw [List.length_drop]; omega), rfl⟩
    · (try simp only [Bool.not_eq_true', Bool.not_eq_false', Bool.not_eq_true, Bool.not_eq_false, decide_eq_true_eq, decide_eq_false_iff_not, List.length_map, List.length_range] at h2)
      refine a_skip ?_
      refine a_seq ?_
      refine a_region ?_
      refine aops_cons rfl (w_pure rfl (p_move rfl) ?_)
      refine aops_cons rfl (w_pure rfl (p_len sl_44 rfl rfl) ?_)
      refine aops_cons rfl (w_pure rfl (p_assign rfl) ?_)
      refine aops_nil ?_
      refine a_seq ?_
      refine a_draw [b] (by kernel_rfl) ?_
      show ADraw _ _ _ _ _ _ 8 _ _ _ _
      refine d_take 0 rfl (by kernel_rfl) (by kernel_rfl) (by kernel_rfl) rfl (p_move rfl) ?_
      refine d_take 1 rfl (by kernel_rfl) (by kernel_rfl) (by kernel_rfl) rfl (p_move rfl) ?_
      refine d_take 2 rfl (by kernel_rfl) (by kernel_rfl) (by kernel_rfl) rfl (p_slice_own m.toNat es_44 rfl (hi_some rfl (by omega)) (by omega)) ?_
      refine d_take 3 rfl (by kernel_rfl) (by kernel_rfl) (by kernel_rfl) rfl (p_move rfl) ?_
      refine d_take 4 rfl (by kernel_rfl) (by kernel_rfl) (by kernel_rfl) rfl (p_move rfl) ?_
      refine d_take 5 rfl (by kernel_rfl) (by kernel_rfl) (by kernel_rfl) rfl (p_slice_own_nil (m.toNat + 1) es_44 rfl (lo_some rfl (by omega)) (show m.toNat + 1 = ps.length by omega) (by omega)) ?_
      refine draw_all [6] (by kernel_rfl) (by simp) ?_
      refine all_cons rfl rfl ?_ ?_
      · skip
        refine w_append_in rowC (xs := ps) (ys := (ps.drop (m.toNat + 1))) rfl el_44 rfl rfl (by repeat (first | exact Pick.here _ _ _ | apply Pick.next)) (rowsNone (by omega)) (by rw [List.length_drop]; omega) (fun _ => rfl) (fun _ => rfl) (by first | (refine .inl ?_; simp; done) | (refine .inr ?_; simp [keys]; done)) ?_
        refine d_take 7 rfl (by kernel_rfl) (by kernel_rfl) (by kernel_rfl) rfl (p_assign rfl) ?_
        refine draw_done (by kernel_rfl) ?_
        refine a_seq ?_
        refine a_region ?_
        refine aops_cons rfl (w_pure rfl (p_move rfl) ?_)
        refine aops_cons rfl (w_pure rfl (p_move rfl) ?_)
        refine aops_cons rfl (w_pure rfl (p_len sl_44 rfl rfl) ?_)
        refine aops_cons rfl (w_pure rfl (p_move rfl) ?_)
        refine aops_cons rfl (w_pure rfl (p_slice_own_st (m.toNat + (ps.drop (m.toNat + 1)).length) ps.length es_44 rfl (lo_some rfl rfl) (hi_some rfl rfl) (by rw [List.length_drop]; omega) (by repeat (first | exact List.Mem.head _ | apply List.Mem.tail)) (by simp; omega)) ?_)
        refine aops_cons rfl (w_clearA rowC _ el_44 z_32 rfl rfl (by rw [List.length_drop]; omega) (by repeat (first | exact Pick.here _ _ _ | apply Pick.next)) trivial ?_)
        rw [del_any (by omega)]
        refine aops_nil ?_
        refine a_seq ?_
        refine a_region ?_
        refine aops_cons rfl (w_pure rfl (p_move rfl) ?_)
        refine aops_cons rfl (w_pure rfl (p_assign rfl) ?_)
        refine aops_nil ?_
        refine a_ret ?_
        refine ret_ok (hands1 rfl (.tmp rfl)) (st' := [(b, _)]) (.cons (.here _ _ _) (.nil _)) ?_
        first | (exfalso; omega) | exact ⟨congrArg (AV.own 7 b 0) (by have := woB_len hm; rw [List.length_drop]; omega), rfl⟩
      exact all_nil

theorem c_slices_Insert_impl_Context_impl_Context (b b2 : Nat) (ps : List BC) (v : BC) (k : Nat) (hk : k ≤ ps.length) (hn : ps.length ≤ 1000) : ACalls Try.prog 100 [.own 7 b 0 ps.length, .int .i64 (k : Int), .own 7 b2 0 1] [(b, .arr 32 7 ((tellX ps).map oX)), (b2, .arr 32 7 ([v].map rowC))] (fun r st => r = .own 7 b 0 (ps.length + 1) ∧ st = [(b, .arr 32 7 ((insB ps k v).map rowC)), (b2, .arr 32 7 ([v].map rowC))]) := by
  by_cases hc : k < ps.length
  all_goals refine a_enter Try.func100 rfl rfl (fun w0 M0 => ?_)
  · skip
    refine a_seq ?_
    refine a_region ?_
    refine aops_cons rfl (w_pure rfl (p_assign rfl) ?_)
    refine aops_nil ?_
    refine a_seq ?_
    refine a_region ?_
    refine aops_cons rfl (w_pure rfl (p_move rfl) ?_)
    refine aops_cons rfl (w_pure rfl (p_move rfl) ?_)
    refine aops_cons rfl (w_pure rfl (p_slice_own_lo k ps.length es_44 rfl (lo_some rfl rfl) rfl (by omega) (Nat.le_refl _)) ?_)
    refine aops_nil ?_
    refine a_seq ?_
    refine a_region ?_
    refine aops_cons rfl (w_pure rfl (p_move rfl) ?_)
    refine aops_cons rfl (w_pure rfl (p_len sl_44 rfl rfl) ?_)
    refine aops_cons rfl (w_pure rfl (p_assign rfl) ?_)
    refine aops_nil ?_
    refine a_seq ?_
    refine a_seq ?_
    refine a_region ?_
    refine aops_cons rfl (w_pure rfl (p_move rfl) ?_)
    refine aops_cons rfl (w_pure rfl (p_eql rfl rfl) ?_)
    refine aops_nil ?_
    first | refine a_cond_d rfl (fun h1 => ?_) (fun h2 => ?_) | refine a_cond_n rfl (fun h1 => ?_) (fun h2 => ?_) | refine a_cond_nb rfl (fun h1 => ?_) (fun h2 => ?_) | refine a_cond rfl (fun h1 => ?_) (fun h2 => ?_)
    · (try simp only [Bool.not_eq_true', Bool.not_eq_false', Bool.not_eq_true, Bool.not_eq_false, decide_eq_true_eq, decide_eq_false_iff_not, List.length_map, List.length_range] at h1)
      refine a_seq ?_
      exfalso; omega
    · (try simp only [Bool.not_eq_true', Bool.not_eq_false', Bool.not_eq_true, Bool.not_eq_false, decide_eq_true_eq, decide_eq_false_iff_not, List.length_map, List.length_range] at h2)
      refine a_skip ?_
      refine a_seq ?_
      refine a_region ?_
      refine aops_cons rfl (w_pure rfl (p_move rfl) ?_)
      refine aops_cons rfl (w_pure rfl (p_len sl_44 rfl rfl) ?_)
      refine aops_cons rfl (w_pure rfl (p_assign rfl) ?_)
      refine aops_nil ?_
      refine a_seq ?_
      refine a_seq ?_
      refine a_region ?_
      refine aops_cons rfl (w_pure rfl (p_move rfl) ?_)
      refine aops_cons rfl (w_pure rfl (p_move rfl) ?_)
      refine aops_cons rfl (w_pure rfl (p_eql rfl rfl) ?_)
      refine aops_nil ?_
      first | refine a_cond_d rfl (fun h3 => ?_) (fun h4 => ?_) | refine a_cond_n rfl (fun h3 => ?_) (fun h4 => ?_) | refine a_cond_nb rfl (fun h3 => ?_) (fun h4 => ?_) | refine a_cond rfl (fun h3 => ?_) (fun h4 => ?_)
      · (try simp only [Bool.not_eq_true', Bool.not_eq_false', Bool.not_eq_true, Bool.not_eq_false, decide_eq_true_eq, decide_eq_false_iff_not, List.length_map, List.length_range] at h3)
        refine a_seq ?_
        exfalso; omega
      · (try simp only [Bool.not_eq_true', Bool.not_eq_false', Bool.not_eq_true, Bool.not_eq_false, decide_eq_true_eq, decide_eq_false_iff_not, List.length_map, List.length_range] at h4)
        refine a_skip ?_
        refine a_seq ?_
        refine a_seq ?_
        refine a_region ?_
        refine aops_cons rfl (w_pure rfl (p_move rfl) ?_)
        refine aops_cons rfl (w_pure rfl (p_move rfl) ?_)
        refine aops_cons rfl (w_pure rfl (p_add' rfl rfl ⟨by omega, by omega⟩) ?_)
        refine aops_cons rfl (w_pure rfl (p_move rfl) ?_)
        refine aops_cons rfl (w_cap rfl sl_44 rfl (by repeat (first | exact List.Mem.head _ | apply List.Mem.tail)) fun cp hcp hcm => ?_)
        rw [List.length_map, tellX_len] at hcp
        refine aops_cons rfl (w_pure rfl (p_gtr rfl rfl) ?_)
        refine aops_nil ?_
        first | refine a_cond_d rfl (fun h5 => ?_) (fun h6 => ?_) | refine a_cond_n rfl (fun h5 => ?_) (fun h6 => ?_) | refine a_cond_nb rfl (fun h5 => ?_) (fun h6 => ?_) | refine a_cond rfl (fun h5 => ?_) (fun h6 => ?_)
        · (try simp only [Bool.not_eq_true', Bool.not_eq_false', Bool.not_eq_true, Bool.not_eq_false, decide_eq_true_eq, decide_eq_false_iff_not, List.length_map, List.length_range] at h5)
          refine a_seq ?_
          exfalso; omega
        · (try simp only [Bool.not_eq_true', Bool.not_eq_false', Bool.not_eq_true, Bool.not_eq_false, decide_eq_true_eq, decide_eq_false_iff_not, List.length_map, List.length_range] at h6)
          refine a_skip ?_
          refine a_seq ?_
          refine a_region ?_
          refine aops_cons rfl (w_pure rfl (p_move rfl) ?_)
          refine aops_cons rfl (w_pure rfl (p_move rfl) ?_)
          refine aops_cons rfl (w_pure rfl (p_move rfl) ?_)
          refine aops_cons rfl (w_pure rfl (p_add' rfl rfl ⟨by omega, by omega⟩) ?_)
          refine aops_cons rfl (w_pure rfl (p_slice_own_st 0 (ps.length + 1) es_44 rfl rfl (hi_some rfl (by simp)) (by omega) (by repeat (first | exact List.Mem.head _ | apply List.Mem.tail)) (by simp [tellX_len])) ?_)
          refine aops_cons rfl (w_pure rfl (p_assign rfl) ?_)
          refine aops_nil ?_
          refine a_seq ?_
          refine a_seq ?_
          refine a_region ?_
          refine aops_cons rfl (w_pure rfl (p_move rfl) ?_)
          refine aops_cons rfl (w_pure rfl (p_move rfl) ?_)
          refine aops_cons rfl (w_pure rfl (p_move rfl) ?_)
          refine aops_cons rfl (w_pure rfl (p_move rfl) ?_)
          refine aops_cons rfl (w_pure rfl (p_add' rfl rfl ⟨by omega, by omega⟩) ?_)
          refine aops_cons rfl (w_pure rfl (p_slice_own_st (k + 1) (ps.length + 1) es_44 rfl (lo_some rfl (by omega)) (show (ps.length + 1) = (ps.length + 1) - 0 from rfl) (by omega) (by repeat (first | exact List.Mem.head _ | apply List.Mem.tail)) (by simp [tellX_len]; (try omega))) ?_)
          refine aops_cons rfl (w_overlaps ov_113 rfl el_44 rfl rfl rfl (by repeat (first | exact Pick.here _ _ _ | apply Pick.next)) (by repeat (first | exact List.Mem.head _ | apply List.Mem.tail)) (by simp [tellX_len]) ?_)
          refine aops_cons rfl (w_pure rfl (p_not rfl) ?_)
          refine aops_nil ?_
          refine a_cond_t rfl ?_
          refine a_seq ?_
          refine a_draw [b] (by kernel_rfl) ?_
          show ADraw _ _ _ _ _ _ 9 _ _ _ _
          refine d_take 0 rfl (by kernel_rfl) (by kernel_rfl) (by kernel_rfl) rfl (p_move rfl) ?_
          refine d_take 1 rfl (by kernel_rfl) (by kernel_rfl) (by kernel_rfl) rfl (p_move rfl) ?_
          refine d_take 2 rfl (by kernel_rfl) (by kernel_rfl) (by kernel_rfl) rfl (p_move rfl) ?_
          refine d_take 3 rfl (by kernel_rfl) (by kernel_rfl) (by kernel_rfl) rfl (p_add' rfl rfl ⟨by omega, by omega⟩) ?_
          refine d_take 4 rfl (by kernel_rfl) (by kernel_rfl) (by kernel_rfl) rfl (p_slice_own_st (k + 1) (ps.length + 1) es_44 rfl (lo_some rfl (by omega)) (show (ps.length + 1) = (ps.length + 1) - 0 from rfl) (by omega) (by repeat (first | exact List.Mem.head _ | apply List.Mem.tail)) (by simp [tellX_len]; (try omega))) ?_
          refine d_take 5 rfl (by kernel_rfl) (by kernel_rfl) (by kernel_rfl) rfl (p_move rfl) ?_
          refine d_take 6 rfl (by kernel_rfl) (by kernel_rfl) (by kernel_rfl) rfl (p_move rfl) ?_
          refine d_take 7 rfl (by kernel_rfl) (by kernel_rfl) (by kernel_rfl) rfl (p_slice_own_st k (ps.length + 1) es_44 rfl (lo_some rfl rfl) (show (ps.length + 1) = (ps.length + 1) - 0 from rfl) (by omega) (by repeat (first | exact List.Mem.head _ | apply List.Mem.tail)) (by simp [tellX_len]; (try omega))) ?_
          refine draw_all [8] (by kernel_rfl) (by simp) ?_
          refine all_cons rfl rfl ?_ ?_
          · skip
            refine w_copy oX ((ps.drop k).map some) (ps.length - k) (by omega) rfl el_44 rfl rfl (by repeat (first | exact Pick.here _ _ _ | apply Pick.next)) (rows_tail (by repeat (first | exact List.Mem.head _ | apply List.Mem.tail)) hk) (by rw [List.length_map, List.length_drop]) (by rw [tellX_len]; omega) oX_some oX_flat (by first | (refine .inl ?_; simp; done) | (refine .inr ?_; simp [keys]; done)) ?_
            refine draw_done (by kernel_rfl) ?_
            refine a_seq ?_
            refine a_region ?_
            refine aops_cons rfl (w_pure rfl (p_move rfl) ?_)
            refine aops_cons rfl (w_pure rfl (p_move rfl) ?_)
            refine aops_cons rfl (w_pure rfl (p_slice_own_st k (ps.length + 1) es_44 rfl (lo_some rfl rfl) (show (ps.length + 1) = (ps.length + 1) - 0 from rfl) (by omega) (by repeat (first | exact List.Mem.head _ | apply List.Mem.tail)) (by simp [tellX_len]; omega)) ?_)
            refine aops_cons rfl (w_pure rfl (p_move rfl) ?_)
            refine aops_cons rfl (w_copy oX [some v] 1 (by omega) rfl el_44 rfl rfl (by repeat (first | exact Pick.here _ _ _ | apply Pick.next)) (Rows.own (rows := [v].map rowC) (by repeat (first | exact List.Mem.head _ | apply List.Mem.tail)) rfl) rfl (by simp [tellX_len]; omega) (by intro x hx; rw [List.mem_singleton] at hx; subst hx; rfl) (by intro x hx; rw [List.mem_singleton] at hx; subst hx; rfl) trivial ?_)
            refine aops_nil ?_
            refine a_seq ?_
            refine a_region ?_
            refine aops_cons rfl (w_pure rfl (p_move rfl) ?_)
            refine aops_cons rfl (w_pure rfl (p_assign rfl) ?_)
            refine aops_nil ?_
            refine a_ret ?_
            refine ret_ok (hands1 rfl (.tmp rfl)) (st' := [(b, _), (b2, _)]) (.cons (by repeat (first | exact Pick.here _ _ _ | apply Pick.next)) (.cons (by repeat (first | exact Pick.here _ _ _ | apply Pick.next)) (.nil _))) ?_
            first | exact ⟨rfl, congrArg (fun l => [(b, Entry.arr 32 7 l), (b2, _)]) (ins_mid hc)⟩ | exact ⟨rfl, congrArg (fun l => [(b, Entry.arr 32 7 l), (b2, _)]) ins_end⟩
          exact all_nil
  · skip
    refine a_seq ?_
    refine a_region ?_
    refine aops_cons rfl (w_pure rfl (p_assign rfl) ?_)
    refine aops_nil ?_
    refine a_seq ?_
    refine a_region ?_
    refine aops_cons rfl (w_pure rfl (p_move rfl) ?_)
    refine aops_cons rfl (w_pure rfl (p_move rfl) ?_)
    refine aops_cons rfl (w_pure rfl (p_slice_own_nil k es_44 rfl (lo_some rfl rfl) (show k = ps.length by omega) (by omega)) ?_)
    refine aops_nil ?_
    refine a_seq ?_
    refine a_region ?_
    refine aops_cons rfl (w_pure rfl (p_move rfl) ?_)
    refine aops_cons rfl (w_pure rfl (p_len sl_44 rfl rfl) ?_)
    refine aops_cons rfl (w_pure rfl (p_assign rfl) ?_)
    refine aops_nil ?_
    refine a_seq ?_
    refine a_seq ?_
    refine a_region ?_
    refine aops_cons rfl (w_pure rfl (p_move rfl) ?_)
    refine aops_cons rfl (w_pure rfl (p_eql rfl rfl) ?_)
    refine aops_nil ?_
    first | refine a_cond_d rfl (fun h1 => ?_) (fun h2 => ?_) | refine a_cond_n rfl (fun h1 => ?_) (fun h2 => ?_) | refine a_cond_nb rfl (fun h1 => ?_) (fun h2 => ?_) | refine a_cond rfl (fun h1 => ?_) (fun h2 => ?_)
    · (try simp only [Bool.not_eq_true', Bool.not_eq_false', Bool.not_eq_true, Bool.not_eq_false, decide_eq_true_eq, decide_eq_false_iff_not, List.length_map, List.length_range] at h1)
      refine a_seq ?_
      exfalso; omega
    · (try simp only [Bool.not_eq_true', Bool.not_eq_false', Bool.not_eq_true, Bool.not_eq_false, decide_eq_true_eq, decide_eq_false_iff_not, List.length_map, List.length_range] at h2)
      refine a_skip ?_
      refine a_seq ?_
      refine a_region ?_
      refine aops_cons rfl (w_pure rfl (p_move rfl) ?_)
      refine aops_cons rfl (w_pure rfl (p_len sl_44 rfl rfl) ?_)
      refine aops_cons rfl (w_pure rfl (p_assign rfl) ?_)
      refine aops_nil ?_
      refine a_seq ?_
      refine a_seq ?_
      refine a_region ?_
      refine aops_cons rfl (w_pure rfl (p_move rfl) ?_)
      refine aops_cons rfl (w_pure rfl (p_move rfl) ?_)
      refine aops_cons rfl (w_pure rfl (p_eql rfl rfl) ?_)
      refine aops_nil ?_
      first | refine a_cond_d rfl (fun h3 => ?_) (fun h4 => ?_) | refine a_cond_n rfl (fun h3 => ?_) (fun h4 => ?_) | refine a_cond_nb rfl (fun h3 => ?_) (fun h4 => ?_) | refine a_cond rfl (fun h3 => ?_) (fun h4 => ?_)
      · (try simp only [Bool.not_eq_true', Bool.not_eq_false', Bool.not_eq_true, Bool.not_eq_false, decide_eq_true_eq, decide_eq_false_iff_not, List.length_map, List.length_range] at h3)
        refine a_seq ?_
        refine a_region ?_
        refine aops_cons rfl (w_pure rfl (p_move rfl) ?_)
        refine aops_cons rfl (w_pure rfl (p_move rfl) ?_)
        refine aops_cons rfl (w_append_inY oX (xs := tellX ps) [some v] rfl el_44 rfl rfl (by repeat (first | exact Pick.here _ _ _ | apply Pick.next)) (Rows.own (rows := [v].map rowC) (by repeat (first | exact List.Mem.head _ | apply List.Mem.tail)) rfl) (by simp [tellX_len]) (by intro x hx; rw [List.mem_singleton] at hx; subst hx; rfl) (by intro x hx; rw [List.mem_singleton] at hx; subst hx; rfl) trivial ?_)
        rw [show k = ps.length by omega]
        refine aops_cons rfl (w_pure rfl (p_assign rfl) ?_)
        refine aops_nil ?_
        refine a_ret ?_
        refine ret_ok (hands1 rfl (.tmp rfl)) (st' := [(b, _), (b2, _)]) (.cons (by repeat (first | exact Pick.here _ _ _ | apply Pick.next)) (.cons (by repeat (first | exact Pick.here _ _ _ | apply Pick.next)) (.nil _))) ?_
        first | exact ⟨rfl, congrArg (fun l => [(b, Entry.arr 32 7 l), (b2, _)]) (ins_mid hc)⟩ | exact ⟨rfl, congrArg (fun l => [(b, Entry.arr 32 7 l), (b2, _)]) ins_end⟩
      · (try simp only [Bool.not_eq_true', Bool.not_eq_false', Bool.not_eq_true, Bool.not_eq_false, decide_eq_true_eq, decide_eq_false_iff_not, List.length_map, List.length_range] at h4)
        refine a_skip ?_
        refine a_seq ?_
        refine a_seq ?_
        exfalso; omega

theorem cy_impl_SwitchTo (xs : List Context) (hn : SmallL xs) (now : Context) (hw : SmallC now) (g : Int) (hA : GoodSwitch xs now g) : ACalls Try.prog 52 [.sl (xs.map eContext), .agg (eContext now), .int .i64 g] [] (fun r st => ∃ (b1 : Nat) (ps1 : List BC) (b2 : Nat), r = .tup [.own 7 b1 0 ps1.length, .agg [.int .i64 (xs.getD (findC xs g).toNat zContext).id, .own 1 b2 0 (xs.getD (findC xs g).toNat zContext).regs.words.length, .int .i64 (xs.getD (findC xs g).toNat zContext).regs.pc, .bool (xs.getD (findC xs g).toNat zContext).regs.f, .bool (xs.getD (findC xs g).toNat zContext).regs.g, .int .i64 (xs.getD (findC xs g).toNat zContext).wait, .int .i64 (xs.getD (findC xs g).toNat zContext).pend], .bool true] ∧ ps1.map (·.2) = (switchL xs now (findC xs g).toNat) ∧ st = (b1, .arr 32 7 (ps1.map rowC)) :: (b2, .arr 3 1 ((xs.getD (findC xs g).toNat zContext).regs.words.map eInt)) :: fam (famC 3) ps1) := by
  have hn1 := hn.1
  have hfl := findC_lt xs g
  obtain ⟨g1, g2, g3, g4⟩ := id hA
  have hx6 := g1.2
  refine a_enter Try.func52 rfl rfl (fun w0 M0 => ?_)
  refine a_seq ?_
  refine a_region ?_
  refine aops_cons rfl (w_box_v rfl rfl rfl ?_)
  refine aops_cons rfl (w_pure rfl (p_assign rfl) ?_)
  refine aops_cons rfl (w_alloc rfl z_32 fun b1 => ?_)
  refine aops_cons rfl (w_pure rfl (p_assign rfl) ?_)
  refine aops_nil ?_
  refine a_seq ?_
  refine a_region ?_
  refine aops_cons rfl (w_pure rfl (p_move rfl) ?_)
  refine aops_cons rfl (w_pure rfl (p_move rfl) ?_)
  refine aops_cons rfl (w_callR rfl rfl rfl cl_76 (c_impl_contextIndex _ (by assumption) _) ?_)
  refine aops_cons rfl (w_pure rfl (p_assign rfl) ?_)
  refine aops_nil ?_
  refine a_seq ?_
  refine a_seq ?_
  refine a_region ?_
  refine aops_cons rfl (w_pure rfl (p_move rfl) ?_)
  refine aops_cons rfl (w_callR rfl rfl rfl cl_50 (c_impl_AreContexts _ ‹_›) ?_)
  refine aops_cons rfl (w_pure rfl (p_not rfl) ?_)
  refine aops_cons rfl (w_pure rfl (p_move rfl) ?_)
  first | refine aops_split_d 18 rfl (fun h1 => ?_) (fun h2 => ?_) | refine aops_split 18 rfl (fun h1 => ?_) (fun h2 => ?_)
  · (try simp only [Bool.not_eq_true', Bool.not_eq_false', Bool.not_eq_true, Bool.not_eq_false, decide_eq_true_eq, decide_eq_false_iff_not, List.length_map, List.length_range] at h1)
    refine g_pass' rfl rfl rfl rfl rfl ?_
    refine g_pass' rfl rfl rfl rfl rfl ?_
    refine g_pass' rfl rfl rfl rfl rfl ?_
    refine aops_cons rfl (w_pure rfl (p_pick_t rfl rfl) ?_)
    refine aops_cons rfl (w_pure rfl (p_move rfl) ?_)
    refine g_pass' rfl rfl rfl rfl rfl ?_
    refine g_pass' rfl rfl rfl rfl rfl ?_
    refine g_pass' rfl rfl rfl rfl rfl ?_
    refine g_pass' rfl rfl rfl rfl rfl ?_
    refine g_pass' rfl rfl rfl rfl rfl ?_
    refine aops_cons rfl (w_pure rfl (p_pick_t rfl rfl) ?_)
    refine aops_cons rfl (w_pure rfl (p_move rfl) ?_)
    refine g_pass' rfl rfl rfl rfl rfl ?_
    refine g_pass' rfl rfl rfl rfl rfl ?_
    refine aops_cons rfl (w_pure rfl (p_pick_t rfl rfl) ?_)
    refine aops_nil ?_
    refine a_cond_t rfl ?_
    refine a_seq ?_
    (exfalso; first | contradiction | omega | exact absurd g1 (by assumption) | exact absurd g2 (by assumption))
  · (try simp only [Bool.not_eq_true', Bool.not_eq_false', Bool.not_eq_true, Bool.not_eq_false, decide_eq_true_eq, decide_eq_false_iff_not, List.length_map, List.length_range] at h2)
    refine aops_guard_t rfl rfl rfl (w_pure rfl (p_load_v_all ag_32 rfl (by rfl) noX) ?_)
    refine aops_guard_t rfl rfl rfl (w_callR rfl rfl rfl cl_42 (c_impl_IsContext _ (by first | assumption | exact hn.2 _ (by omega))) ?_)
    refine aops_guard_t rfl rfl rfl (w_pure rfl (p_not rfl) ?_)
    refine aops_cons rfl (w_pure rfl (p_pick_f rfl rfl) ?_)
    refine aops_cons rfl (w_pure rfl (p_move rfl) ?_)
    first | refine aops_split_d 23 rfl (fun h3 => ?_) (fun h4 => ?_) | refine aops_split 23 rfl (fun h3 => ?_) (fun h4 => ?_)
    · (try simp only [Bool.not_eq_true', Bool.not_eq_false', Bool.not_eq_true, Bool.not_eq_false, decide_eq_true_eq, decide_eq_false_iff_not, List.length_map, List.length_range] at h3)
      refine g_pass' rfl rfl rfl rfl rfl ?_
      refine g_pass' rfl rfl rfl rfl rfl ?_
      refine g_pass' rfl rfl rfl rfl rfl ?_
      refine g_pass' rfl rfl rfl rfl rfl ?_
      refine g_pass' rfl rfl rfl rfl rfl ?_
      refine aops_cons rfl (w_pure rfl (p_pick_t rfl rfl) ?_)
      refine aops_cons rfl (w_pure rfl (p_move rfl) ?_)
      refine g_pass' rfl rfl rfl rfl rfl ?_
      refine g_pass' rfl rfl rfl rfl rfl ?_
      refine aops_cons rfl (w_pure rfl (p_pick_t rfl rfl) ?_)
      refine aops_nil ?_
      refine a_cond_t rfl ?_
      refine a_seq ?_
      (exfalso; first | contradiction | omega | exact absurd g1 (by assumption) | exact absurd g2 (by assumption))
    · (try simp only [Bool.not_eq_true', Bool.not_eq_false', Bool.not_eq_true, Bool.not_eq_false, decide_eq_true_eq, decide_eq_false_iff_not, List.length_map, List.length_range] at h4)
      refine aops_guard_t rfl rfl rfl (w_pure rfl (p_move rfl) ?_)
      refine aops_guard_t rfl rfl rfl (w_pure rfl (p_field_v fo_32_0 rfl) ?_)
      refine aops_guard_t rfl rfl rfl (w_pure rfl (p_load_v ag_3 rfl (by rfl) noX) ?_)
      refine aops_guard_t rfl rfl rfl (w_callR rfl rfl rfl cl_76 (c_impl_contextIndex _ (by assumption) _) ?_)
      refine aops_guard_t rfl rfl rfl (w_pure rfl (p_geq rfl rfl) ?_)
      refine aops_cons rfl (w_pure rfl (p_pick_f rfl rfl) ?_)
      refine aops_cons rfl (w_pure rfl (p_move rfl) ?_)
      first | refine aops_split_d 30 rfl (fun h5 => ?_) (fun h6 => ?_) | refine aops_split 30 rfl (fun h5 => ?_) (fun h6 => ?_)
      · (try simp only [Bool.not_eq_true', Bool.not_eq_false', Bool.not_eq_true, Bool.not_eq_false, decide_eq_true_eq, decide_eq_false_iff_not, List.length_map, List.length_range] at h5)
        refine g_pass' rfl rfl rfl rfl rfl ?_
        refine g_pass' rfl rfl rfl rfl rfl ?_
        refine aops_cons rfl (w_pure rfl (p_pick_t rfl rfl) ?_)
        refine aops_nil ?_
        refine a_cond_t rfl ?_
        refine a_seq ?_
        (exfalso; first | contradiction | omega | exact absurd g1 (by assumption) | exact absurd g2 (by assumption))
      · (try simp only [Bool.not_eq_true', Bool.not_eq_false', Bool.not_eq_true, Bool.not_eq_false, decide_eq_true_eq, decide_eq_false_iff_not, List.length_map, List.length_range] at h6)
        refine aops_guard_t rfl rfl rfl (w_pure rfl (p_move rfl) ?_)
        refine aops_guard_t rfl rfl rfl (w_pure rfl (p_lss rfl rfl) ?_)
        refine aops_cons rfl (w_pure rfl (p_pick_f rfl rfl) ?_)
        refine aops_nil ?_
        first | refine a_cond_d rfl (fun h7 => ?_) (fun h8 => ?_) | refine a_cond_n rfl (fun h7 => ?_) (fun h8 => ?_) | refine a_cond_nb rfl (fun h7 => ?_) (fun h8 => ?_) | refine a_cond rfl (fun h7 => ?_) (fun h8 => ?_)
        · (try simp only [Bool.not_eq_true', Bool.not_eq_false', Bool.not_eq_true, Bool.not_eq_false, decide_eq_true_eq, decide_eq_false_iff_not, List.length_map, List.length_range] at h7)
          refine a_seq ?_
          (exfalso; first | contradiction | omega | exact absurd g1 (by assumption) | exact absurd g2 (by assumption))
        · (try simp only [Bool.not_eq_true', Bool.not_eq_false', Bool.not_eq_true, Bool.not_eq_false, decide_eq_true_eq, decide_eq_false_iff_not, List.length_map, List.length_range] at h8)
          refine a_skip ?_
          refine a_seq ?_
          refine a_region ?_
          refine aops_cons rfl (w_pure rfl (p_move rfl) ?_)
          refine aops_cons rfl (w_call rfl rfl rfl cl_77 (co_impl_newContexts xs hn) ?_)
          rintro _ _ ⟨b2, ps1, rfl, hp1, rfl⟩
          have hl1 : ps1.length = xs.length := (by rw [← hp1, List.length_map])
          refine aops_cons rfl (w_pure rfl (p_move rfl) ?_)
          refine aops_cons rfl (w_pure rfl (p_move rfl) ?_)
          refine aops_cons rfl (w_pure rfl (p_add' rfl rfl ⟨by omega, by omega⟩) ?_)
          refine aops_cons rfl (w_callM0 rfl rfl rfl cl_99 (.cons (by (try simp only [fam_app, fam_one, fam_nil, List.append_assoc, List.cons_append, List.nil_append, List.append_nil, List.append_eq]); repeat (first | exact Pick.here _ _ _ | apply Pick.next | apply Pick.under)) (.nil _)) (c_slices_Delete_impl_Context_impl_Context _ ps1 (findC xs g) (by omega) (by omega) (by omega)) trivial ?_)
          rintro _ _ ⟨rfl, rfl⟩
          refine aops_cons rfl (w_pure rfl (p_assign rfl) ?_)
          refine aops_nil ?_
          refine a_seq ?_
          refine a_sto (st' := (b2, .arr 32 7 ((tellX (woB ps1 (findC xs g).toNat)).map oX)) :: (b1, _) :: fam (famC 3) ps1) (by (try dsimp only); (try simp only [fam_app, fam_one, fam_nil, List.append_assoc, List.cons_append, List.nil_append, List.append_nil, List.append_eq]); repeat (first | exact Picks.nil _ | exact Pick.here _ _ _ | exact Picks.whole _ _ | exact Picks.whole0 _ | apply Pick.next | apply Pick.under | apply Picks.cons | apply Picks.both | apply Picks.skip1 | apply Picks.skipA)) ?_
          refine a_sto (st' := (b2, .arr 32 7 ((tellX (woB ps1 (findC xs g).toNat)).map oX)) :: (b1, _) :: fam (famC 3) (woB ps1 (findC xs g).toNat)) (.cons (.here _ _ _) (.cons (.here _ _ _) (picks_wo (famC 3) zBC (by omega)))) ?_
          obtain ⟨ws, hws⟩ : ∃ ws, ws = woB ps1 (findC xs g).toNat := ⟨_, rfl⟩
          have hwm : ws.map (·.2) = woB xs (findC xs g).toNat := (by rw [hws, woB_map, hp1])
          have hwl : ws.length + 1 = xs.length := (by have := woB_len (xs := ps1) (m := (findC xs g).toNat) (by omega); rw [hws]; omega)
          rw [← hws]
          clear hws
          refine a_region ?_
          refine aops_cons rfl (w_pure rfl (p_assign rfl) ?_)
          refine aops_nil ?_
          refine a_seq ?_
          refine a_block ?_
          refine a_loop (ι := Nat) (fun j => j ≤ ws.length ∧ ∀ q, q < j → (ws.getD q zBC).2.id < now.id) (fun j => [(11, .int .i64 (j : Int))]) (fun j => []) (fun j => ws.length - j) 0 ⟨Nat.zero_le _, below_zero⟩ (by repeat (first | exact Knows.nil | refine Knows.cons (by rfl) ?_)) (by (try dsimp only); (try simp only [fam_app, fam_one, fam_nil, List.append_assoc, List.cons_append, List.nil_append, List.append_nil, List.append_eq]); repeat (first | exact Picks.nil _ | exact Pick.here _ _ _ | exact Picks.whole _ _ | exact Picks.whole0 _ | apply Pick.next | apply Pick.under | apply Picks.cons | apply Picks.both | apply Picks.skip1 | apply Picks.skipA)) ?_
          rintro j ⟨hj, hJ⟩
          replace hj : j ≤ ws.length := hj
          refine a_seq ?_
          refine a_seq ?_
          refine a_draw [] (by kernel_rfl) ?_
          show ADraw _ _ _ _ _ _ 14 _ _ _ _
          refine d_take 0 rfl (by kernel_rfl) (by kernel_rfl) (by kernel_rfl) rfl (p_move rfl) ?_
          refine d_take 1 rfl (by kernel_rfl) (by kernel_rfl) (by kernel_rfl) rfl (p_move rfl) ?_
          refine d_take 2 rfl (by kernel_rfl) (by kernel_rfl) (by kernel_rfl) rfl (p_len sl_44 rfl rfl) ?_
          refine d_take 3 rfl (by kernel_rfl) (by kernel_rfl) (by kernel_rfl) rfl (p_lss rfl rfl) ?_
          refine d_take 4 rfl (by kernel_rfl) (by kernel_rfl) (by kernel_rfl) rfl (p_move rfl) ?_
          first | refine d_split_d 45 rfl (fun h9 => ?_) (fun h10 => ?_) | refine draw_split 45 rfl (fun h9 => ?_) (fun h10 => ?_)
          · (try simp only [Bool.not_eq_true', Bool.not_eq_false', Bool.not_eq_true, Bool.not_eq_false, decide_eq_true_eq, decide_eq_false_iff_not, List.length_map, List.length_range] at h9)
            refine d_take_t 5 rfl (by kernel_rfl) (by kernel_rfl) (by kernel_rfl) rfl rfl rfl (p_move rfl) ?_
            refine d_take_t 6 rfl (by kernel_rfl) (by kernel_rfl) (by kernel_rfl) rfl rfl rfl (p_move rfl) ?_
            refine d_take_t 7 rfl (by kernel_rfl) (by kernel_rfl) (by kernel_rfl) rfl rfl rfl (p_index_own0 j rfl rfl rfl (by omega) es_44) ?_
            refine d_take_t 8 rfl (by kernel_rfl) (by kernel_rfl) (by kernel_rfl) rfl rfl rfl (p_field_e fo_32_0 rfl) ?_
            refine d_load_t 9 rfl (by kernel_rfl) (by kernel_rfl) (by kernel_rfl) rfl rfl rfl (p_load_e ag_3 rfl (by (try simp only [fam_app, fam_one, fam_nil, List.append_assoc, List.cons_append, List.nil_append, List.append_nil, List.append_eq]); repeat (first | exact Pick.here _ _ _ | apply Pick.next | apply Pick.under)) (rowX (by omega)) (by rfl) noX) ?_
            refine d_take_t 10 rfl (by kernel_rfl) (by kernel_rfl) (by kernel_rfl) rfl rfl rfl (p_field_v fo_32_0 rfl) ?_
            refine d_load_t 11 rfl (by kernel_rfl) (by kernel_rfl) (by kernel_rfl) rfl rfl rfl (p_load_v ag_3 rfl (by rfl) noX) ?_
            refine d_take_t 12 rfl (by kernel_rfl) (by kernel_rfl) (by kernel_rfl) rfl rfl rfl (p_lss rfl rfl) ?_
            refine d_take 13 rfl (by kernel_rfl) (by kernel_rfl) (by kernel_rfl) rfl (p_pick_t rfl rfl) ?_
            refine draw_done (by kernel_rfl) ?_
            first | refine a_cond_d rfl (fun h11 => ?_) (fun h12 => ?_) | refine a_cond_n rfl (fun h11 => ?_) (fun h12 => ?_) | refine a_cond_nb rfl (fun h11 => ?_) (fun h12 => ?_) | refine a_cond rfl (fun h11 => ?_) (fun h12 => ?_)
            · (try simp only [Bool.not_eq_true', Bool.not_eq_false', Bool.not_eq_true, Bool.not_eq_false, decide_eq_true_eq, decide_eq_false_iff_not, List.length_map, List.length_range] at h11)
              refine a_skip ?_
              refine a_block ?_
              refine a_region ?_
              refine aops_cons rfl (w_pure rfl (p_move rfl) ?_)
              refine aops_cons rfl (w_pure rfl (p_add' rfl rfl ⟨by omega, by omega⟩) ?_)
              refine aops_cons rfl (w_pure rfl (p_assign rfl) ?_)
              refine aops_nil ?_
              refine ⟨(j + 1), _, ?_, ?_, (by repeat (first | exact Knows.nil | refine Knows.cons (by rfl) ?_)), (by repeat (first | exact Back.refl _ _ | refine Back.cons (by rfl) ?_)), (by (try dsimp only); (try simp only [fam_app, fam_one, fam_nil, List.append_assoc, List.cons_append, List.nil_append, List.append_nil, List.append_eq]); repeat (first | exact Picks.nil _ | exact Pick.here _ _ _ | exact Picks.whole _ _ | exact Picks.whole0 _ | apply Pick.next | apply Pick.under | apply Picks.cons | apply Picks.both | apply Picks.skip1 | apply Picks.skipA))⟩
              · exact ⟨by omega, below_succ hJ (by assumption)⟩
              · (try dsimp only); omega
            · (try simp only [Bool.not_eq_true', Bool.not_eq_false', Bool.not_eq_true, Bool.not_eq_false, decide_eq_true_eq, decide_eq_false_iff_not, List.length_map, List.length_range] at h12)
              refine a_exit ?_
              refine a_seq ?_
              refine a_draw [b2, b1] (by kernel_rfl) ?_
              show ADraw _ _ _ _ _ _ 14 _ _ _ _
              refine d_take 0 rfl (by kernel_rfl) (by kernel_rfl) (by kernel_rfl) rfl (p_move rfl) ?_
              refine d_take 1 rfl (by kernel_rfl) (by kernel_rfl) (by kernel_rfl) rfl (p_move rfl) ?_
              refine d_load 2 rfl (by kernel_rfl) (by kernel_rfl) (by kernel_rfl) rfl (p_load_v_all ag_32 rfl (by rfl) (by simp [keys])) ?_
              refine d_take 6 rfl (by kernel_rfl) (by kernel_rfl) (by kernel_rfl) rfl (p_move rfl) ?_
              refine d_take 7 rfl (by kernel_rfl) (by kernel_rfl) (by kernel_rfl) rfl (p_move rfl) ?_
              refine d_take 8 rfl (by kernel_rfl) (by kernel_rfl) (by kernel_rfl) rfl (p_index_sl (findC xs g).toNat rfl rfl (by omega) (rowD eContext xs zContext (by omega)) es_44) ?_
              refine d_load 9 rfl (by kernel_rfl) (by kernel_rfl) (by kernel_rfl) rfl (p_load_v_all ag_32 rfl (by rfl) (by simp [keys])) ?_
              refine draw_all [3] (by kernel_rfl) (by simp) ?_
              refine all_cons rfl rfl ?_ ?_
              · skip
                refine w_call rfl rfl rfl cl_101 (co_impl_newContext now hw) ?_
                rintro _ _ ⟨b3, rfl, rfl⟩
                refine draw_all [4] (by kernel_rfl) (by simp) ?_
                refine all_cons rfl rfl ?_ ?_
                · skip
                  refine w_litM rowC [(_, now)] rfl el_44 rfl rfl rfl rfl rfl fun b4 => ?_
                  refine draw_all [5] (by kernel_rfl) (by simp) ?_
                  refine all_cons rfl rfl ?_ ?_
                  · skip
                    refine w_callM0x rfl rfl rfl cl_100 (.cons (by (try simp only [fam_app, fam_one, fam_nil, List.append_assoc, List.cons_append, List.nil_append, List.append_nil, List.append_eq]); repeat (first | exact Pick.here _ _ _ | apply Pick.next | apply Pick.under)) (.cons (by (try simp only [fam_app, fam_one, fam_nil, List.append_assoc, List.cons_append, List.nil_append, List.append_nil, List.append_eq]); repeat (first | exact Pick.here _ _ _ | apply Pick.next | apply Pick.under)) (.nil _))) (c_slices_Insert_impl_Context_impl_Context _ _ ws (_, now) j hj (by omega)) (by intro y hy; simp only [keys, List.nil_append, List.map_cons, List.mem_cons] at hy ⊢; rcases hy with rfl | rfl | hy <;> first | (simp; done) | exact .inl (.inr (.inr hy)) | exact .inl (.inr (.inr (.inr hy))) | exact .inl (.inr hy)) ?_
                    rintro _ _ ⟨rfl, rfl⟩
                    refine draw_all [10] (by kernel_rfl) (by simp) ?_
                    refine all_cons rfl rfl ?_ ?_
                    · skip
                      refine w_call rfl rfl rfl cl_101 (co_impl_newContext (xs.getD (findC xs g).toNat zContext) (hn.2 _ (by omega))) ?_
                      rintro _ _ ⟨b5, rfl, rfl⟩
                      refine d_take 11 rfl (by kernel_rfl) (by kernel_rfl) (by kernel_rfl) rfl (p_assign rfl) ?_
                      refine draw_all [12] (by kernel_rfl) (by simp) ?_
                      refine all_cons rfl rfl ?_ ?_
                      · skip
                        refine w_store (cells' := [_, _, _, _, _, _, _]) rfl rfl rfl (by (try simp only [fam_app, fam_one, fam_nil, List.append_assoc, List.cons_append, List.nil_append, List.append_nil, List.append_eq]); repeat (first | exact Pick.here _ _ _ | apply Pick.next | apply Pick.under)) cn_32 (by rfl) (by rfl) (by rfl) (by first | (refine .inl ?_; simp; done) | (refine .inr ?_; simp [keys]; done)) ?_
                        refine d_take 13 rfl (by kernel_rfl) (by kernel_rfl) (by kernel_rfl) rfl (p_assign rfl) ?_
                        refine draw_done (by kernel_rfl) ?_
                        refine a_sto (st' := (b1, _) :: (b2, _) :: (b5, _) :: (b3, .arr 3 1 (now.regs.words.map eInt)) :: fam (famC 3) ws) (by (try dsimp only); (try simp only [fam_app, fam_one, fam_nil, List.append_assoc, List.cons_append, List.nil_append, List.append_nil, List.append_eq]); repeat (first | exact Picks.nil _ | exact Pick.here _ _ _ | exact Picks.whole _ _ | exact Picks.whole0 _ | apply Pick.next | apply Pick.under | apply Picks.cons | apply Picks.both | apply Picks.skip1 | apply Picks.skipA)) ?_
                        refine a_perm (List.Perm.cons _ (List.Perm.cons _ (List.Perm.cons _ (fam_ins (famC 3) ws j (b3, now))))) ?_
                        refine a_ret ?_
                        refine ret_ok (hands3 rfl (.tmp rfl) (.cell ag_32 rfl (by (try simp only [fam_app, fam_one, fam_nil, List.append_assoc, List.cons_append, List.nil_append, List.append_nil, List.append_eq]); repeat (first | exact Pick.here _ _ _ | apply Pick.next | apply Pick.under)) (by rfl)) (.tmp rfl)) (st' := (_, .arr 32 7 _) :: (_, .arr 3 1 _) :: fam (famC 3) (insB ws j (_, now))) (by (try dsimp only); (try simp only [fam_app, fam_one, fam_nil, List.append_assoc, List.cons_append, List.nil_append, List.append_nil, List.append_eq]); repeat (first | exact Picks.nil _ | exact Pick.here _ _ _ | exact Picks.whole _ _ | exact Picks.whole0 _ | apply Pick.next | apply Pick.under | apply Picks.cons | apply Picks.both | apply Picks.skip1 | apply Picks.skipA)) ?_
                        exact ⟨_, insB ws j (_, now), _, by rw [insB_len hj], sw_impl hA hwm hj hJ (by intro hq; omega), rfl⟩
                      exact all_nil
                    exact all_nil
                  exact all_nil
                exact all_nil
              exact all_nil
          · (try simp only [Bool.not_eq_true', Bool.not_eq_false', Bool.not_eq_true, Bool.not_eq_false, decide_eq_true_eq, decide_eq_false_iff_not, List.length_map, List.length_range] at h10)
            refine d_pass' 5 rfl (by kernel_rfl) (by kernel_rfl) (by kernel_rfl) rfl rfl rfl ?_
            refine d_pass' 6 rfl (by kernel_rfl) (by kernel_rfl) (by kernel_rfl) rfl rfl rfl ?_
            refine d_pass' 7 rfl (by kernel_rfl) (by kernel_rfl) (by kernel_rfl) rfl rfl rfl ?_
            refine d_pass' 8 rfl (by kernel_rfl) (by kernel_rfl) (by kernel_rfl) rfl rfl rfl ?_
            refine d_pass' 9 rfl (by kernel_rfl) (by kernel_rfl) (by kernel_rfl) rfl rfl rfl ?_
            refine d_pass' 10 rfl (by kernel_rfl) (by kernel_rfl) (by kernel_rfl) rfl rfl rfl ?_
            refine d_pass' 11 rfl (by kernel_rfl) (by kernel_rfl) (by kernel_rfl) rfl rfl rfl ?_
            refine d_pass' 12 rfl (by kernel_rfl) (by kernel_rfl) (by kernel_rfl) rfl rfl rfl ?_
            refine d_take 13 rfl (by kernel_rfl) (by kernel_rfl) (by kernel_rfl) rfl (p_pick_f rfl rfl) ?_
            refine draw_done (by kernel_rfl) ?_
            refine a_cond_f rfl ?_
            refine a_exit ?_
            refine a_seq ?_
            refine a_draw [b2, b1] (by kernel_rfl) ?_
            show ADraw _ _ _ _ _ _ 14 _ _ _ _
            refine d_take 0 rfl (by kernel_rfl) (by kernel_rfl) (by kernel_rfl) rfl (p_move rfl) ?_
            refine d_take 1 rfl (by kernel_rfl) (by kernel_rfl) (by kernel_rfl) rfl (p_move rfl) ?_
            refine d_load 2 rfl (by kernel_rfl) (by kernel_rfl) (by kernel_rfl) rfl (p_load_v_all ag_32 rfl (by rfl) (by simp [keys])) ?_
            refine d_take 6 rfl (by kernel_rfl) (by kernel_rfl) (by kernel_rfl) rfl (p_move rfl) ?_
            refine d_take 7 rfl (by kernel_rfl) (by kernel_rfl) (by kernel_rfl) rfl (p_move rfl) ?_
            refine d_take 8 rfl (by kernel_rfl) (by kernel_rfl) (by kernel_rfl) rfl (p_index_sl (findC xs g).toNat rfl rfl (by omega) (rowD eContext xs zContext (by omega)) es_44) ?_
            refine d_load 9 rfl (by kernel_rfl) (by kernel_rfl) (by kernel_rfl) rfl (p_load_v_all ag_32 rfl (by rfl) (by simp [keys])) ?_
            refine draw_all [3] (by kernel_rfl) (by simp) ?_
            refine all_cons rfl rfl ?_ ?_
            · skip
              refine w_call rfl rfl rfl cl_101 (co_impl_newContext now hw) ?_
              rintro _ _ ⟨b6, rfl, rfl⟩
              refine draw_all [4] (by kernel_rfl) (by simp) ?_
              refine all_cons rfl rfl ?_ ?_
              · skip
                refine w_litM rowC [(_, now)] rfl el_44 rfl rfl rfl rfl rfl fun b7 => ?_
                refine draw_all [5] (by kernel_rfl) (by simp) ?_
                refine all_cons rfl rfl ?_ ?_
                · skip
                  refine w_callM0x rfl rfl rfl cl_100 (.cons (by (try simp only [fam_app, fam_one, fam_nil, List.append_assoc, List.cons_append, List.nil_append, List.append_nil, List.append_eq]); repeat (first | exact Pick.here _ _ _ | apply Pick.next | apply Pick.under)) (.cons (by (try simp only [fam_app, fam_one, fam_nil, List.append_assoc, List.cons_append, List.nil_append, List.append_nil, List.append_eq]); repeat (first | exact Pick.here _ _ _ | apply Pick.next | apply Pick.under)) (.nil _))) (c_slices_Insert_impl_Context_impl_Context _ _ ws (_, now) j hj (by omega)) (by intro y hy; simp only [keys, List.nil_append, List.map_cons, List.mem_cons] at hy ⊢; rcases hy with rfl | rfl | hy <;> first | (simp; done) | exact .inl (.inr (.inr hy)) | exact .inl (.inr (.inr (.inr hy))) | exact .inl (.inr hy)) ?_
                  rintro _ _ ⟨rfl, rfl⟩
                  refine draw_all [10] (by kernel_rfl) (by simp) ?_
                  refine all_cons rfl rfl ?_ ?_
                  · skip
                    refine w_call rfl rfl rfl cl_101 (co_impl_newContext (xs.getD (findC xs g).toNat zContext) (hn.2 _ (by omega))) ?_
                    rintro _ _ ⟨b8, rfl, rfl⟩
                    refine d_take 11 rfl (by kernel_rfl) (by kernel_rfl) (by kernel_rfl) rfl (p_assign rfl) ?_
                    refine draw_all [12] (by kernel_rfl) (by simp) ?_
                    refine all_cons rfl rfl ?_ ?_
                    · skip
                      refine w_store (cells' := [_, _, _, _, _, _, _]) rfl rfl rfl (by (try simp only [fam_app, fam_one, fam_nil, List.append_assoc, List.cons_append, List.nil_append, List.append_nil, List.append_eq]); repeat (first | exact Pick.here _ _ _ | apply Pick.next | apply Pick.under)) cn_32 (by rfl) (by rfl) (by rfl) (by first | (refine .inl ?_; simp; done) | (refine .inr ?_; simp [keys]; done)) ?_
                      refine d_take 13 rfl (by kernel_rfl) (by kernel_rfl) (by kernel_rfl) rfl (p_assign rfl) ?_
                      refine draw_done (by kernel_rfl) ?_
                      refine a_sto (st' := (b1, _) :: (b2, _) :: (b8, _) :: (b6, .arr 3 1 (now.regs.words.map eInt)) :: fam (famC 3) ws) (by (try dsimp only); (try simp only [fam_app, fam_one, fam_nil, List.append_assoc, List.cons_append, List.nil_append, List.append_nil, List.append_eq]); repeat (first | exact Picks.nil _ | exact Pick.here _ _ _ | exact Picks.whole _ _ | exact Picks.whole0 _ | apply Pick.next | apply Pick.under | apply Picks.cons | apply Picks.both | apply Picks.skip1 | apply Picks.skipA)) ?_
                      refine a_perm (List.Perm.cons _ (List.Perm.cons _ (List.Perm.cons _ (fam_ins (famC 3) ws j (b6, now))))) ?_
                      refine a_ret ?_
                      refine ret_ok (hands3 rfl (.tmp rfl) (.cell ag_32 rfl (by (try simp only [fam_app, fam_one, fam_nil, List.append_assoc, List.cons_append, List.nil_append, List.append_nil, List.append_eq]); repeat (first | exact Pick.here _ _ _ | apply Pick.next | apply Pick.under)) (by rfl)) (.tmp rfl)) (st' := (_, .arr 32 7 _) :: (_, .arr 3 1 _) :: fam (famC 3) (insB ws j (_, now))) (by (try dsimp only); (try simp only [fam_app, fam_one, fam_nil, List.append_assoc, List.cons_append, List.nil_append, List.append_nil, List.append_eq]); repeat (first | exact Picks.nil _ | exact Pick.here _ _ _ | exact Picks.whole _ _ | exact Picks.whole0 _ | apply Pick.next | apply Pick.under | apply Picks.cons | apply Picks.both | apply Picks.skip1 | apply Picks.skipA)) ?_
                      exact ⟨_, insB ws j (_, now), _, by rw [insB_len hj], sw_impl hA hwm hj hJ (by intro hq; omega), rfl⟩
                    exact all_nil
                  exact all_nil
                exact all_nil
              exact all_nil
            exact all_nil

theorem cf_impl_SwitchTo (xs : List Context) (hn : SmallL xs) (now : Context) (hw : SmallC now) (g : Int) (hA : GoodSwitch xs now g) : ACalls Try.prog 52 [.sl (xs.map eContext), .agg (eContext now), .int .i64 g] [] (Ret (.tup [.sl ((switchL xs now (findC xs g).toNat).map eContext), .agg (eContext (xs.getD (findC xs g).toNat zContext)), .bool true])) :=
  (cy_impl_SwitchTo xs hn now hw g hA).freeze (by rintro _ _ ⟨_, _, _, rfl, e0, rfl⟩; rw [← e0]; exact (.tup (.cons (.own2 (by (try simp only [fam_app, fam_one, fam_nil, List.append_assoc, List.cons_append, List.nil_append, List.append_nil, List.append_eq]); repeat (first | exact List.Mem.head _ | apply List.Mem.tail | apply List.mem_append_right)) (List.length_map _) (vwR_ctx (t := 3) (by intro x hx; (try simp only [fam_app, fam_one, fam_nil, List.append_assoc, List.cons_append, List.nil_append, List.append_nil, List.append_eq]); repeat (first | exact hx | exact List.mem_append_left _ hx | apply List.mem_append_right | apply List.mem_cons_of_mem)))) (.cons (.agg (.cons (.refl _) (.cons (.own (by (try simp only [fam_app, fam_one, fam_nil, List.append_assoc, List.cons_append, List.nil_append, List.append_nil, List.append_eq]); repeat (first | exact List.Mem.head _ | apply List.Mem.tail | apply List.mem_append_right)) (List.length_map _)) (.cons (.refl _) (.cons (.refl _) (.cons (.refl _) (.cons (.refl _) (.cons (.refl _) .nil)))))))) (.cons (.refl _) .nil)))))

theorem cn_impl_SwitchTo (xs : List Context) (hn : SmallL xs) (now : Context) (hw : SmallC now) (g : Int) (hA : ¬ GoodSwitch xs now g) : ACalls Try.prog 52 [.sl (xs.map eContext), .agg (eContext now), .int .i64 g] [] (Ret (.tup [.nil, .agg [.int .i64 0, .nil, .int .i64 0, .bool false, .bool false, .int .i64 0, .int .i64 0], .bool false])) := by
  have hn1 := hn.1
  have hfl := findC_lt xs g
  have hw' : now.regs.words.length ≤ 1048576 := hw
  refine a_enter Try.func52 rfl rfl (fun w0 M0 => ?_)
  refine a_seq ?_
  refine a_region ?_
  refine aops_cons rfl (w_box_v rfl rfl rfl ?_)
  refine aops_cons rfl (w_pure rfl (p_assign rfl) ?_)
  refine aops_cons rfl (w_alloc rfl z_32 fun b1 => ?_)
  refine aops_cons rfl (w_pure rfl (p_assign rfl) ?_)
  refine aops_nil ?_
  refine a_seq ?_
  refine a_region ?_
  refine aops_cons rfl (w_pure rfl (p_move rfl) ?_)
  refine aops_cons rfl (w_pure rfl (p_move rfl) ?_)
  refine aops_cons rfl (w_callR rfl rfl rfl cl_76 (c_impl_contextIndex _ (by assumption) _) ?_)
  refine aops_cons rfl (w_pure rfl (p_assign rfl) ?_)
  refine aops_nil ?_
  refine a_seq ?_
  refine a_seq ?_
  refine a_region ?_
  refine aops_cons rfl (w_pure rfl (p_move rfl) ?_)
  refine aops_cons rfl (w_callR rfl rfl rfl cl_50 (c_impl_AreContexts _ ‹_›) ?_)
  refine aops_cons rfl (w_pure rfl (p_not rfl) ?_)
  refine aops_cons rfl (w_pure rfl (p_move rfl) ?_)
  first | refine aops_split_d 18 rfl (fun h1 => ?_) (fun h2 => ?_) | refine aops_split 18 rfl (fun h1 => ?_) (fun h2 => ?_)
  · (try simp only [Bool.not_eq_true', Bool.not_eq_false', Bool.not_eq_true, Bool.not_eq_false, decide_eq_true_eq, decide_eq_false_iff_not, List.length_map, List.length_range] at h1)
    refine g_pass' rfl rfl rfl rfl rfl ?_
    refine g_pass' rfl rfl rfl rfl rfl ?_
    refine g_pass' rfl rfl rfl rfl rfl ?_
    refine aops_cons rfl (w_pure rfl (p_pick_t rfl rfl) ?_)
    refine aops_cons rfl (w_pure rfl (p_move rfl) ?_)
    refine g_pass' rfl rfl rfl rfl rfl ?_
    refine g_pass' rfl rfl rfl rfl rfl ?_
    refine g_pass' rfl rfl rfl rfl rfl ?_
    refine g_pass' rfl rfl rfl rfl rfl ?_
    refine g_pass' rfl rfl rfl rfl rfl ?_
    refine aops_cons rfl (w_pure rfl (p_pick_t rfl rfl) ?_)
    refine aops_cons rfl (w_pure rfl (p_move rfl) ?_)
    refine g_pass' rfl rfl rfl rfl rfl ?_
    refine g_pass' rfl rfl rfl rfl rfl ?_
    refine aops_cons rfl (w_pure rfl (p_pick_t rfl rfl) ?_)
    refine aops_nil ?_
    refine a_cond_t rfl ?_
    refine a_seq ?_
    refine a_region ?_
    refine aops_cons rfl (w_pure rfl (p_build (cells := [_, _, _, _, _, _, _]) z_32 pl_32 rfl rfl) ?_)
    refine aops_cons rfl (w_pure rfl (p_assign rfl) ?_)
    refine aops_cons rfl (w_store (cells' := [_, _, _, _, _, _, _]) rfl rfl rfl (by repeat (first | exact Pick.here _ _ _ | apply Pick.next)) cn_32 (by rfl) (by rfl) (by rfl) trivial ?_)
    refine aops_cons rfl (w_pure rfl (p_assign rfl) ?_)
    refine aops_nil ?_
    refine a_ret ?_
    refine ret_ok (hands3 rfl (.tmp rfl) (.cell ag_32 rfl (by repeat (first | exact Pick.here _ _ _ | apply Pick.next)) (by rfl)) (.tmp rfl)) (.nil _) ?_
    exact ⟨rfl, rfl⟩
  · (try simp only [Bool.not_eq_true', Bool.not_eq_false', Bool.not_eq_true, Bool.not_eq_false, decide_eq_true_eq, decide_eq_false_iff_not, List.length_map, List.length_range] at h2)
    refine aops_guard_t rfl rfl rfl (w_pure rfl (p_load_v_all ag_32 rfl (by rfl) noX) ?_)
    refine aops_guard_t rfl rfl rfl (w_callR rfl rfl rfl cl_42 (c_impl_IsContext _ (by first | assumption | exact hn.2 _ (by omega))) ?_)
    refine aops_guard_t rfl rfl rfl (w_pure rfl (p_not rfl) ?_)
    refine aops_cons rfl (w_pure rfl (p_pick_f rfl rfl) ?_)
    refine aops_cons rfl (w_pure rfl (p_move rfl) ?_)
    first | refine aops_split_d 23 rfl (fun h3 => ?_) (fun h4 => ?_) | refine aops_split 23 rfl (fun h3 => ?_) (fun h4 => ?_)
    · (try simp only [Bool.not_eq_true', Bool.not_eq_false', Bool.not_eq_true, Bool.not_eq_false, decide_eq_true_eq, decide_eq_false_iff_not, List.length_map, List.length_range] at h3)
      refine g_pass' rfl rfl rfl rfl rfl ?_
      refine g_pass' rfl rfl rfl rfl rfl ?_
      refine g_pass' rfl rfl rfl rfl rfl ?_
      refine g_pass' rfl rfl rfl rfl rfl ?_
      refine g_pass' rfl rfl rfl rfl rfl ?_
      refine aops_cons rfl (w_pure rfl (p_pick_t rfl rfl) ?_)
      refine aops_cons rfl (w_pure rfl (p_move rfl) ?_)
      refine g_pass' rfl rfl rfl rfl rfl ?_
      refine g_pass' rfl rfl rfl rfl rfl ?_
      refine aops_cons rfl (w_pure rfl (p_pick_t rfl rfl) ?_)
      refine aops_nil ?_
      refine a_cond_t rfl ?_
      refine a_seq ?_
      refine a_region ?_
      refine aops_cons rfl (w_pure rfl (p_build (cells := [_, _, _, _, _, _, _]) z_32 pl_32 rfl rfl) ?_)
      refine aops_cons rfl (w_pure rfl (p_assign rfl) ?_)
      refine aops_cons rfl (w_store (cells' := [_, _, _, _, _, _, _]) rfl rfl rfl (by repeat (first | exact Pick.here _ _ _ | apply Pick.next)) cn_32 (by rfl) (by rfl) (by rfl) trivial ?_)
      refine aops_cons rfl (w_pure rfl (p_assign rfl) ?_)
      refine aops_nil ?_
      refine a_ret ?_
      refine ret_ok (hands3 rfl (.tmp rfl) (.cell ag_32 rfl (by repeat (first | exact Pick.here _ _ _ | apply Pick.next)) (by rfl)) (.tmp rfl)) (.nil _) ?_
      exact ⟨rfl, rfl⟩
    · (try simp only [Bool.not_eq_true', Bool.not_eq_false', Bool.not_eq_true, Bool.not_eq_false, decide_eq_true_eq, decide_eq_false_iff_not, List.length_map, List.length_range] at h4)
      refine aops_guard_t rfl rfl rfl (w_pure rfl (p_move rfl) ?_)
      refine aops_guard_t rfl rfl rfl (w_pure rfl (p_field_v fo_32_0 rfl) ?_)
      refine aops_guard_t rfl rfl rfl (w_pure rfl (p_load_v ag_3 rfl (by rfl) noX) ?_)
      refine aops_guard_t rfl rfl rfl (w_callR rfl rfl rfl cl_76 (c_impl_contextIndex _ (by assumption) _) ?_)
      refine aops_guard_t rfl rfl rfl (w_pure rfl (p_geq rfl rfl) ?_)
      refine aops_cons rfl (w_pure rfl (p_pick_f rfl rfl) ?_)
      refine aops_cons rfl (w_pure rfl (p_move rfl) ?_)
      first | refine aops_split_d 30 rfl (fun h5 => ?_) (fun h6 => ?_) | refine aops_split 30 rfl (fun h5 => ?_) (fun h6 => ?_)
      · (try simp only [Bool.not_eq_true', Bool.not_eq_false', Bool.not_eq_true, Bool.not_eq_false, decide_eq_true_eq, decide_eq_false_iff_not, List.length_map, List.length_range] at h5)
        refine g_pass' rfl rfl rfl rfl rfl ?_
        refine g_pass' rfl rfl rfl rfl rfl ?_
        refine aops_cons rfl (w_pure rfl (p_pick_t rfl rfl) ?_)
        refine aops_nil ?_
        refine a_cond_t rfl ?_
        refine a_seq ?_
        refine a_region ?_
        refine aops_cons rfl (w_pure rfl (p_build (cells := [_, _, _, _, _, _, _]) z_32 pl_32 rfl rfl) ?_)
        refine aops_cons rfl (w_pure rfl (p_assign rfl) ?_)
        refine aops_cons rfl (w_store (cells' := [_, _, _, _, _, _, _]) rfl rfl rfl (by repeat (first | exact Pick.here _ _ _ | apply Pick.next)) cn_32 (by rfl) (by rfl) (by rfl) trivial ?_)
        refine aops_cons rfl (w_pure rfl (p_assign rfl) ?_)
        refine aops_nil ?_
        refine a_ret ?_
        refine ret_ok (hands3 rfl (.tmp rfl) (.cell ag_32 rfl (by repeat (first | exact Pick.here _ _ _ | apply Pick.next)) (by rfl)) (.tmp rfl)) (.nil _) ?_
        exact ⟨rfl, rfl⟩
      · (try simp only [Bool.not_eq_true', Bool.not_eq_false', Bool.not_eq_true, Bool.not_eq_false, decide_eq_true_eq, decide_eq_false_iff_not, List.length_map, List.length_range] at h6)
        refine aops_guard_t rfl rfl rfl (w_pure rfl (p_move rfl) ?_)
        refine aops_guard_t rfl rfl rfl (w_pure rfl (p_lss rfl rfl) ?_)
        refine aops_cons rfl (w_pure rfl (p_pick_f rfl rfl) ?_)
        refine aops_nil ?_
        first | refine a_cond_d rfl (fun h7 => ?_) (fun h8 => ?_) | refine a_cond_n rfl (fun h7 => ?_) (fun h8 => ?_) | refine a_cond_nb rfl (fun h7 => ?_) (fun h8 => ?_) | refine a_cond rfl (fun h7 => ?_) (fun h8 => ?_)
        · (try simp only [Bool.not_eq_true', Bool.not_eq_false', Bool.not_eq_true, Bool.not_eq_false, decide_eq_true_eq, decide_eq_false_iff_not, List.length_map, List.length_range] at h7)
          refine a_seq ?_
          refine a_region ?_
          refine aops_cons rfl (w_pure rfl (p_build (cells := [_, _, _, _, _, _, _]) z_32 pl_32 rfl rfl) ?_)
          refine aops_cons rfl (w_pure rfl (p_assign rfl) ?_)
          refine aops_cons rfl (w_store (cells' := [_, _, _, _, _, _, _]) rfl rfl rfl (by repeat (first | exact Pick.here _ _ _ | apply Pick.next)) cn_32 (by rfl) (by rfl) (by rfl) trivial ?_)
          refine aops_cons rfl (w_pure rfl (p_assign rfl) ?_)
          refine aops_nil ?_
          refine a_ret ?_
          refine ret_ok (hands3 rfl (.tmp rfl) (.cell ag_32 rfl (by repeat (first | exact Pick.here _ _ _ | apply Pick.next)) (by rfl)) (.tmp rfl)) (.nil _) ?_
          exact ⟨rfl, rfl⟩
        · (try simp only [Bool.not_eq_true', Bool.not_eq_false', Bool.not_eq_true, Bool.not_eq_false, decide_eq_true_eq, decide_eq_false_iff_not, List.length_map, List.length_range] at h8)
          refine a_skip ?_
          refine a_seq ?_
          exact absurd (show GoodSwitch xs now g from ⟨by assumption, by assumption, by omega, by omega⟩) hA

theorem co_spec_SwitchTo (xs : List Context) (hn : SmallL xs) (now : Context) (hw : SmallC now) (g : Int) (hA : GoodSwitch xs now g) : ACalls Try.prog 53 [.sl (xs.map eContext), .agg (eContext now), .int .i64 g] [] (fun r st => ∃ (b1 : Nat) (ps1 : List BC) (b2 : Nat), r = .tup [.own 7 b1 0 ps1.length, .agg [.int .i64 (xs.getD (findC xs g).toNat zContext).id, .own 1 b2 0 (xs.getD (findC xs g).toNat zContext).regs.words.length, .int .i64 (xs.getD (findC xs g).toNat zContext).regs.pc, .bool (xs.getD (findC xs g).toNat zContext).regs.f, .bool (xs.getD (findC xs g).toNat zContext).regs.g, .int .i64 (xs.getD (findC xs g).toNat zContext).wait, .int .i64 (xs.getD (findC xs g).toNat zContext).pend], .bool true] ∧ ps1.map (·.2) = (switchL xs now (findC xs g).toNat) ∧ st = (b1, .arr 32 7 (ps1.map rowC)) :: (b2, .arr 3 1 ((xs.getD (findC xs g).toNat zContext).regs.words.map eInt)) :: fam (famC 3) ps1) := by
  have hn1 := hn.1
  have hfl := findC_lt xs g
  obtain ⟨g1, g2, g3, g4⟩ := id hA
  have hx6 := g1.2
  refine a_enter Try.func53 rfl rfl (fun w0 M0 => ?_)
  refine a_seq ?_
  refine a_region ?_
  refine aops_cons rfl (w_box_v rfl rfl rfl ?_)
  refine aops_cons rfl (w_pure rfl (p_assign rfl) ?_)
  refine aops_cons rfl (w_alloc rfl z_32 fun b1 => ?_)
  refine aops_cons rfl (w_pure rfl (p_assign rfl) ?_)
  refine aops_nil ?_
  refine a_seq ?_
  refine a_region ?_
  refine aops_cons rfl (w_pure rfl (p_move rfl) ?_)
  refine aops_cons rfl (w_pure rfl (p_move rfl) ?_)
  refine aops_cons rfl (w_callR rfl rfl rfl cl_74 (c_spec_l14Find _ (by assumption) _) ?_)
  refine aops_cons rfl (w_pure rfl (p_assign rfl) ?_)
  refine aops_nil ?_
  refine a_seq ?_
  refine a_seq ?_
  refine a_region ?_
  refine aops_cons rfl (w_pure rfl (p_move rfl) ?_)
  refine aops_cons rfl (w_callR rfl rfl rfl cl_68 (c_spec_l14Good _ ‹_›) ?_)
  refine aops_cons rfl (w_pure rfl (p_not rfl) ?_)
  refine aops_cons rfl (w_pure rfl (p_move rfl) ?_)
  first | refine aops_split_d 19 rfl (fun h1 => ?_) (fun h2 => ?_) | refine aops_split 19 rfl (fun h1 => ?_) (fun h2 => ?_)
  · (try simp only [Bool.not_eq_true', Bool.not_eq_false', Bool.not_eq_true, Bool.not_eq_false, decide_eq_true_eq, decide_eq_false_iff_not, List.length_map, List.length_range] at h1)
    refine g_pass' rfl rfl rfl rfl rfl ?_
    refine g_pass' rfl rfl rfl rfl rfl ?_
    refine g_pass' rfl rfl rfl rfl rfl ?_
    refine aops_cons rfl (w_pure rfl (p_pick_t rfl rfl) ?_)
    refine aops_cons rfl (w_pure rfl (p_move rfl) ?_)
    refine g_pass' rfl rfl rfl rfl rfl ?_
    refine g_pass' rfl rfl rfl rfl rfl ?_
    refine g_pass' rfl rfl rfl rfl rfl ?_
    refine g_pass' rfl rfl rfl rfl rfl ?_
    refine g_pass' rfl rfl rfl rfl rfl ?_
    refine aops_cons rfl (w_pure rfl (p_pick_t rfl rfl) ?_)
    refine aops_cons rfl (w_pure rfl (p_move rfl) ?_)
    refine g_pass' rfl rfl rfl rfl rfl ?_
    refine g_pass' rfl rfl rfl rfl rfl ?_
    refine aops_cons rfl (w_pure rfl (p_pick_t rfl rfl) ?_)
    refine aops_nil ?_
    refine a_cond_t rfl ?_
    refine a_seq ?_
    (exfalso; first | contradiction | omega | exact absurd g1 (by assumption) | exact absurd g2 (by assumption))
  · (try simp only [Bool.not_eq_true', Bool.not_eq_false', Bool.not_eq_true, Bool.not_eq_false, decide_eq_true_eq, decide_eq_false_iff_not, List.length_map, List.length_range] at h2)
    refine aops_guard_t rfl rfl rfl (w_pure rfl (p_load_v_all ag_32 rfl (by rfl) noX) ?_)
    refine aops_guard_t rfl rfl rfl (w_callR rfl rfl rfl cl_61 (c_spec_l14One _ (by first | assumption | exact hn.2 _ (by omega))) ?_)
    refine aops_guard_t rfl rfl rfl (w_pure rfl (p_not rfl) ?_)
    refine aops_cons rfl (w_pure rfl (p_pick_f rfl rfl) ?_)
    refine aops_cons rfl (w_pure rfl (p_move rfl) ?_)
    first | refine aops_split_d 24 rfl (fun h3 => ?_) (fun h4 => ?_) | refine aops_split 24 rfl (fun h3 => ?_) (fun h4 => ?_)
    · (try simp only [Bool.not_eq_true', Bool.not_eq_false', Bool.not_eq_true, Bool.not_eq_false, decide_eq_true_eq, decide_eq_false_iff_not, List.length_map, List.length_range] at h3)
      refine g_pass' rfl rfl rfl rfl rfl ?_
      refine g_pass' rfl rfl rfl rfl rfl ?_
      refine g_pass' rfl rfl rfl rfl rfl ?_
      refine g_pass' rfl rfl rfl rfl rfl ?_
      refine g_pass' rfl rfl rfl rfl rfl ?_
      refine aops_cons rfl (w_pure rfl (p_pick_t rfl rfl) ?_)
      refine aops_cons rfl (w_pure rfl (p_move rfl) ?_)
      refine g_pass' rfl rfl rfl rfl rfl ?_
      refine g_pass' rfl rfl rfl rfl rfl ?_
      refine aops_cons rfl (w_pure rfl (p_pick_t rfl rfl) ?_)
      refine aops_nil ?_
      refine a_cond_t rfl ?_
      refine a_seq ?_
      (exfalso; first | contradiction | omega | exact absurd g1 (by assumption) | exact absurd g2 (by assumption))
    · (try simp only [Bool.not_eq_true', Bool.not_eq_false', Bool.not_eq_true, Bool.not_eq_false, decide_eq_true_eq, decide_eq_false_iff_not, List.length_map, List.length_range] at h4)
      refine aops_guard_t rfl rfl rfl (w_pure rfl (p_move rfl) ?_)
      refine aops_guard_t rfl rfl rfl (w_pure rfl (p_field_v fo_32_0 rfl) ?_)
      refine aops_guard_t rfl rfl rfl (w_pure rfl (p_load_v ag_3 rfl (by rfl) noX) ?_)
      refine aops_guard_t rfl rfl rfl (w_callR rfl rfl rfl cl_74 (c_spec_l14Find _ (by assumption) _) ?_)
      refine aops_guard_t rfl rfl rfl (w_pure rfl (p_geq rfl rfl) ?_)
      refine aops_cons rfl (w_pure rfl (p_pick_f rfl rfl) ?_)
      refine aops_cons rfl (w_pure rfl (p_move rfl) ?_)
      first | refine aops_split_d 31 rfl (fun h5 => ?_) (fun h6 => ?_) | refine aops_split 31 rfl (fun h5 => ?_) (fun h6 => ?_)
      · (try simp only [Bool.not_eq_true', Bool.not_eq_false', Bool.not_eq_true, Bool.not_eq_false, decide_eq_true_eq, decide_eq_false_iff_not, List.length_map, List.length_range] at h5)
        refine g_pass' rfl rfl rfl rfl rfl ?_
        refine g_pass' rfl rfl rfl rfl rfl ?_
        refine aops_cons rfl (w_pure rfl (p_pick_t rfl rfl) ?_)
        refine aops_nil ?_
        refine a_cond_t rfl ?_
        refine a_seq ?_
        (exfalso; first | contradiction | omega | exact absurd g1 (by assumption) | exact absurd g2 (by assumption))
      · (try simp only [Bool.not_eq_true', Bool.not_eq_false', Bool.not_eq_true, Bool.not_eq_false, decide_eq_true_eq, decide_eq_false_iff_not, List.length_map, List.length_range] at h6)
        refine aops_guard_t rfl rfl rfl (w_pure rfl (p_move rfl) ?_)
        refine aops_guard_t rfl rfl rfl (w_pure rfl (p_lss rfl rfl) ?_)
        refine aops_cons rfl (w_pure rfl (p_pick_f rfl rfl) ?_)
        refine aops_nil ?_
        first | refine a_cond_d rfl (fun h7 => ?_) (fun h8 => ?_) | refine a_cond_n rfl (fun h7 => ?_) (fun h8 => ?_) | refine a_cond_nb rfl (fun h7 => ?_) (fun h8 => ?_) | refine a_cond rfl (fun h7 => ?_) (fun h8 => ?_)
        · (try simp only [Bool.not_eq_true', Bool.not_eq_false', Bool.not_eq_true, Bool.not_eq_false, decide_eq_true_eq, decide_eq_false_iff_not, List.length_map, List.length_range] at h7)
          refine a_seq ?_
          (exfalso; first | contradiction | omega | exact absurd g1 (by assumption) | exact absurd g2 (by assumption))
        · (try simp only [Bool.not_eq_true', Bool.not_eq_false', Bool.not_eq_true, Bool.not_eq_false, decide_eq_true_eq, decide_eq_false_iff_not, List.length_map, List.length_range] at h8)
          refine a_skip ?_
          refine a_seq ?_
          refine a_region ?_
          refine aops_cons rfl (w_litM rowC [] rfl el_44 rfl rfl rfl rfl rfl fun b2 => ?_)
          refine aops_cons rfl (w_pure rfl (p_assign rfl) ?_)
          refine aops_nil ?_
          refine a_seq ?_
          refine a_region ?_
          refine aops_cons rfl (w_pure rfl (p_assign rfl) ?_)
          refine aops_nil ?_
          refine a_seq ?_
          refine a_seq ?_
          refine a_region ?_
          refine aops_cons rfl (w_pure rfl (p_assign rfl) ?_)
          refine aops_nil ?_
          refine a_block ?_
          refine a_loop (ι := Nat × Nat × Bool × List BC) (fun ⟨i, b, dn, ps⟩ => (i ≤ xs.length ∧ ps.length ≤ i + i) ∧ ps.map (·.2) = (swTo xs now (findC xs g).toNat i).2 ∧ dn = (swTo xs now (findC xs g).toNat i).1) (fun ⟨i, b, dn, ps⟩ => [(12, .int .i64 (i : Int)), (10, .own 7 b 0 ps.length), (11, .bool dn)]) (fun ⟨i, b, dn, ps⟩ => (b, .arr 32 7 (ps.map rowC)) :: fam (famC 3) ps) (fun ⟨i, b, dn, ps⟩ => xs.length - i) (0, b2, false, []) ⟨⟨Nat.zero_le _, Nat.zero_le _⟩, rfl, rfl⟩ (by repeat (first | exact Knows.nil | refine Knows.cons (by rfl) ?_)) (by (try dsimp only); (try simp only [fam_app, fam_one, fam_nil, List.append_assoc, List.cons_append, List.nil_append, List.append_nil, List.append_eq]); repeat (first | exact Picks.nil _ | exact Pick.here _ _ _ | exact Picks.whole _ _ | exact Picks.whole0 _ | apply Pick.next | apply Pick.under | apply Picks.cons | apply Picks.both | apply Picks.skip1 | apply Picks.skipA)) ?_
          rintro ⟨i, b, dn, ps⟩ ⟨⟨hi, hL⟩, hP, hD⟩
          replace hi : i ≤ xs.length := hi
          replace hL : ps.length ≤ i + i := hL
          replace hP : ps.map (·.2) = (swTo xs now (findC xs g).toNat i).2 := hP
          replace hD : dn = (swTo xs now (findC xs g).toNat i).1 := hD
          refine a_seq ?_
          refine a_seq ?_
          refine a_region ?_
          refine aops_cons rfl (w_pure rfl (p_move rfl) ?_)
          refine aops_cons rfl (w_pure rfl (p_move rfl) ?_)
          refine aops_cons rfl (w_pure rfl (p_len sl_44 rfl rfl) ?_)
          refine aops_cons rfl (w_pure rfl (p_lss rfl rfl) ?_)
          refine aops_nil ?_
          first | refine a_cond_d rfl (fun h9 => ?_) (fun h10 => ?_) | refine a_cond_n rfl (fun h9 => ?_) (fun h10 => ?_) | refine a_cond_nb rfl (fun h9 => ?_) (fun h10 => ?_) | refine a_cond rfl (fun h9 => ?_) (fun h10 => ?_)
          · (try simp only [Bool.not_eq_true', Bool.not_eq_false', Bool.not_eq_true, Bool.not_eq_false, decide_eq_true_eq, decide_eq_false_iff_not, List.length_map, List.length_range] at h9)
            refine a_skip ?_
            refine a_seq ?_
            refine a_block ?_
            refine a_seq ?_
            refine a_seq ?_
            refine a_draw [] (by kernel_rfl) ?_
            show ADraw _ _ _ _ _ _ 12 _ _ _ _
            refine d_take 0 rfl (by kernel_rfl) (by kernel_rfl) (by kernel_rfl) rfl (p_move rfl) ?_
            refine d_take 1 rfl (by kernel_rfl) (by kernel_rfl) (by kernel_rfl) rfl (p_not rfl) ?_
            refine d_take 2 rfl (by kernel_rfl) (by kernel_rfl) (by kernel_rfl) rfl (p_move rfl) ?_
            first | refine d_split_d 46 rfl (fun h11 => ?_) (fun h12 => ?_) | refine draw_split 46 rfl (fun h11 => ?_) (fun h12 => ?_)
            · (try simp only [Bool.not_eq_true', Bool.not_eq_false', Bool.not_eq_true, Bool.not_eq_false, decide_eq_true_eq, decide_eq_false_iff_not, List.length_map, List.length_range] at h11)
              refine d_take_t 3 rfl (by kernel_rfl) (by kernel_rfl) (by kernel_rfl) rfl rfl rfl (p_move rfl) ?_
              refine d_take_t 4 rfl (by kernel_rfl) (by kernel_rfl) (by kernel_rfl) rfl rfl rfl (p_move rfl) ?_
              refine d_take_t 5 rfl (by kernel_rfl) (by kernel_rfl) (by kernel_rfl) rfl rfl rfl (p_index_sl i rfl rfl rfl (rowD eContext xs zContext (by omega)) es_44) ?_
              refine d_take_t 6 rfl (by kernel_rfl) (by kernel_rfl) (by kernel_rfl) rfl rfl rfl (p_field_v fo_32_0 rfl) ?_
              refine d_load_t 7 rfl (by kernel_rfl) (by kernel_rfl) (by kernel_rfl) rfl rfl rfl (p_load_v ag_3 rfl (by rfl) noX) ?_
              refine d_take_t 8 rfl (by kernel_rfl) (by kernel_rfl) (by kernel_rfl) rfl rfl rfl (p_field_v fo_32_0 rfl) ?_
              refine d_load_t 9 rfl (by kernel_rfl) (by kernel_rfl) (by kernel_rfl) rfl rfl rfl (p_load_v ag_3 rfl (by rfl) noX) ?_
              refine d_take_t 10 rfl (by kernel_rfl) (by kernel_rfl) (by kernel_rfl) rfl rfl rfl (p_gtr rfl rfl) ?_
              refine d_take 11 rfl (by kernel_rfl) (by kernel_rfl) (by kernel_rfl) rfl (p_pick_t rfl rfl) ?_
              refine draw_done (by kernel_rfl) ?_
              first | refine a_cond_d rfl (fun h13 => ?_) (fun h14 => ?_) | refine a_cond_n rfl (fun h13 => ?_) (fun h14 => ?_) | refine a_cond_nb rfl (fun h13 => ?_) (fun h14 => ?_) | refine a_cond rfl (fun h13 => ?_) (fun h14 => ?_)
              · (try simp only [Bool.not_eq_true', Bool.not_eq_false', Bool.not_eq_true, Bool.not_eq_false, decide_eq_true_eq, decide_eq_false_iff_not, List.length_map, List.length_range] at h13)
                refine a_seq ?_
                refine a_region ?_
                refine aops_cons rfl (w_pure rfl (p_move rfl) ?_)
                refine aops_cons rfl (w_pure rfl (p_load_v_all ag_32 rfl (by rfl) noX) ?_)
                refine aops_cons rfl (w_call rfl rfl rfl cl_95 (co_spec_l14Copy now hw) ?_)
                rintro _ _ ⟨b3, rfl, rfl⟩
                refine aops_cons rfl (w_lit_vM rowC [(_, now)] rfl el_44 rfl rfl rfl rfl rfl ?_)
                refine aops_cons rfl (w_appendM rowC rfl el_44 rfl rfl (by (try simp only [fam_app, fam_one, fam_nil, List.append_assoc, List.cons_append, List.nil_append, List.append_nil, List.append_eq]); repeat (first | exact Pick.here _ _ _ | apply Pick.next | apply Pick.under)) rfl (.sl _) (fun _ => rfl) (fun _ => rfl) (by simp; omega) (by simp; omega) trivial fun b4 => ?_)
                refine aops_cons rfl (w_pure rfl (p_assign rfl) ?_)
                refine aops_nil ?_
                refine a_region ?_
                refine aops_cons rfl (w_pure rfl (p_assign rfl) ?_)
                refine aops_nil ?_
                refine a_seq ?_
                refine a_region ?_
                refine aops_cons rfl (w_pure rfl (p_move rfl) ?_)
                refine aops_cons rfl (w_pure rfl (p_move rfl) ?_)
                refine aops_cons rfl (w_pure rfl (p_neq rfl rfl) ?_)
                refine aops_nil ?_
                first | refine a_cond_d rfl (fun h15 => ?_) (fun h16 => ?_) | refine a_cond_n rfl (fun h15 => ?_) (fun h16 => ?_) | refine a_cond_nb rfl (fun h15 => ?_) (fun h16 => ?_) | refine a_cond rfl (fun h15 => ?_) (fun h16 => ?_)
                · (try simp only [Bool.not_eq_true', Bool.not_eq_false', Bool.not_eq_true, Bool.not_eq_false, decide_eq_true_eq, decide_eq_false_iff_not, List.length_map, List.length_range] at h15)
                  refine a_region ?_
                  refine aops_cons rfl (w_pure rfl (p_move rfl) ?_)
                  refine aops_cons rfl (w_pure rfl (p_move rfl) ?_)
                  refine aops_cons rfl (w_pure rfl (p_move rfl) ?_)
                  refine aops_cons rfl (w_pure rfl (p_index_sl i rfl rfl rfl (rowD eContext xs zContext (by omega)) es_44) ?_)
                  refine aops_cons rfl (w_pure rfl (p_load_v_all ag_32 rfl (by rfl) noX) ?_)
                  refine aops_cons rfl (w_call rfl rfl rfl cl_95 (co_spec_l14Copy (xs.getD i zContext) (hn.2 i (by omega))) ?_)
                  rintro _ _ ⟨b5, rfl, rfl⟩
                  refine aops_cons rfl (w_lit_vM rowC [(_, (xs.getD i zContext))] rfl el_44 rfl rfl rfl rfl rfl ?_)
                  refine aops_cons rfl (w_appendM rowC rfl el_44 rfl rfl (by (try simp only [fam_app, fam_one, fam_nil, List.append_assoc, List.cons_append, List.nil_append, List.append_nil, List.append_eq]); repeat (first | exact Pick.here _ _ _ | apply Pick.next | apply Pick.under)) rfl (.sl _) (fun _ => rfl) (fun _ => rfl) (by simp; omega) (by simp; omega) trivial fun b6 => ?_)
                  refine aops_cons rfl (w_pure rfl (p_assign rfl) ?_)
                  refine aops_nil ?_
                  refine a_region ?_
                  refine aops_cons rfl (w_pure rfl (p_move rfl) ?_)
                  refine aops_cons rfl (w_pure rfl (p_add' rfl rfl ⟨by omega, by omega⟩) ?_)
                  refine aops_cons rfl (w_pure rfl (p_assign rfl) ?_)
                  refine aops_nil ?_
                  refine ⟨(i + 1, _, _, ps ++ [(b3, now)] ++ [(b5, (xs.getD i zContext))]), _, ?_, ?_, (by repeat (first | exact Knows.nil | refine Knows.cons (by rfl) ?_)), (by repeat (first | exact Back.refl _ _ | refine Back.cons (by rfl) ?_)), (by (try dsimp only); (try simp only [fam_app, fam_one, fam_nil, List.append_assoc, List.cons_append, List.nil_append, List.append_nil, List.append_eq]); repeat (first | exact Picks.nil _ | exact Pick.here _ _ _ | exact Picks.whole _ _ | exact Picks.whole0 _ | apply Pick.next | apply Pick.under | apply Picks.cons | apply Picks.both | apply Picks.skip1 | apply Picks.skipA))⟩
                  · first | exact ⟨⟨by omega, by simp; omega⟩, sw_yy hP hD (by assumption) (by omega) (by omega)⟩ | exact ⟨⟨by omega, by simp; omega⟩, sw_yn hP hD (by assumption) (by omega) (by omega)⟩ | exact ⟨⟨by omega, by simp; omega⟩, sw_ny hP hD (by rintro ⟨q1, q2⟩; first | omega | simp_all) (by omega)⟩ | exact ⟨⟨by omega, by omega⟩, sw_nn hP hD (by rintro ⟨q1, q2⟩; first | omega | simp_all) (by omega)⟩
                  · (try dsimp only); omega
                · (try simp only [Bool.not_eq_true', Bool.not_eq_false', Bool.not_eq_true, Bool.not_eq_false, decide_eq_true_eq, decide_eq_false_iff_not, List.length_map, List.length_range] at h16)
                  refine a_skip ?_
                  refine a_region ?_
                  refine aops_cons rfl (w_pure rfl (p_move rfl) ?_)
                  refine aops_cons rfl (w_pure rfl (p_add' rfl rfl ⟨by omega, by omega⟩) ?_)
                  refine aops_cons rfl (w_pure rfl (p_assign rfl) ?_)
                  refine aops_nil ?_
                  refine ⟨(i + 1, _, _, ps ++ [(b3, now)]), _, ?_, ?_, (by repeat (first | exact Knows.nil | refine Knows.cons (by rfl) ?_)), (by repeat (first | exact Back.refl _ _ | refine Back.cons (by rfl) ?_)), (by (try dsimp only); (try simp only [fam_app, fam_one, fam_nil, List.append_assoc, List.cons_append, List.nil_append, List.append_nil, List.append_eq]); repeat (first | exact Picks.nil _ | exact Pick.here _ _ _ | exact Picks.whole _ _ | exact Picks.whole0 _ | apply Pick.next | apply Pick.under | apply Picks.cons | apply Picks.both | apply Picks.skip1 | apply Picks.skipA))⟩
                  · first | exact ⟨⟨by omega, by simp; omega⟩, sw_yy hP hD (by assumption) (by omega) (by omega)⟩ | exact ⟨⟨by omega, by simp; omega⟩, sw_yn hP hD (by assumption) (by omega) (by omega)⟩ | exact ⟨⟨by omega, by simp; omega⟩, sw_ny hP hD (by rintro ⟨q1, q2⟩; first | omega | simp_all) (by omega)⟩ | exact ⟨⟨by omega, by omega⟩, sw_nn hP hD (by rintro ⟨q1, q2⟩; first | omega | simp_all) (by omega)⟩
                  · (try dsimp only); omega
              · (try simp only [Bool.not_eq_true', Bool.not_eq_false', Bool.not_eq_true, Bool.not_eq_false, decide_eq_true_eq, decide_eq_false_iff_not, List.length_map, List.length_range] at h14)
                refine a_skip ?_
                refine a_seq ?_
                refine a_region ?_
                refine aops_cons rfl (w_pure rfl (p_move rfl) ?_)
                refine aops_cons rfl (w_pure rfl (p_move rfl) ?_)
                refine aops_cons rfl (w_pure rfl (p_neq rfl rfl) ?_)
                refine aops_nil ?_
                first | refine a_cond_d rfl (fun h17 => ?_) (fun h18 => ?_) | refine a_cond_n rfl (fun h17 => ?_) (fun h18 => ?_) | refine a_cond_nb rfl (fun h17 => ?_) (fun h18 => ?_) | refine a_cond rfl (fun h17 => ?_) (fun h18 => ?_)
                · (try simp only [Bool.not_eq_true', Bool.not_eq_false', Bool.not_eq_true, Bool.not_eq_false, decide_eq_true_eq, decide_eq_false_iff_not, List.length_map, List.length_range] at h17)
                  refine a_region ?_
                  refine aops_cons rfl (w_pure rfl (p_move rfl) ?_)
                  refine aops_cons rfl (w_pure rfl (p_move rfl) ?_)
                  refine aops_cons rfl (w_pure rfl (p_move rfl) ?_)
                  refine aops_cons rfl (w_pure rfl (p_index_sl i rfl rfl rfl (rowD eContext xs zContext (by omega)) es_44) ?_)
                  refine aops_cons rfl (w_pure rfl (p_load_v_all ag_32 rfl (by rfl) noX) ?_)
                  refine aops_cons rfl (w_call rfl rfl rfl cl_95 (co_spec_l14Copy (xs.getD i zContext) (hn.2 i (by omega))) ?_)
                  rintro _ _ ⟨b7, rfl, rfl⟩
                  refine aops_cons rfl (w_lit_vM rowC [(_, (xs.getD i zContext))] rfl el_44 rfl rfl rfl rfl rfl ?_)
                  refine aops_cons rfl (w_appendM rowC rfl el_44 rfl rfl (by (try simp only [fam_app, fam_one, fam_nil, List.append_assoc, List.cons_append, List.nil_append, List.append_nil, List.append_eq]); repeat (first | exact Pick.here _ _ _ | apply Pick.next | apply Pick.under)) rfl (.sl _) (fun _ => rfl) (fun _ => rfl) (by simp; omega) (by simp; omega) trivial fun b8 => ?_)
                  refine aops_cons rfl (w_pure rfl (p_assign rfl) ?_)
                  refine aops_nil ?_
                  refine a_region ?_
                  refine aops_cons rfl (w_pure rfl (p_move rfl) ?_)
                  refine aops_cons rfl (w_pure rfl (p_add' rfl rfl ⟨by omega, by omega⟩) ?_)
                  refine aops_cons rfl (w_pure rfl (p_assign rfl) ?_)
                  refine aops_nil ?_
                  refine ⟨(i + 1, _, _, ps ++ [(b7, (xs.getD i zContext))]), _, ?_, ?_, (by repeat (first | exact Knows.nil | refine Knows.cons (by rfl) ?_)), (by repeat (first | exact Back.refl _ _ | refine Back.cons (by rfl) ?_)), (by (try dsimp only); (try simp only [fam_app, fam_one, fam_nil, List.append_assoc, List.cons_append, List.nil_append, List.append_nil, List.append_eq]); repeat (first | exact Picks.nil _ | exact Pick.here _ _ _ | exact Picks.whole _ _ | exact Picks.whole0 _ | apply Pick.next | apply Pick.under | apply Picks.cons | apply Picks.both | apply Picks.skip1 | apply Picks.skipA))⟩
                  · first | exact ⟨⟨by omega, by simp; omega⟩, sw_yy hP hD (by assumption) (by omega) (by omega)⟩ | exact ⟨⟨by omega, by simp; omega⟩, sw_yn hP hD (by assumption) (by omega) (by omega)⟩ | exact ⟨⟨by omega, by simp; omega⟩, sw_ny hP hD (by rintro ⟨q1, q2⟩; first | omega | simp_all) (by omega)⟩ | exact ⟨⟨by omega, by omega⟩, sw_nn hP hD (by rintro ⟨q1, q2⟩; first | omega | simp_all) (by omega)⟩
                  · (try dsimp only); omega
                · (try simp only [Bool.not_eq_true', Bool.not_eq_false', Bool.not_eq_true, Bool.not_eq_false, decide_eq_true_eq, decide_eq_false_iff_not, List.length_map, List.length_range] at h18)
                  refine a_skip ?_
                  refine a_region ?_
                  refine aops_cons rfl (w_pure rfl (p_move rfl) ?_)
                  refine aops_cons rfl (w_pure rfl (p_add' rfl rfl ⟨by omega, by omega⟩) ?_)
                  refine aops_cons rfl (w_pure rfl (p_assign rfl) ?_)
                  refine aops_nil ?_
                  refine ⟨(i + 1, _, _, ps), _, ?_, ?_, (by repeat (first | exact Knows.nil | refine Knows.cons (by rfl) ?_)), (by repeat (first | exact Back.refl _ _ | refine Back.cons (by rfl) ?_)), (by (try dsimp only); (try simp only [fam_app, fam_one, fam_nil, List.append_assoc, List.cons_append, List.nil_append, List.append_nil, List.append_eq]); repeat (first | exact Picks.nil _ | exact Pick.here _ _ _ | exact Picks.whole _ _ | exact Picks.whole0 _ | apply Pick.next | apply Pick.under | apply Picks.cons | apply Picks.both | apply Picks.skip1 | apply Picks.skipA))⟩
                  · first | exact ⟨⟨by omega, by simp; omega⟩, sw_yy hP hD (by assumption) (by omega) (by omega)⟩ | exact ⟨⟨by omega, by simp; omega⟩, sw_yn hP hD (by assumption) (by omega) (by omega)⟩ | exact ⟨⟨by omega, by simp; omega⟩, sw_ny hP hD (by rintro ⟨q1, q2⟩; first | omega | simp_all) (by omega)⟩ | exact ⟨⟨by omega, by omega⟩, sw_nn hP hD (by rintro ⟨q1, q2⟩; first | omega | simp_all) (by omega)⟩
                  · (try dsimp only); omega
            · (try simp only [Bool.not_eq_true', Bool.not_eq_false', Bool.not_eq_true, Bool.not_eq_false, decide_eq_true_eq, decide_eq_false_iff_not, List.length_map, List.length_range] at h12)
              refine d_pass' 3 rfl (by kernel_rfl) (by kernel_rfl) (by kernel_rfl) rfl rfl rfl ?_
              refine d_pass' 4 rfl (by kernel_rfl) (by kernel_rfl) (by kernel_rfl) rfl rfl rfl ?_
              refine d_pass' 5 rfl (by kernel_rfl) (by kernel_rfl) (by kernel_rfl) rfl rfl rfl ?_
              refine d_pass' 6 rfl (by kernel_rfl) (by kernel_rfl) (by kernel_rfl) rfl rfl rfl ?_
              refine d_pass' 7 rfl (by kernel_rfl) (by kernel_rfl) (by kernel_rfl) rfl rfl rfl ?_
              refine d_pass' 8 rfl (by kernel_rfl) (by kernel_rfl) (by kernel_rfl) rfl rfl rfl ?_
              refine d_pass' 9 rfl (by kernel_rfl) (by kernel_rfl) (by kernel_rfl) rfl rfl rfl ?_
              refine d_pass' 10 rfl (by kernel_rfl) (by kernel_rfl) (by kernel_rfl) rfl rfl rfl ?_
              refine d_take 11 rfl (by kernel_rfl) (by kernel_rfl) (by kernel_rfl) rfl (p_pick_f rfl rfl) ?_
              refine draw_done (by kernel_rfl) ?_
              refine a_cond_f rfl ?_
              refine a_skip ?_
              refine a_seq ?_
              refine a_region ?_
              refine aops_cons rfl (w_pure rfl (p_move rfl) ?_)
              refine aops_cons rfl (w_pure rfl (p_move rfl) ?_)
              refine aops_cons rfl (w_pure rfl (p_neq rfl rfl) ?_)
              refine aops_nil ?_
              first | refine a_cond_d rfl (fun h19 => ?_) (fun h20 => ?_) | refine a_cond_n rfl (fun h19 => ?_) (fun h20 => ?_) | refine a_cond_nb rfl (fun h19 => ?_) (fun h20 => ?_) | refine a_cond rfl (fun h19 => ?_) (fun h20 => ?_)
              · (try simp only [Bool.not_eq_true', Bool.not_eq_false', Bool.not_eq_true, Bool.not_eq_false, decide_eq_true_eq, decide_eq_false_iff_not, List.length_map, List.length_range] at h19)
                refine a_region ?_
                refine aops_cons rfl (w_pure rfl (p_move rfl) ?_)
                refine aops_cons rfl (w_pure rfl (p_move rfl) ?_)
                refine aops_cons rfl (w_pure rfl (p_move rfl) ?_)
                refine aops_cons rfl (w_pure rfl (p_index_sl i rfl rfl rfl (rowD eContext xs zContext (by omega)) es_44) ?_)
                refine aops_cons rfl (w_pure rfl (p_load_v_all ag_32 rfl (by rfl) noX) ?_)
                refine aops_cons rfl (w_call rfl rfl rfl cl_95 (co_spec_l14Copy (xs.getD i zContext) (hn.2 i (by omega))) ?_)
                rintro _ _ ⟨b9, rfl, rfl⟩
                refine aops_cons rfl (w_lit_vM rowC [(_, (xs.getD i zContext))] rfl el_44 rfl rfl rfl rfl rfl ?_)
                refine aops_cons rfl (w_appendM rowC rfl el_44 rfl rfl (by (try simp only [fam_app, fam_one, fam_nil, List.append_assoc, List.cons_append, List.nil_append, List.append_nil, List.append_eq]); repeat (first | exact Pick.here _ _ _ | apply Pick.next | apply Pick.under)) rfl (.sl _) (fun _ => rfl) (fun _ => rfl) (by simp; omega) (by simp; omega) trivial fun b10 => ?_)
                refine aops_cons rfl (w_pure rfl (p_assign rfl) ?_)
                refine aops_nil ?_
                refine a_region ?_
                refine aops_cons rfl (w_pure rfl (p_move rfl) ?_)
                refine aops_cons rfl (w_pure rfl (p_add' rfl rfl ⟨by omega, by omega⟩) ?_)
                refine aops_cons rfl (w_pure rfl (p_assign rfl) ?_)
                refine aops_nil ?_
                refine ⟨(i + 1, _, _, ps ++ [(b9, (xs.getD i zContext))]), _, ?_, ?_, (by repeat (first | exact Knows.nil | refine Knows.cons (by rfl) ?_)), (by repeat (first | exact Back.refl _ _ | refine Back.cons (by rfl) ?_)), (by (try dsimp only); (try simp only [fam_app, fam_one, fam_nil, List.append_assoc, List.cons_append, List.nil_append, List.append_nil, List.append_eq]); repeat (first | exact Picks.nil _ | exact Pick.here _ _ _ | exact Picks.whole _ _ | exact Picks.whole0 _ | apply Pick.next | apply Pick.under | apply Picks.cons | apply Picks.both | apply Picks.skip1 | apply Picks.skipA))⟩
                · first | exact ⟨⟨by omega, by simp; omega⟩, sw_yy hP hD (by assumption) (by omega) (by omega)⟩ | exact ⟨⟨by omega, by simp; omega⟩, sw_yn hP hD (by assumption) (by omega) (by omega)⟩ | exact ⟨⟨by omega, by simp; omega⟩, sw_ny hP hD (by rintro ⟨q1, q2⟩; first | omega | simp_all) (by omega)⟩ | exact ⟨⟨by omega, by omega⟩, sw_nn hP hD (by rintro ⟨q1, q2⟩; first | omega | simp_all) (by omega)⟩
                · (try dsimp only); omega
              · (try simp only [Bool.not_eq_true', Bool.not_eq_false', Bool.not_eq_true, Bool.not_eq_false, decide_eq_true_eq, decide_eq_false_iff_not, List.length_map, List.length_range] at h20)
                refine a_skip ?_
                refine a_region ?_
                refine aops_cons rfl (w_pure rfl (p_move rfl) ?_)
                refine aops_cons rfl (w_pure rfl (p_add' rfl rfl ⟨by omega, by omega⟩) ?_)
                refine aops_cons rfl (w_pure rfl (p_assign rfl) ?_)
                refine aops_nil ?_
                refine ⟨(i + 1, _, _, ps), _, ?_, ?_, (by repeat (first | exact Knows.nil | refine Knows.cons (by rfl) ?_)), (by repeat (first | exact Back.refl _ _ | refine Back.cons (by rfl) ?_)), (by (try dsimp only); (try simp only [fam_app, fam_one, fam_nil, List.append_assoc, List.cons_append, List.nil_append, List.append_nil, List.append_eq]); repeat (first | exact Picks.nil _ | exact Pick.here _ _ _ | exact Picks.whole _ _ | exact Picks.whole0 _ | apply Pick.next | apply Pick.under | apply Picks.cons | apply Picks.both | apply Picks.skip1 | apply Picks.skipA))⟩
                · first | exact ⟨⟨by omega, by simp; omega⟩, sw_yy hP hD (by assumption) (by omega) (by omega)⟩ | exact ⟨⟨by omega, by simp; omega⟩, sw_yn hP hD (by assumption) (by omega) (by omega)⟩ | exact ⟨⟨by omega, by simp; omega⟩, sw_ny hP hD (by rintro ⟨q1, q2⟩; first | omega | simp_all) (by omega)⟩ | exact ⟨⟨by omega, by omega⟩, sw_nn hP hD (by rintro ⟨q1, q2⟩; first | omega | simp_all) (by omega)⟩
                · (try dsimp only); omega
          · (try simp only [Bool.not_eq_true', Bool.not_eq_false', Bool.not_eq_true, Bool.not_eq_false, decide_eq_true_eq, decide_eq_false_iff_not, List.length_map, List.length_range] at h10)
            refine a_exit ?_
            refine a_seq ?_
            refine a_seq ?_
            refine a_region ?_
            refine aops_cons rfl (w_pure rfl (p_move rfl) ?_)
            refine aops_cons rfl (w_pure rfl (p_not rfl) ?_)
            refine aops_nil ?_
            first | refine a_cond_d rfl (fun h21 => ?_) (fun h22 => ?_) | refine a_cond_n rfl (fun h21 => ?_) (fun h22 => ?_) | refine a_cond_nb rfl (fun h21 => ?_) (fun h22 => ?_) | refine a_cond rfl (fun h21 => ?_) (fun h22 => ?_)
            · (try simp only [Bool.not_eq_true', Bool.not_eq_false', Bool.not_eq_true, Bool.not_eq_false, decide_eq_true_eq, decide_eq_false_iff_not, List.length_map, List.length_range] at h21)
              refine a_region ?_
              refine aops_cons rfl (w_pure rfl (p_move rfl) ?_)
              refine aops_cons rfl (w_pure rfl (p_load_v_all ag_32 rfl (by rfl) noX) ?_)
              refine aops_cons rfl (w_call rfl rfl rfl cl_95 (co_spec_l14Copy now hw) ?_)
              rintro _ _ ⟨b11, rfl, rfl⟩
              refine aops_cons rfl (w_lit_vM rowC [(_, now)] rfl el_44 rfl rfl rfl rfl rfl ?_)
              refine aops_cons rfl (w_appendM rowC rfl el_44 rfl rfl (by (try simp only [fam_app, fam_one, fam_nil, List.append_assoc, List.cons_append, List.nil_append, List.append_nil, List.append_eq]); repeat (first | exact Pick.here _ _ _ | apply Pick.next | apply Pick.under)) rfl (.sl _) (fun _ => rfl) (fun _ => rfl) (by simp; omega) (by simp; omega) trivial fun b12 => ?_)
              refine aops_cons rfl (w_pure rfl (p_assign rfl) ?_)
              refine aops_nil ?_
              refine a_seq ?_
              refine a_region ?_
              refine aops_cons rfl (w_pure rfl (p_move rfl) ?_)
              refine aops_cons rfl (w_pure rfl (p_move rfl) ?_)
              refine aops_cons rfl (w_pure rfl (p_move rfl) ?_)
              refine aops_cons rfl (w_pure rfl (p_index_sl (findC xs g).toNat rfl rfl (by omega) (rowD eContext xs zContext (by omega)) es_44) ?_)
              refine aops_cons rfl (w_pure rfl (p_load_v_all ag_32 rfl (by rfl) noX) ?_)
              refine aops_cons rfl (w_call rfl rfl rfl cl_95 (co_spec_l14Copy (xs.getD (findC xs g).toNat zContext) (hn.2 _ (by omega))) ?_)
              rintro _ _ ⟨b13, rfl, rfl⟩
              refine aops_cons rfl (w_pure rfl (p_assign rfl) ?_)
              refine aops_cons rfl (w_store (cells' := [_, _, _, _, _, _, _]) rfl rfl rfl (by (try simp only [fam_app, fam_one, fam_nil, List.append_assoc, List.cons_append, List.nil_append, List.append_nil, List.append_eq]); repeat (first | exact Pick.here _ _ _ | apply Pick.next | apply Pick.under)) cn_32 (by rfl) (by rfl) (by rfl) trivial ?_)
              refine aops_cons rfl (w_pure rfl (p_assign rfl) ?_)
              refine aops_nil ?_
              refine a_ret ?_
              refine ret_ok (hands3 rfl (.tmp rfl) (.cell ag_32 rfl (by (try simp only [fam_app, fam_one, fam_nil, List.append_assoc, List.cons_append, List.nil_append, List.append_nil, List.append_eq]); repeat (first | exact Pick.here _ _ _ | apply Pick.next | apply Pick.under)) (by rfl)) (.tmp rfl)) (st' := (_, .arr 32 7 _) :: (b13, _) :: fam (famC 3) (ps ++ [(b11, now)])) (by (try dsimp only); (try simp only [fam_app, fam_one, fam_nil, List.append_assoc, List.cons_append, List.nil_append, List.append_nil, List.append_eq]); repeat (first | exact Picks.nil _ | exact Pick.here _ _ _ | exact Picks.whole _ _ | exact Picks.whole0 _ | apply Pick.next | apply Pick.under | apply Picks.cons | apply Picks.both | apply Picks.skip1 | apply Picks.skipA)) ?_
              have hx : i = xs.length := (by omega); subst hx; first | exact ⟨_, ps ++ [(_, now)], _, by rw [List.length_append]; (try rfl), by unfold switchL; rw [if_neg (by rw [← hD, ‹dn = false›]; decide), ← hP, List.map_append]; (try rfl), rfl⟩ | exact ⟨_, ps, _, rfl, by unfold switchL; rw [if_pos (by rw [← hD]; assumption)]; exact hP, rfl⟩ | (exfalso; first | contradiction | omega | exact absurd g1 (by assumption) | exact absurd g2 (by assumption))
            · (try simp only [Bool.not_eq_true', Bool.not_eq_false', Bool.not_eq_true, Bool.not_eq_false, decide_eq_true_eq, decide_eq_false_iff_not, List.length_map, List.length_range] at h22)
              refine a_skip ?_
              refine a_seq ?_
              refine a_region ?_
              refine aops_cons rfl (w_pure rfl (p_move rfl) ?_)
              refine aops_cons rfl (w_pure rfl (p_move rfl) ?_)
              refine aops_cons rfl (w_pure rfl (p_move rfl) ?_)
              refine aops_cons rfl (w_pure rfl (p_index_sl (findC xs g).toNat rfl rfl (by omega) (rowD eContext xs zContext (by omega)) es_44) ?_)
              refine aops_cons rfl (w_pure rfl (p_load_v_all ag_32 rfl (by rfl) noX) ?_)
              refine aops_cons rfl (w_call rfl rfl rfl cl_95 (co_spec_l14Copy (xs.getD (findC xs g).toNat zContext) (hn.2 _ (by omega))) ?_)
              rintro _ _ ⟨b14, rfl, rfl⟩
              refine aops_cons rfl (w_pure rfl (p_assign rfl) ?_)
              refine aops_cons rfl (w_store (cells' := [_, _, _, _, _, _, _]) rfl rfl rfl (by (try simp only [fam_app, fam_one, fam_nil, List.append_assoc, List.cons_append, List.nil_append, List.append_nil, List.append_eq]); repeat (first | exact Pick.here _ _ _ | apply Pick.next | apply Pick.under)) cn_32 (by rfl) (by rfl) (by rfl) trivial ?_)
              refine aops_cons rfl (w_pure rfl (p_assign rfl) ?_)
              refine aops_nil ?_
              refine a_ret ?_
              refine ret_ok (hands3 rfl (.tmp rfl) (.cell ag_32 rfl (by (try simp only [fam_app, fam_one, fam_nil, List.append_assoc, List.cons_append, List.nil_append, List.append_nil, List.append_eq]); repeat (first | exact Pick.here _ _ _ | apply Pick.next | apply Pick.under)) (by rfl)) (.tmp rfl)) (st' := (_, .arr 32 7 _) :: (b14, _) :: fam (famC 3) ps) (by (try dsimp only); (try simp only [fam_app, fam_one, fam_nil, List.append_assoc, List.cons_append, List.nil_append, List.append_nil, List.append_eq]); repeat (first | exact Picks.nil _ | exact Pick.here _ _ _ | exact Picks.whole _ _ | exact Picks.whole0 _ | apply Pick.next | apply Pick.under | apply Picks.cons | apply Picks.both | apply Picks.skip1 | apply Picks.skipA)) ?_
              have hx : i = xs.length := (by omega); subst hx; first | exact ⟨_, ps ++ [(_, now)], _, by rw [List.length_append]; (try rfl), by unfold switchL; rw [if_neg (by rw [← hD, ‹dn = false›]; decide), ← hP, List.map_append]; (try rfl), rfl⟩ | exact ⟨_, ps, _, rfl, by unfold switchL; rw [if_pos (by rw [← hD]; assumption)]; exact hP, rfl⟩ | (exfalso; first | contradiction | omega | exact absurd g1 (by assumption) | exact absurd g2 (by assumption))

theorem cy_spec_SwitchTo (xs : List Context) (hn : SmallL xs) (now : Context) (hw : SmallC now) (g : Int) (hA : GoodSwitch xs now g) : ACalls Try.prog 53 [.sl (xs.map eContext), .agg (eContext now), .int .i64 g] [] (Ret (.tup [.sl ((switchL xs now (findC xs g).toNat).map eContext), .agg (eContext (xs.getD (findC xs g).toNat zContext)), .bool true])) :=
  (co_spec_SwitchTo xs hn now hw g hA).freeze (by rintro _ _ ⟨_, _, _, rfl, e0, rfl⟩; rw [← e0]; exact (.tup (.cons (.own2 (by (try simp only [fam_app, fam_one, fam_nil, List.append_assoc, List.cons_append, List.nil_append, List.append_nil, List.append_eq]); repeat (first | exact List.Mem.head _ | apply List.Mem.tail | apply List.mem_append_right)) (List.length_map _) (vwR_ctx (t := 3) (by intro x hx; (try simp only [fam_app, fam_one, fam_nil, List.append_assoc, List.cons_append, List.nil_append, List.append_nil, List.append_eq]); repeat (first | exact hx | exact List.mem_append_left _ hx | apply List.mem_append_right | apply List.mem_cons_of_mem)))) (.cons (.agg (.cons (.refl _) (.cons (.own (by (try simp only [fam_app, fam_one, fam_nil, List.append_assoc, List.cons_append, List.nil_append, List.append_nil, List.append_eq]); repeat (first | exact List.Mem.head _ | apply List.Mem.tail | apply List.mem_append_right)) (List.length_map _)) (.cons (.refl _) (.cons (.refl _) (.cons (.refl _) (.cons (.refl _) (.cons (.refl _) .nil)))))))) (.cons (.refl _) .nil)))))

theorem cn_spec_SwitchTo (xs : List Context) (hn : SmallL xs) (now : Context) (hw : SmallC now) (g : Int) (hA : ¬ GoodSwitch xs now g) : ACalls Try.prog 53 [.sl (xs.map eContext), .agg (eContext now), .int .i64 g] [] (Ret (.tup [.sl ([] : List (List AV)), .agg [.int .i64 0, .nil, .int .i64 0, .bool false, .bool false, .int .i64 0, .int .i64 0], .bool false])) := by
  have hn1 := hn.1
  have hfl := findC_lt xs g
  have hw' : now.regs.words.length ≤ 1048576 := hw
  refine a_enter Try.func53 rfl rfl (fun w0 M0 => ?_)
  refine a_seq ?_
  refine a_region ?_
  refine aops_cons rfl (w_box_v rfl rfl rfl ?_)
  refine aops_cons rfl (w_pure rfl (p_assign rfl) ?_)
  refine aops_cons rfl (w_alloc rfl z_32 fun b1 => ?_)
  refine aops_cons rfl (w_pure rfl (p_assign rfl) ?_)
  refine aops_nil ?_
  refine a_seq ?_
  refine a_region ?_
  refine aops_cons rfl (w_pure rfl (p_move rfl) ?_)
  refine aops_cons rfl (w_pure rfl (p_move rfl) ?_)
  refine aops_cons rfl (w_callR rfl rfl rfl cl_74 (c_spec_l14Find _ (by assumption) _) ?_)
  refine aops_cons rfl (w_pure rfl (p_assign rfl) ?_)
  refine aops_nil ?_
  refine a_seq ?_
  refine a_seq ?_
  refine a_region ?_
  refine aops_cons rfl (w_pure rfl (p_move rfl) ?_)
  refine aops_cons rfl (w_callR rfl rfl rfl cl_68 (c_spec_l14Good _ ‹_›) ?_)
  refine aops_cons rfl (w_pure rfl (p_not rfl) ?_)
  refine aops_cons rfl (w_pure rfl (p_move rfl) ?_)
  first | refine aops_split_d 19 rfl (fun h1 => ?_) (fun h2 => ?_) | refine aops_split 19 rfl (fun h1 => ?_) (fun h2 => ?_)
  · (try simp only [Bool.not_eq_true', Bool.not_eq_false', Bool.not_eq_true, Bool.not_eq_false, decide_eq_true_eq, decide_eq_false_iff_not, List.length_map, List.length_range] at h1)
    refine g_pass' rfl rfl rfl rfl rfl ?_
    refine g_pass' rfl rfl rfl rfl rfl ?_
    refine g_pass' rfl rfl rfl rfl rfl ?_
    refine aops_cons rfl (w_pure rfl (p_pick_t rfl rfl) ?_)
    refine aops_cons rfl (w_pure rfl (p_move rfl) ?_)
    refine g_pass' rfl rfl rfl rfl rfl ?_
    refine g_pass' rfl rfl rfl rfl rfl ?_
    refine g_pass' rfl rfl rfl rfl rfl ?_
    refine g_pass' rfl rfl rfl rfl rfl ?_
    refine g_pass' rfl rfl rfl rfl rfl ?_
    refine aops_cons rfl (w_pure rfl (p_pick_t rfl rfl) ?_)
    refine aops_cons rfl (w_pure rfl (p_move rfl) ?_)
    refine g_pass' rfl rfl rfl rfl rfl ?_
    refine g_pass' rfl rfl rfl rfl rfl ?_
    refine aops_cons rfl (w_pure rfl (p_pick_t rfl rfl) ?_)
    refine aops_nil ?_
    refine a_cond_t rfl ?_
    refine a_seq ?_
    refine a_region ?_
    refine aops_cons rfl (w_lit_vM rowC [] rfl el_44 rfl rfl rfl rfl rfl ?_)
    refine aops_cons rfl (w_pure rfl (p_build (cells := [_, _, _, _, _, _, _]) z_32 pl_32 rfl rfl) ?_)
    refine aops_cons rfl (w_pure rfl (p_assign rfl) ?_)
    refine aops_cons rfl (w_store (cells' := [_, _, _, _, _, _, _]) rfl rfl rfl (by repeat (first | exact Pick.here _ _ _ | apply Pick.next)) cn_32 (by rfl) (by rfl) (by rfl) trivial ?_)
    refine aops_cons rfl (w_pure rfl (p_assign rfl) ?_)
    refine aops_nil ?_
    refine a_ret ?_
    refine ret_ok (hands3 rfl (.tmp rfl) (.cell ag_32 rfl (by repeat (first | exact Pick.here _ _ _ | apply Pick.next)) (by rfl)) (.tmp rfl)) (.nil _) ?_
    exact ⟨rfl, rfl⟩
  · (try simp only [Bool.not_eq_true', Bool.not_eq_false', Bool.not_eq_true, Bool.not_eq_false, decide_eq_true_eq, decide_eq_false_iff_not, List.length_map, List.length_range] at h2)
    refine aops_guard_t rfl rfl rfl (w_pure rfl (p_load_v_all ag_32 rfl (by rfl) noX) ?_)
    refine aops_guard_t rfl rfl rfl (w_callR rfl rfl rfl cl_61 (c_spec_l14One _ (by first | assumption | exact hn.2 _ (by omega))) ?_)
    refine aops_guard_t rfl rfl rfl (w_pure rfl (p_not rfl) ?_)
    refine aops_cons rfl (w_pure rfl (p_pick_f rfl rfl) ?_)
    refine aops_cons rfl (w_pure rfl (p_move rfl) ?_)
    first | refine aops_split_d 24 rfl (fun h3 => ?_) (fun h4 => ?_) | refine aops_split 24 rfl (fun h3 => ?_) (fun h4 => ?_)
    · (try simp only [Bool.not_eq_true', Bool.not_eq_false', Bool.not_eq_true, Bool.not_eq_false, decide_eq_true_eq, decide_eq_false_iff_not, List.length_map, List.length_range] at h3)
      refine g_pass' rfl rfl rfl rfl rfl ?_
      refine g_pass' rfl rfl rfl rfl rfl ?_
      refine g_pass' rfl rfl rfl rfl rfl ?_
      refine g_pass' rfl rfl rfl rfl rfl ?_
      refine g_pass' rfl rfl rfl rfl rfl ?_
      refine aops_cons rfl (w_pure rfl (p_pick_t rfl rfl) ?_)
      refine aops_cons rfl (w_pure rfl (p_move rfl) ?_)
      refine g_pass' rfl rfl rfl rfl rfl ?_
      refine g_pass' rfl rfl rfl rfl rfl ?_
      refine aops_cons rfl (w_pure rfl (p_pick_t rfl rfl) ?_)
      refine aops_nil ?_
      refine a_cond_t rfl ?_
      refine a_seq ?_
      refine a_region ?_
      refine aops_cons rfl (w_lit_vM rowC [] rfl el_44 rfl rfl rfl rfl rfl ?_)
      refine aops_cons rfl (w_pure rfl (p_build (cells := [_, _, _, _, _, _, _]) z_32 pl_32 rfl rfl) ?_)
      refine aops_cons rfl (w_pure rfl (p_assign rfl) ?_)
      refine aops_cons rfl (w_store (cells' := [_, _, _, _, _, _, _]) rfl rfl rfl (by repeat (first | exact Pick.here _ _ _ | apply Pick.next)) cn_32 (by rfl) (by rfl) (by rfl) trivial ?_)
      refine aops_cons rfl (w_pure rfl (p_assign rfl) ?_)
      refine aops_nil ?_
      refine a_ret ?_
      refine ret_ok (hands3 rfl (.tmp rfl) (.cell ag_32 rfl (by repeat (first | exact Pick.here _ _ _ | apply Pick.next)) (by rfl)) (.tmp rfl)) (.nil _) ?_
      exact ⟨rfl, rfl⟩
    · (try simp only [Bool.not_eq_true', Bool.not_eq_false', Bool.not_eq_true, Bool.not_eq_false, decide_eq_true_eq, decide_eq_false_iff_not, List.length_map, List.length_range] at h4)
      refine aops_guard_t rfl rfl rfl (w_pure rfl (p_move rfl) ?_)
      refine aops_guard_t rfl rfl rfl (w_pure rfl (p_field_v fo_32_0 rfl) ?_)
      refine aops_guard_t rfl rfl rfl (w_pure rfl (p_load_v ag_3 rfl (by rfl) noX) ?_)
      refine aops_guard_t rfl rfl rfl (w_callR rfl rfl rfl cl_74 (c_spec_l14Find _ (by assumption) _) ?_)
      refine aops_guard_t rfl rfl rfl (w_pure rfl (p_geq rfl rfl) ?_)
      refine aops_cons rfl (w_pure rfl (p_pick_f rfl rfl) ?_)
      refine aops_cons rfl (w_pure rfl (p_move rfl) ?_)
      first | refine aops_split_d 31 rfl (fun h5 => ?_) (fun h6 => ?_) | refine aops_split 31 rfl (fun h5 => ?_) (fun h6 => ?_)
      · (try simp only [Bool.not_eq_true', Bool.not_eq_false', Bool.not_eq_true, Bool.not_eq_false, decide_eq_true_eq, decide_eq_false_iff_not, List.length_map, List.length_range] at h5)
        refine g_pass' rfl rfl rfl rfl rfl ?_
        refine g_pass' rfl rfl rfl rfl rfl ?_
        refine aops_cons rfl (w_pure rfl (p_pick_t rfl rfl) ?_)
        refine aops_nil ?_
        refine a_cond_t rfl ?_
        refine a_seq ?_
        refine a_region ?_
        refine aops_cons rfl (w_lit_vM rowC [] rfl el_44 rfl rfl rfl rfl rfl ?_)
        refine aops_cons rfl (w_pure rfl (p_build (cells := [_, _, _, _, _, _, _]) z_32 pl_32 rfl rfl) ?_)
        refine aops_cons rfl (w_pure rfl (p_assign rfl) ?_)
        refine aops_cons rfl (w_store (cells' := [_, _, _, _, _, _, _]) rfl rfl rfl (by repeat (first | exact Pick.here _ _ _ | apply Pick.next)) cn_32 (by rfl) (by rfl) (by rfl) trivial ?_)
        refine aops_cons rfl (w_pure rfl (p_assign rfl) ?_)
        refine aops_nil ?_
        refine a_ret ?_
        refine ret_ok (hands3 rfl (.tmp rfl) (.cell ag_32 rfl (by repeat (first | exact Pick.here _ _ _ | apply Pick.next)) (by rfl)) (.tmp rfl)) (.nil _) ?_
        exact ⟨rfl, rfl⟩
      · (try simp only [Bool.not_eq_true', Bool.not_eq_false', Bool.not_eq_true, Bool.not_eq_false, decide_eq_true_eq, decide_eq_false_iff_not, List.length_map, List.length_range] at h6)
        refine aops_guard_t rfl rfl rfl (w_pure rfl (p_move rfl) ?_)
        refine aops_guard_t rfl rfl rfl (w_pure rfl (p_lss rfl rfl) ?_)
        refine aops_cons rfl (w_pure rfl (p_pick_f rfl rfl) ?_)
        refine aops_nil ?_
        first | refine a_cond_d rfl (fun h7 => ?_) (fun h8 => ?_) | refine a_cond_n rfl (fun h7 => ?_) (fun h8 => ?_) | refine a_cond_nb rfl (fun h7 => ?_) (fun h8 => ?_) | refine a_cond rfl (fun h7 => ?_) (fun h8 => ?_)
        · (try simp only [Bool.not_eq_true', Bool.not_eq_false', Bool.not_eq_true, Bool.not_eq_false, decide_eq_true_eq, decide_eq_false_iff_not, List.length_map, List.length_range] at h7)
          refine a_seq ?_
          refine a_region ?_
          refine aops_cons rfl (w_lit_vM rowC [] rfl el_44 rfl rfl rfl rfl rfl ?_)
          refine aops_cons rfl (w_pure rfl (p_build (cells := [_, _, _, _, _, _, _]) z_32 pl_32 rfl rfl) ?_)
          refine aops_cons rfl (w_pure rfl (p_assign rfl) ?_)
          refine aops_cons rfl (w_store (cells' := [_, _, _, _, _, _, _]) rfl rfl rfl (by repeat (first | exact Pick.here _ _ _ | apply Pick.next)) cn_32 (by rfl) (by rfl) (by rfl) trivial ?_)
          refine aops_cons rfl (w_pure rfl (p_assign rfl) ?_)
          refine aops_nil ?_
          refine a_ret ?_
          refine ret_ok (hands3 rfl (.tmp rfl) (.cell ag_32 rfl (by repeat (first | exact Pick.here _ _ _ | apply Pick.next)) (by rfl)) (.tmp rfl)) (.nil _) ?_
          exact ⟨rfl, rfl⟩
        · (try simp only [Bool.not_eq_true', Bool.not_eq_false', Bool.not_eq_true, Bool.not_eq_false, decide_eq_true_eq, decide_eq_false_iff_not, List.length_map, List.length_range] at h8)
          refine a_skip ?_
          refine a_seq ?_
          exact absurd (show GoodSwitch xs now g from ⟨by assumption, by assumption, by omega, by omega⟩) hA

end Go.Proofs.Ytejlhpmmgjfllaa
