/-
  The walks of this part: each theorem is the contract of one function. Condition: none but those that it names.
-/
import Derived.Test.YtdlhpomgmlcfoaaVcpuId
import Derived.Test.YtdlhpomgmlcfoaaVcpuIF
import Derived.Test.YtdlhpomgmlcfoaaVcpuA
import Derived.Test.YtdlhpomgmlcfoaaVcpuB
import Derived.Test.YtdlhpomgmlcfoaaVcpuC
import Derived.Test.YtdlhpomgmlcfoaaVcpuG
import Derived.Test.YtdlhpomgmlcfoaaVcpuH
namespace Go.Proofs.Ytdlhpomgmlcfoaa
open Go Go.Fw Go.Hv
attribute [local irreducible] awp Aops Aop ADraw ADrawAll ACalls
set_option maxRecDepth 4000
set_option linter.unusedSimpArgs false
set_option linter.unusedVariables false













theorem c_impl_isHallOp (h : Hall) (hn : SmallHall h) (o : HallOp) : ACalls Try.prog 64 [.agg (eHall h), .agg (eHallOp o)] [] (Ret (.bool (decide (OpOk h o)))) := by
  have hnn := hn
  obtain ⟨hn1, hn2⟩ := hnn
  refine a_enter Try.func64 rfl rfl (fun w0 M0 => ?_)
  refine a_seq ?_
  refine a_region ?_
  refine aops_cons rfl (w_box_v rfl rfl rfl ?_)
  refine aops_cons rfl (w_box_v rfl rfl rfl ?_)
  refine aops_cons rfl (w_pure rfl (p_assign rfl) ?_)
  refine aops_nil ?_
  refine a_seq ?_
  refine a_seq ?_
  refine a_region ?_
  refine aops_cons rfl (w_pure rfl (p_field_v fo_37_0 rfl) ?_)
  refine aops_cons rfl (w_pure rfl (p_load_v ag_3 rfl (by rfl) noX) ?_)
  refine aops_nil ?_
  refine a_block ?_
  refine a_seq ?_
  refine a_seq ?_
  refine a_region ?_
  refine aops_cons rfl (w_pure rfl (p_eql rfl rfl) ?_)
  refine aops_cons rfl (w_pure rfl (p_assign rfl) ?_)
  refine aops_nil ?_
  first | refine a_cond_d rfl (fun h1 => ?_) (fun h2 => ?_) | refine a_cond_n rfl (fun h1 => ?_) (fun h2 => ?_) | refine a_cond_nb rfl (fun h1 => ?_) (fun h2 => ?_) | refine a_cond rfl (fun h1 => ?_) (fun h2 => ?_)
  · (try simp only [Bool.not_eq_true', Bool.not_eq_false', Bool.not_eq_true, Bool.not_eq_false, decide_eq_true_eq, decide_eq_false_iff_not, List.length_map, List.length_range] at h1)
    refine a_skip ?_
    first | refine a_cond_d rfl (fun h3 => ?_) (fun h4 => ?_) | refine a_cond_n rfl (fun h3 => ?_) (fun h4 => ?_) | refine a_cond_nb rfl (fun h3 => ?_) (fun h4 => ?_) | refine a_cond rfl (fun h3 => ?_) (fun h4 => ?_)
    · (try simp only [Bool.not_eq_true', Bool.not_eq_false', Bool.not_eq_true, Bool.not_eq_false, decide_eq_true_eq, decide_eq_false_iff_not, List.length_map, List.length_range] at h3)
      refine a_seq ?_
      refine a_region ?_
      refine aops_cons rfl (w_pure rfl (p_field_v fo_27_0 rfl) ?_)
      refine aops_cons rfl (w_pure rfl (p_load_v ag_24 rfl (by rfl) noX) ?_)
      refine aops_cons rfl (w_pure rfl (p_field_v fo_37_1 rfl) ?_)
      refine aops_cons rfl (w_pure rfl (p_load_v ag_3 rfl (by rfl) noX) ?_)
      refine aops_cons rfl (w_callR rfl rfl rfl cl_38 (c_impl_vcpuIndex _ (by omega) _) ?_)
      refine aops_cons rfl (w_pure rfl (p_geq rfl rfl) ?_)
      refine aops_cons rfl (w_pure rfl (p_assign rfl) ?_)
      refine aops_nil ?_
      refine a_ret ?_
      refine ret_ok (hands1 rfl (.tmp rfl)) (.nil _) ?_
      first | (refine ret_dec ?_; unfold OpOk; constructor; (intro q; exact .inl ⟨by omega, q⟩); (rintro (⟨q1, q2⟩ | ⟨q1, q2⟩); (exact q2); (exfalso; omega))) | (refine ret_dec ?_; unfold OpOk; constructor; (intro q; exact .inr ⟨by omega, q⟩); (rintro (⟨q1, q2⟩ | ⟨q1, q2⟩); (exfalso; omega); (exact q2))) | (refine ret_false ?_; unfold OpOk; rintro (⟨q1, q2⟩ | ⟨q1, q2⟩) <;> omega)
    · (try simp only [Bool.not_eq_true', Bool.not_eq_false', Bool.not_eq_true, Bool.not_eq_false, decide_eq_true_eq, decide_eq_false_iff_not, List.length_map, List.length_range] at h4)
      refine a_skip ?_
      refine a_seq ?_
      refine a_region ?_
      refine aops_cons rfl (w_pure rfl (p_field_v fo_37_0 rfl) ?_)
      refine aops_cons rfl (w_pure rfl (p_load_v ag_3 rfl (by rfl) noX) ?_)
      refine aops_cons rfl (w_pure rfl (p_eql rfl rfl) ?_)
      refine aops_cons rfl (w_pure rfl (p_move rfl) ?_)
      first | refine aops_split_d 19 rfl (fun h5 => ?_) (fun h6 => ?_) | refine aops_split 19 rfl (fun h5 => ?_) (fun h6 => ?_)
      · (try simp only [Bool.not_eq_true', Bool.not_eq_false', Bool.not_eq_true, Bool.not_eq_false, decide_eq_true_eq, decide_eq_false_iff_not, List.length_map, List.length_range] at h5)
        refine aops_guard_t rfl rfl rfl (w_pure rfl (p_field_v fo_37_1 rfl) ?_)
        refine aops_guard_t rfl rfl rfl (w_pure rfl (p_load_v ag_3 rfl (by rfl) noX) ?_)
        refine aops_guard_t rfl rfl rfl (w_pure rfl (p_eql rfl rfl) ?_)
        refine aops_cons rfl (w_pure rfl (p_pick_t rfl rfl) ?_)
        refine aops_cons rfl (w_pure rfl (p_assign rfl) ?_)
        refine aops_nil ?_
        refine a_ret ?_
        refine ret_ok (hands1 rfl (.tmp rfl)) (.nil _) ?_
        first | (refine ret_dec ?_; unfold OpOk; constructor; (intro q; exact .inl ⟨by omega, q⟩); (rintro (⟨q1, q2⟩ | ⟨q1, q2⟩); (exact q2); (exfalso; omega))) | (refine ret_dec ?_; unfold OpOk; constructor; (intro q; exact .inr ⟨by omega, q⟩); (rintro (⟨q1, q2⟩ | ⟨q1, q2⟩); (exfalso; omega); (exact q2))) | (refine ret_false ?_; unfold OpOk; rintro (⟨q1, q2⟩ | ⟨q1, q2⟩) <;> omega)
      · (try simp only [Bool.not_eq_true', Bool.not_eq_false', Bool.not_eq_true, Bool.not_eq_false, decide_eq_true_eq, decide_eq_false_iff_not, List.length_map, List.length_range] at h6)
        refine g_pass' rfl rfl rfl rfl rfl ?_
        refine g_pass' rfl rfl rfl rfl rfl ?_
        refine g_pass' rfl rfl rfl rfl rfl ?_
        refine aops_cons rfl (w_pure rfl (p_pick_f rfl rfl) ?_)
        refine aops_cons rfl (w_pure rfl (p_assign rfl) ?_)
        refine aops_nil ?_
        refine a_ret ?_
        refine ret_ok (hands1 rfl (.tmp rfl)) (.nil _) ?_
        first | (refine ret_dec ?_; unfold OpOk; constructor; (intro q; exact .inl ⟨by omega, q⟩); (rintro (⟨q1, q2⟩ | ⟨q1, q2⟩); (exact q2); (exfalso; omega))) | (refine ret_dec ?_; unfold OpOk; constructor; (intro q; exact .inr ⟨by omega, q⟩); (rintro (⟨q1, q2⟩ | ⟨q1, q2⟩); (exfalso; omega); (exact q2))) | (refine ret_false ?_; unfold OpOk; rintro (⟨q1, q2⟩ | ⟨q1, q2⟩) <;> omega)
  · (try simp only [Bool.not_eq_true', Bool.not_eq_false', Bool.not_eq_true, Bool.not_eq_false, decide_eq_true_eq, decide_eq_false_iff_not, List.length_map, List.length_range] at h2)
    refine a_region ?_
    refine aops_cons rfl (w_pure rfl (p_eql rfl rfl) ?_)
    refine aops_cons rfl (w_pure rfl (p_assign rfl) ?_)
    refine aops_nil ?_
    first | refine a_cond_d rfl (fun h7 => ?_) (fun h8 => ?_) | refine a_cond_n rfl (fun h7 => ?_) (fun h8 => ?_) | refine a_cond_nb rfl (fun h7 => ?_) (fun h8 => ?_) | refine a_cond rfl (fun h7 => ?_) (fun h8 => ?_)
    · (try simp only [Bool.not_eq_true', Bool.not_eq_false', Bool.not_eq_true, Bool.not_eq_false, decide_eq_true_eq, decide_eq_false_iff_not, List.length_map, List.length_range] at h7)
      refine a_seq ?_
      refine a_region ?_
      refine aops_cons rfl (w_pure rfl (p_field_v fo_27_0 rfl) ?_)
      refine aops_cons rfl (w_pure rfl (p_load_v ag_24 rfl (by rfl) noX) ?_)
      refine aops_cons rfl (w_pure rfl (p_field_v fo_37_1 rfl) ?_)
      refine aops_cons rfl (w_pure rfl (p_load_v ag_3 rfl (by rfl) noX) ?_)
      refine aops_cons rfl (w_callR rfl rfl rfl cl_38 (c_impl_vcpuIndex _ (by omega) _) ?_)
      refine aops_cons rfl (w_pure rfl (p_geq rfl rfl) ?_)
      refine aops_cons rfl (w_pure rfl (p_assign rfl) ?_)
      refine aops_nil ?_
      refine a_ret ?_
      refine ret_ok (hands1 rfl (.tmp rfl)) (.nil _) ?_
      first | (refine ret_dec ?_; unfold OpOk; constructor; (intro q; exact .inl ⟨by omega, q⟩); (rintro (⟨q1, q2⟩ | ⟨q1, q2⟩); (exact q2); (exfalso; omega))) | (refine ret_dec ?_; unfold OpOk; constructor; (intro q; exact .inr ⟨by omega, q⟩); (rintro (⟨q1, q2⟩ | ⟨q1, q2⟩); (exfalso; omega); (exact q2))) | (refine ret_false ?_; unfold OpOk; rintro (⟨q1, q2⟩ | ⟨q1, q2⟩) <;> omega)
    · (try simp only [Bool.not_eq_true', Bool.not_eq_false', Bool.not_eq_true, Bool.not_eq_false, decide_eq_true_eq, decide_eq_false_iff_not, List.length_map, List.length_range] at h8)
      refine a_skip ?_
      refine a_seq ?_
      refine a_region ?_
      refine aops_cons rfl (w_pure rfl (p_field_v fo_37_0 rfl) ?_)
      refine aops_cons rfl (w_pure rfl (p_load_v ag_3 rfl (by rfl) noX) ?_)
      refine aops_cons rfl (w_pure rfl (p_eql rfl rfl) ?_)
      refine aops_cons rfl (w_pure rfl (p_move rfl) ?_)
      first | refine aops_split_d 19 rfl (fun h9 => ?_) (fun h10 => ?_) | refine aops_split 19 rfl (fun h9 => ?_) (fun h10 => ?_)
      · (try simp only [Bool.not_eq_true', Bool.not_eq_false', Bool.not_eq_true, Bool.not_eq_false, decide_eq_true_eq, decide_eq_false_iff_not, List.length_map, List.length_range] at h9)
        refine aops_guard_t rfl rfl rfl (w_pure rfl (p_field_v fo_37_1 rfl) ?_)
        refine aops_guard_t rfl rfl rfl (w_pure rfl (p_load_v ag_3 rfl (by rfl) noX) ?_)
        refine aops_guard_t rfl rfl rfl (w_pure rfl (p_eql rfl rfl) ?_)
        refine aops_cons rfl (w_pure rfl (p_pick_t rfl rfl) ?_)
        refine aops_cons rfl (w_pure rfl (p_assign rfl) ?_)
        refine aops_nil ?_
        refine a_ret ?_
        refine ret_ok (hands1 rfl (.tmp rfl)) (.nil _) ?_
        first | (refine ret_dec ?_; unfold OpOk; constructor; (intro q; exact .inl ⟨by omega, q⟩); (rintro (⟨q1, q2⟩ | ⟨q1, q2⟩); (exact q2); (exfalso; omega))) | (refine ret_dec ?_; unfold OpOk; constructor; (intro q; exact .inr ⟨by omega, q⟩); (rintro (⟨q1, q2⟩ | ⟨q1, q2⟩); (exfalso; omega); (exact q2))) | (refine ret_false ?_; unfold OpOk; rintro (⟨q1, q2⟩ | ⟨q1, q2⟩) <;> omega)
      · (try simp only [Bool.not_eq_true', Bool.not_eq_false', Bool.not_eq_true, Bool.not_eq_false, decide_eq_true_eq, decide_eq_false_iff_not, List.length_map, List.length_range] at h10)
        refine g_pass' rfl rfl rfl rfl rfl ?_
        refine g_pass' rfl rfl rfl rfl rfl ?_
        refine g_pass' rfl rfl rfl rfl rfl ?_
        refine aops_cons rfl (w_pure rfl (p_pick_f rfl rfl) ?_)
        refine aops_cons rfl (w_pure rfl (p_assign rfl) ?_)
        refine aops_nil ?_
        refine a_ret ?_
        refine ret_ok (hands1 rfl (.tmp rfl)) (.nil _) ?_
        first | (refine ret_dec ?_; unfold OpOk; constructor; (intro q; exact .inl ⟨by omega, q⟩); (rintro (⟨q1, q2⟩ | ⟨q1, q2⟩); (exact q2); (exfalso; omega))) | (refine ret_dec ?_; unfold OpOk; constructor; (intro q; exact .inr ⟨by omega, q⟩); (rintro (⟨q1, q2⟩ | ⟨q1, q2⟩); (exfalso; omega); (exact q2))) | (refine ret_false ?_; unfold OpOk; rintro (⟨q1, q2⟩ | ⟨q1, q2⟩) <;> omega)

theorem c_impl_runHall_1 (h : Hall) (hn : SmallHall h) (o : HallOp) : ACalls Try.prog 63 [.agg (eHallOp o), .vptr (eHall h)] [] (Ret (.bool (!decide (OpOk h o)))) := by
  refine a_enter Try.func63 rfl rfl (fun w0 M0 => ?_)
  refine a_seq ?_
  refine a_region ?_
  refine aops_cons rfl (w_box_v rfl rfl rfl ?_)
  refine aops_cons rfl (w_pure rfl (p_assign rfl) ?_)
  refine aops_nil ?_
  refine a_seq ?_
  refine a_region ?_
  refine aops_cons rfl (w_pure rfl (p_load_v_all ag_27 rfl (by rfl) noX) ?_)
  refine aops_cons rfl (w_pure rfl (p_load_v_all ag_37 rfl (by rfl) noX) ?_)
  refine aops_cons rfl (w_callR rfl rfl rfl cl_64 (c_impl_isHallOp h (by assumption) o) ?_)
  refine aops_cons rfl (w_pure rfl (p_not rfl) ?_)
  refine aops_cons rfl (w_pure rfl (p_assign rfl) ?_)
  refine aops_nil ?_
  refine a_ret ?_
  refine ret_ok (hands1 rfl (.tmp rfl)) (.nil _) ?_
  exact ⟨rfl, rfl⟩

theorem c_slices_IndexFunc_impl_HallOp_impl_HallOp (h : Hall) (hn : SmallHall h) (ops : List HallOp) (hm : ops.length ≤ 1048576) : ACalls Try.prog 80 [.sl (ops.map eHallOp), .fn 63 [.vptr (eHall h)]] [] (Ret (.int .i64 (first (badOp h ops) ops.length))) := by
  refine a_enter Try.func80 rfl rfl (fun w0 M0 => ?_)
  refine a_seq ?_
  refine a_region ?_
  refine aops_cons rfl (w_pure rfl (p_assign rfl) ?_)
  refine aops_nil ?_
  refine a_seq ?_
  refine a_seq ?_
  refine a_region ?_
  refine aops_cons rfl (w_pure rfl (p_move rfl) ?_)
  refine aops_cons rfl (w_pure rfl (p_len sl_28 rfl rfl) ?_)
  refine aops_cons rfl (w_pure rfl (p_move rfl) ?_)
  refine aops_nil ?_
  refine a_block ?_
  refine a_loop (ι := Nat) (fun i => i ≤ ops.length ∧ ∀ j, j < i → badOp h ops j = false) (fun i => [(8, .int .i64 (i : Int))]) (fun i => []) (fun i => ops.length - i) 0 ⟨Nat.zero_le _, below_zero⟩ (by repeat (first | exact Knows.nil | refine Knows.cons (by rfl) ?_)) (by repeat (first | exact Picks.nil _ | exact Pick.here _ _ _ | apply Pick.next | apply Picks.cons)) ?_
  rintro i ⟨hi, hI⟩
  skip
  refine a_seq ?_
  refine a_region ?_
  refine aops_cons rfl (w_pure rfl (p_lss rfl rfl) ?_)
  refine aops_nil ?_
  refine a_seq ?_
  first | refine a_cond_d rfl (fun h1 => ?_) (fun h2 => ?_) | refine a_cond_n rfl (fun h1 => ?_) (fun h2 => ?_) | refine a_cond_nb rfl (fun h1 => ?_) (fun h2 => ?_) | refine a_cond rfl (fun h1 => ?_) (fun h2 => ?_)
  · (try simp only [Bool.not_eq_true', Bool.not_eq_false', Bool.not_eq_true, Bool.not_eq_false, decide_eq_true_eq, decide_eq_false_iff_not, List.length_map, List.length_range] at h1)
    refine a_skip ?_
    refine a_seq ?_
    refine a_block ?_
    refine a_seq ?_
    refine a_region ?_
    refine aops_cons rfl (w_pure rfl (p_move rfl) ?_)
    refine aops_cons rfl (w_pure rfl (p_assign rfl) ?_)
    refine aops_nil ?_
    refine a_seq ?_
    refine a_region ?_
    refine aops_cons rfl (w_pure rfl (p_move rfl) ?_)
    refine aops_cons rfl (w_pure rfl (p_move rfl) ?_)
    refine aops_cons rfl (w_pure rfl (p_move rfl) ?_)
    refine aops_cons rfl (w_pure rfl (p_index_sl _ rfl rfl rfl (rowD _ _ zHallOp (by omega)) es_28) ?_)
    refine aops_cons rfl (w_pure rfl (p_load_v_all ag_37 rfl (by rfl) noX) ?_)
    refine aops_cons rfl (w_callR rfl rfl rfl cl_63 (c_impl_runHall_1 h (by assumption) (ops.getD i zHallOp)) ?_)
    refine aops_nil ?_
    first | refine a_cond_d rfl (fun h3 => ?_) (fun h4 => ?_) | refine a_cond_n rfl (fun h3 => ?_) (fun h4 => ?_) | refine a_cond_nb rfl (fun h3 => ?_) (fun h4 => ?_) | refine a_cond rfl (fun h3 => ?_) (fun h4 => ?_)
    · (try simp only [Bool.not_eq_true', Bool.not_eq_false', Bool.not_eq_true, Bool.not_eq_false, decide_eq_true_eq, decide_eq_false_iff_not, List.length_map, List.length_range] at h3)
      refine a_seq ?_
      refine a_region ?_
      refine aops_cons rfl (w_pure rfl (p_move rfl) ?_)
      refine aops_cons rfl (w_pure rfl (p_assign rfl) ?_)
      refine aops_nil ?_
      refine a_ret ?_
      refine ret_ok (hands1 rfl (.tmp rfl)) (.nil _) ?_
      first | (refine And.intro (congrArg (AV.int .i64) (first_none fun j hj => ?_).symm) rfl; exact hI j (by omega)) | (refine And.intro (congrArg (AV.int .i64) (first_at (i := i) (by omega) hI (show badOp h ops i = true by unfold badOp; rw [decide_eq_false (by assumption)]; rfl)).symm) rfl)
    · (try simp only [Bool.not_eq_true', Bool.not_eq_false', Bool.not_eq_true, Bool.not_eq_false, decide_eq_true_eq, decide_eq_false_iff_not, List.length_map, List.length_range] at h4)
      refine a_skip ?_
      refine a_region ?_
      refine aops_cons rfl (w_pure rfl (p_add' rfl rfl ⟨by omega, by omega⟩) ?_)
      refine aops_cons rfl (w_pure rfl (p_move rfl) ?_)
      refine aops_nil ?_
      refine ⟨(i + 1), _, ?_, ?_, (by repeat (first | exact Knows.nil | refine Knows.cons (by rfl) ?_)), (by repeat (first | exact Back.refl _ _ | refine Back.cons (by rfl) ?_)), (by repeat (first | exact Picks.nil _ | exact Pick.here _ _ _ | apply Pick.next | apply Picks.cons))⟩
      · exact ⟨by omega, below_succ hI (show badOp h ops i = false by unfold badOp; rw [decide_eq_true (by assumption)]; rfl)⟩
      · (try dsimp only); omega
  · (try simp only [Bool.not_eq_true', Bool.not_eq_false', Bool.not_eq_true, Bool.not_eq_false, decide_eq_true_eq, decide_eq_false_iff_not, List.length_map, List.length_range] at h2)
    refine a_exit ?_
    refine a_seq ?_
    refine a_region ?_
    refine aops_cons rfl (w_pure rfl (p_assign rfl) ?_)
    refine aops_nil ?_
    refine a_ret ?_
    refine ret_ok (hands1 rfl (.tmp rfl)) (.nil _) ?_
    first | (refine And.intro (congrArg (AV.int .i64) (first_none fun j hj => ?_).symm) rfl; exact hI j (by omega)) | (refine And.intro (congrArg (AV.int .i64) (first_at (i := i) (by omega) hI (show badOp h ops i = true by unfold badOp; rw [decide_eq_false (by assumption)]; rfl)).symm) rfl)

theorem c_slices_ContainsFunc_impl_HallOp_impl_HallOp (h : Hall) (hn : SmallHall h) (ops : List HallOp) (hm : ops.length ≤ 1048576) : ACalls Try.prog 62 [.sl (ops.map eHallOp), .fn 63 [.vptr (eHall h)]] [] (Ret (.bool (decide (0 ≤ first (badOp h ops) ops.length)))) := by
  refine a_enter Try.func62 rfl rfl (fun w0 M0 => ?_)
  refine a_seq ?_
  refine a_region ?_
  refine aops_cons rfl (w_pure rfl (p_assign rfl) ?_)
  refine aops_nil ?_
  refine a_seq ?_
  refine a_region ?_
  refine aops_cons rfl (w_pure rfl (p_move rfl) ?_)
  refine aops_cons rfl (w_pure rfl (p_move rfl) ?_)
  refine aops_cons rfl (w_callR rfl rfl rfl cl_80 (c_slices_IndexFunc_impl_HallOp_impl_HallOp h (by assumption) _ (by omega)) ?_)
  refine aops_cons rfl (w_pure rfl (p_geq rfl rfl) ?_)
  refine aops_cons rfl (w_pure rfl (p_assign rfl) ?_)
  refine aops_nil ?_
  refine a_ret ?_
  refine ret_ok (hands1 rfl (.tmp rfl)) (.nil _) ?_
  exact ⟨rfl, rfl⟩

theorem c_spec_l15Ops (h : Hall) (hn : SmallHall h) (ops : List HallOp) (hm : ops.length ≤ 1048576) : ACalls Try.prog 34 [.agg (eHall h), .sl (ops.map eHallOp)] [] (Ret (.bool (decide (GoodOps h ops)))) := by
  have hnn := hn
  obtain ⟨hn1, hn2⟩ := hnn
  refine a_enter Try.func34 rfl rfl (fun w0 M0 => ?_)
  refine a_seq ?_
  refine a_region ?_
  refine aops_cons rfl (w_box_v rfl rfl rfl ?_)
  refine aops_cons rfl (w_pure rfl (p_assign rfl) ?_)
  refine aops_nil ?_
  refine a_seq ?_
  refine a_seq ?_
  refine a_region ?_
  refine aops_cons rfl (w_pure rfl (p_assign rfl) ?_)
  refine aops_nil ?_
  refine a_block ?_
  refine a_loop (ι := Nat) (fun i => i ≤ ops.length ∧ ∀ j, j < i → OpOk2 h (ops.getD j zHallOp)) (fun i => [(5, .int .i64 (i : Int))]) (fun i => []) (fun i => ops.length - i) 0 ⟨Nat.zero_le _, below_zero⟩ (by repeat (first | exact Knows.nil | refine Knows.cons (by rfl) ?_)) (by repeat (first | exact Picks.nil _ | exact Pick.here _ _ _ | apply Pick.next | apply Picks.cons)) ?_
  rintro i ⟨hi, hI⟩
  skip
  refine a_seq ?_
  refine a_seq ?_
  refine a_region ?_
  refine aops_cons rfl (w_pure rfl (p_move rfl) ?_)
  refine aops_cons rfl (w_pure rfl (p_move rfl) ?_)
  refine aops_cons rfl (w_pure rfl (p_len sl_28 rfl rfl) ?_)
  refine aops_cons rfl (w_pure rfl (p_lss rfl rfl) ?_)
  refine aops_nil ?_
  first | refine a_cond_d rfl (fun h1 => ?_) (fun h2 => ?_) | refine a_cond_n rfl (fun h1 => ?_) (fun h2 => ?_) | refine a_cond_nb rfl (fun h1 => ?_) (fun h2 => ?_) | refine a_cond rfl (fun h1 => ?_) (fun h2 => ?_)
  · (try simp only [Bool.not_eq_true', Bool.not_eq_false', Bool.not_eq_true, Bool.not_eq_false, decide_eq_true_eq, decide_eq_false_iff_not, List.length_map, List.length_range] at h1); (try simp only [bne_iff_ne, ne_eq, bne_eq_false_iff_eq, decide_eq_decide, beq_iff_eq] at h1)
    refine a_skip ?_
    refine a_seq ?_
    refine a_block ?_
    refine a_seq ?_
    refine a_region ?_
    refine aops_cons rfl (w_pure rfl (p_move rfl) ?_)
    refine aops_cons rfl (w_pure rfl (p_move rfl) ?_)
    refine aops_cons rfl (w_pure rfl (p_index_sl _ rfl rfl rfl (rowD _ _ zHallOp (by omega)) es_28) ?_)
    refine aops_cons rfl (w_pure rfl (p_load_v_all ag_37 rfl (by rfl) noX) ?_)
    refine aops_cons rfl (w_alloc rfl z_37 fun b1 => ?_)
    refine aops_cons rfl (w_store (cells' := [_, _]) rfl rfl rfl (by repeat (first | exact Pick.here _ _ _ | apply Pick.next)) cn_37 (by rfl) (by rfl) (by rfl) trivial ?_)
    refine aops_nil ?_
    refine a_seq ?_
    refine a_region ?_
    refine aops_cons rfl (w_pure rfl (p_field_box fo_37_0 rfl) ?_)
    refine aops_cons rfl (w_pure rfl (p_load_box ag_3 rfl (by repeat (first | exact Pick.here _ _ _ | apply Pick.next)) (by rfl) noX) ?_)
    refine aops_cons rfl (w_callR rfl rfl rfl cl_65 (c_spec_l1In ..) ?_)
    refine aops_cons rfl (w_pure rfl (p_not rfl) ?_)
    refine aops_cons rfl (w_pure rfl (p_move rfl) ?_)
    first | refine aops_split_d 21 rfl (fun h3 => ?_) (fun h4 => ?_) | refine aops_split 21 rfl (fun h3 => ?_) (fun h4 => ?_)
    · (try simp only [Bool.not_eq_true', Bool.not_eq_false', Bool.not_eq_true, Bool.not_eq_false, decide_eq_true_eq, decide_eq_false_iff_not, List.length_map, List.length_range] at h3); (try simp only [bne_iff_ne, ne_eq, bne_eq_false_iff_eq, decide_eq_decide, beq_iff_eq] at h3)
      refine g_pass' rfl rfl rfl rfl rfl ?_
      refine g_pass' rfl rfl rfl rfl rfl ?_
      refine g_pass' rfl rfl rfl rfl rfl ?_
      refine g_pass' rfl rfl rfl rfl rfl ?_
      refine g_pass' rfl rfl rfl rfl rfl ?_
      refine g_pass' rfl rfl rfl rfl rfl ?_
      refine g_pass' rfl rfl rfl rfl rfl ?_
      refine aops_cons rfl (w_pure rfl (p_pick_t rfl rfl) ?_)
      refine aops_cons rfl (w_pure rfl (p_move rfl) ?_)
      refine g_pass' rfl rfl rfl rfl rfl ?_
      refine g_pass' rfl rfl rfl rfl rfl ?_
      refine g_pass' rfl rfl rfl rfl rfl ?_
      refine g_pass' rfl rfl rfl rfl rfl ?_
      refine g_pass_u rfl rfl rfl rfl rfl ?_
      refine g_pass_u rfl rfl rfl rfl rfl ?_
      refine g_pass_u rfl rfl rfl rfl rfl ?_
      refine g_pass_u rfl rfl rfl rfl rfl ?_
      refine g_pass_u rfl rfl rfl rfl rfl ?_
      refine g_pass' rfl rfl rfl rfl rfl ?_
      refine aops_cons rfl (w_pure rfl (p_pick_t rfl rfl) ?_)
      refine aops_nil ?_
      refine a_cond_t rfl ?_
      refine a_seq ?_
      refine a_region ?_
      refine aops_cons rfl (w_pure rfl (p_assign rfl) ?_)
      refine aops_nil ?_
      refine a_ret ?_
      refine ret_ok (hands1 rfl (.tmp rfl)) (.nil _) ?_
      first | (refine ret_false ?_; exact goodOps_not (i := i) (by omega) (by unfold OpOk2; omega)) | (refine ret_false ?_; exact fun g => absurd g.1 (by assumption)) | (refine ret_dec ?_; simp only [List.length_map]; exact ⟨fun q => goodOps_of (by assumption) (by omega) (below_all hI (by omega)), fun g => by have := g.2.1; omega⟩)
    · (try simp only [Bool.not_eq_true', Bool.not_eq_false', Bool.not_eq_true, Bool.not_eq_false, decide_eq_true_eq, decide_eq_false_iff_not, List.length_map, List.length_range] at h4); (try simp only [bne_iff_ne, ne_eq, bne_eq_false_iff_eq, decide_eq_decide, beq_iff_eq] at h4)
      refine aops_guard_t rfl rfl rfl (w_pure rfl (p_field_box fo_37_0 rfl) ?_)
      refine aops_guard_t rfl rfl rfl (w_pure rfl (p_load_box ag_3 rfl (by repeat (first | exact Pick.here _ _ _ | apply Pick.next)) (by rfl) noX) ?_)
      refine aops_guard_t rfl rfl rfl (w_pure rfl (p_eql rfl rfl) ?_)
      refine aops_guard_t rfl rfl rfl (w_pure rfl (p_field_box fo_37_1 rfl) ?_)
      refine aops_guard_t rfl rfl rfl (w_pure rfl (p_load_box ag_3 rfl (by repeat (first | exact Pick.here _ _ _ | apply Pick.next)) (by rfl) noX) ?_)
      refine aops_guard_t rfl rfl rfl (w_pure rfl (p_eql rfl rfl) ?_)
      refine aops_guard_t rfl rfl rfl (w_pure rfl (p_neq_b um_4 rfl rfl) ?_)
      refine aops_cons rfl (w_pure rfl (p_pick_f rfl rfl) ?_)
      refine aops_cons rfl (w_pure rfl (p_move rfl) ?_)
      first | refine aops_split_d 30 rfl (fun h5 => ?_) (fun h6 => ?_) | refine aops_split 30 rfl (fun h5 => ?_) (fun h6 => ?_)
      · (try simp only [Bool.not_eq_true', Bool.not_eq_false', Bool.not_eq_true, Bool.not_eq_false, decide_eq_true_eq, decide_eq_false_iff_not, List.length_map, List.length_range] at h5); (try simp only [bne_iff_ne, ne_eq, bne_eq_false_iff_eq, decide_eq_decide, beq_iff_eq] at h5)
        refine g_pass' rfl rfl rfl rfl rfl ?_
        refine g_pass' rfl rfl rfl rfl rfl ?_
        refine g_pass' rfl rfl rfl rfl rfl ?_
        refine g_pass' rfl rfl rfl rfl rfl ?_
        refine g_pass_u rfl rfl rfl rfl rfl ?_
        refine g_pass_u rfl rfl rfl rfl rfl ?_
        refine g_pass_u rfl rfl rfl rfl rfl ?_
        refine g_pass_u rfl rfl rfl rfl rfl ?_
        refine g_pass_u rfl rfl rfl rfl rfl ?_
        refine g_pass' rfl rfl rfl rfl rfl ?_
        refine aops_cons rfl (w_pure rfl (p_pick_t rfl rfl) ?_)
        refine aops_nil ?_
        refine a_cond_t rfl ?_
        refine a_seq ?_
        refine a_region ?_
        refine aops_cons rfl (w_pure rfl (p_assign rfl) ?_)
        refine aops_nil ?_
        refine a_ret ?_
        refine ret_ok (hands1 rfl (.tmp rfl)) (.nil _) ?_
        first | (refine ret_false ?_; exact goodOps_not (i := i) (by omega) (by unfold OpOk2; omega)) | (refine ret_false ?_; exact fun g => absurd g.1 (by assumption)) | (refine ret_dec ?_; simp only [List.length_map]; exact ⟨fun q => goodOps_of (by assumption) (by omega) (below_all hI (by omega)), fun g => by have := g.2.1; omega⟩)
      · (try simp only [Bool.not_eq_true', Bool.not_eq_false', Bool.not_eq_true, Bool.not_eq_false, decide_eq_true_eq, decide_eq_false_iff_not, List.length_map, List.length_range] at h6); (try simp only [bne_iff_ne, ne_eq, bne_eq_false_iff_eq, decide_eq_decide, beq_iff_eq] at h6)
        refine aops_guard_t rfl rfl rfl (w_pure rfl (p_field_box fo_37_1 rfl) ?_)
        refine aops_guard_t rfl rfl rfl (w_pure rfl (p_load_box ag_3 rfl (by repeat (first | exact Pick.here _ _ _ | apply Pick.next)) (by rfl) noX) ?_)
        refine aops_guard_t rfl rfl rfl (w_pure rfl (p_neq rfl rfl) ?_)
        refine aops_guard_t rfl rfl rfl (w_pure rfl (p_move rfl) ?_)
        first | refine aops_split_d 34 rfl (fun h7 => ?_) (fun h8 => ?_) | refine aops_split 34 rfl (fun h7 => ?_) (fun h8 => ?_)
        · (try simp only [Bool.not_eq_true', Bool.not_eq_false', Bool.not_eq_true, Bool.not_eq_false, decide_eq_true_eq, decide_eq_false_iff_not, List.length_map, List.length_range] at h7); (try simp only [bne_iff_ne, ne_eq, bne_eq_false_iff_eq, decide_eq_decide, beq_iff_eq] at h7)
          refine aops_guard_t rfl rfl rfl (w_pure rfl (p_load_v_all ag_27 rfl (by rfl) noX) ?_)
          refine aops_guard_t rfl rfl rfl (w_pure rfl (p_field_box fo_37_1 rfl) ?_)
          refine aops_guard_t rfl rfl rfl (w_pure rfl (p_load_box ag_3 rfl (by repeat (first | exact Pick.here _ _ _ | apply Pick.next)) (by rfl) noX) ?_)
          refine aops_guard_t rfl rfl rfl (w_callR rfl rfl rfl cl_45 (c_spec_l15Find h (by assumption) _) ?_)
          refine aops_guard_t rfl rfl rfl (w_pure rfl (p_lss rfl rfl) ?_)
          refine aops_guard_t rfl rfl rfl (w_pure rfl (p_pick_t rfl rfl) ?_)
          refine aops_cons rfl (w_pure rfl (p_pick_f rfl rfl) ?_)
          refine aops_nil ?_
          first | refine a_cond_d rfl (fun h9 => ?_) (fun h10 => ?_) | refine a_cond_n rfl (fun h9 => ?_) (fun h10 => ?_) | refine a_cond_nb rfl (fun h9 => ?_) (fun h10 => ?_) | refine a_cond rfl (fun h9 => ?_) (fun h10 => ?_)
          · (try simp only [Bool.not_eq_true', Bool.not_eq_false', Bool.not_eq_true, Bool.not_eq_false, decide_eq_true_eq, decide_eq_false_iff_not, List.length_map, List.length_range] at h9); (try simp only [bne_iff_ne, ne_eq, bne_eq_false_iff_eq, decide_eq_decide, beq_iff_eq] at h9)
            refine a_seq ?_
            refine a_region ?_
            refine aops_cons rfl (w_pure rfl (p_assign rfl) ?_)
            refine aops_nil ?_
            refine a_ret ?_
            refine ret_ok (hands1 rfl (.tmp rfl)) (.nil _) ?_
            first | (refine ret_false ?_; exact goodOps_not (i := i) (by omega) (by unfold OpOk2; omega)) | (refine ret_false ?_; exact fun g => absurd g.1 (by assumption)) | (refine ret_dec ?_; simp only [List.length_map]; exact ⟨fun q => goodOps_of (by assumption) (by omega) (below_all hI (by omega)), fun g => by have := g.2.1; omega⟩)
          · (try simp only [Bool.not_eq_true', Bool.not_eq_false', Bool.not_eq_true, Bool.not_eq_false, decide_eq_true_eq, decide_eq_false_iff_not, List.length_map, List.length_range] at h10); (try simp only [bne_iff_ne, ne_eq, bne_eq_false_iff_eq, decide_eq_decide, beq_iff_eq] at h10)
            refine a_skip ?_
            refine a_region ?_
            refine aops_cons rfl (w_pure rfl (p_move rfl) ?_)
            refine aops_cons rfl (w_pure rfl (p_add' rfl rfl ⟨by omega, by omega⟩) ?_)
            refine aops_cons rfl (w_pure rfl (p_assign rfl) ?_)
            refine aops_nil ?_
            refine ⟨(i + 1), _, ?_, ?_, (by repeat (first | exact Knows.nil | refine Knows.cons (by rfl) ?_)), (by repeat (first | exact Back.refl _ _ | refine Back.cons (by rfl) ?_)), (by repeat (first | exact Picks.nil _ | exact Pick.here _ _ _ | apply Pick.next | apply Picks.cons))⟩
            · exact ⟨by omega, below_succ hI (by unfold OpOk2; omega)⟩
            · (try dsimp only); omega
        · (try simp only [Bool.not_eq_true', Bool.not_eq_false', Bool.not_eq_true, Bool.not_eq_false, decide_eq_true_eq, decide_eq_false_iff_not, List.length_map, List.length_range] at h8); (try simp only [bne_iff_ne, ne_eq, bne_eq_false_iff_eq, decide_eq_decide, beq_iff_eq] at h8)
          refine g_pass' rfl rfl rfl rfl rfl ?_
          refine g_pass' rfl rfl rfl rfl rfl ?_
          refine g_pass' rfl rfl rfl rfl rfl ?_
          refine g_pass' rfl rfl rfl rfl rfl ?_
          refine g_pass' rfl rfl rfl rfl rfl ?_
          refine aops_guard_t rfl rfl rfl (w_pure rfl (p_pick_f rfl rfl) ?_)
          refine aops_cons rfl (w_pure rfl (p_pick_f rfl rfl) ?_)
          refine aops_nil ?_
          refine a_cond_f rfl ?_
          refine a_skip ?_
          refine a_region ?_
          refine aops_cons rfl (w_pure rfl (p_move rfl) ?_)
          refine aops_cons rfl (w_pure rfl (p_add' rfl rfl ⟨by omega, by omega⟩) ?_)
          refine aops_cons rfl (w_pure rfl (p_assign rfl) ?_)
          refine aops_nil ?_
          refine ⟨(i + 1), _, ?_, ?_, (by repeat (first | exact Knows.nil | refine Knows.cons (by rfl) ?_)), (by repeat (first | exact Back.refl _ _ | refine Back.cons (by rfl) ?_)), (by repeat (first | exact Picks.nil _ | exact Pick.here _ _ _ | apply Pick.next | apply Picks.cons))⟩
          · exact ⟨by omega, below_succ hI (by unfold OpOk2; omega)⟩
          · (try dsimp only); omega
  · (try simp only [Bool.not_eq_true', Bool.not_eq_false', Bool.not_eq_true, Bool.not_eq_false, decide_eq_true_eq, decide_eq_false_iff_not, List.length_map, List.length_range] at h2); (try simp only [bne_iff_ne, ne_eq, bne_eq_false_iff_eq, decide_eq_decide, beq_iff_eq] at h2)
    refine a_exit ?_
    refine a_seq ?_
    refine a_region ?_
    refine aops_cons rfl (w_pure rfl (p_load_v_all ag_27 rfl (by rfl) noX) ?_)
    refine aops_cons rfl (w_callR rfl rfl rfl cl_66 (c_spec_l15Good _ ‹_›) ?_)
    refine aops_cons rfl (w_pure rfl (p_move rfl) ?_)
    first | refine aops_split_d 44 rfl (fun h11 => ?_) (fun h12 => ?_) | refine aops_split 44 rfl (fun h11 => ?_) (fun h12 => ?_)
    · (try simp only [Bool.not_eq_true', Bool.not_eq_false', Bool.not_eq_true, Bool.not_eq_false, decide_eq_true_eq, decide_eq_false_iff_not, List.length_map, List.length_range] at h11); (try simp only [bne_iff_ne, ne_eq, bne_eq_false_iff_eq, decide_eq_decide, beq_iff_eq] at h11)
      refine aops_guard_t rfl rfl rfl (w_pure rfl (p_move rfl) ?_)
      refine aops_guard_t rfl rfl rfl (w_pure rfl (p_len sl_28 rfl rfl) ?_)
      refine aops_guard_t rfl rfl rfl (w_pure rfl (p_leq rfl rfl) ?_)
      refine aops_cons rfl (w_pure rfl (p_pick_t rfl rfl) ?_)
      refine aops_cons rfl (w_pure rfl (p_assign rfl) ?_)
      refine aops_nil ?_
      refine a_ret ?_
      refine ret_ok (hands1 rfl (.tmp rfl)) (.nil _) ?_
      first | (refine ret_false ?_; exact goodOps_not (i := i) (by omega) (by unfold OpOk2; omega)) | (refine ret_false ?_; exact fun g => absurd g.1 (by assumption)) | (refine ret_dec ?_; simp only [List.length_map]; exact ⟨fun q => goodOps_of (by assumption) (by omega) (below_all hI (by omega)), fun g => by have := g.2.1; omega⟩)
    · (try simp only [Bool.not_eq_true', Bool.not_eq_false', Bool.not_eq_true, Bool.not_eq_false, decide_eq_true_eq, decide_eq_false_iff_not, List.length_map, List.length_range] at h12); (try simp only [bne_iff_ne, ne_eq, bne_eq_false_iff_eq, decide_eq_decide, beq_iff_eq] at h12)
      refine g_pass' rfl rfl rfl rfl rfl ?_
      refine g_pass' rfl rfl rfl rfl rfl ?_
      refine g_pass' rfl rfl rfl rfl rfl ?_
      refine aops_cons rfl (w_pure rfl (p_pick_f rfl rfl) ?_)
      refine aops_cons rfl (w_pure rfl (p_assign rfl) ?_)
      refine aops_nil ?_
      refine a_ret ?_
      refine ret_ok (hands1 rfl (.tmp rfl)) (.nil _) ?_
      first | (refine ret_false ?_; exact goodOps_not (i := i) (by omega) (by unfold OpOk2; omega)) | (refine ret_false ?_; exact fun g => absurd g.1 (by assumption)) | (refine ret_dec ?_; simp only [List.length_map]; exact ⟨fun q => goodOps_of (by assumption) (by omega) (below_all hI (by omega)), fun g => by have := g.2.1; omega⟩)

theorem c3_impl_signal (q b1 b2 n1 n2 : Nat) (tl : List AV) (h : Hall) (hn : SmallHall h) (e1 : h.list.length = n1) (e2 : h.events.length = n2) (i : Int) (h0 : 0 ≤ i) (h1 : i < h.list.length) (h2 : h.events.length = h.list.length) : ACalls Try.prog 42 [.ptr q 0, .int .i64 i] [(q, .box (.own 5 b1 0 n1 :: .own 1 b2 0 n2 :: tl)), (b1, .arr 56 5 (h.list.map eVcpu)), (b2, .arr 4 1 (h.events.map eBool))] (fun r st => r = .bool (h.list.getD i.toNat zVcpu).blocked ∧ st = [(q, .box (.own 5 b1 0 n1 :: .own 1 b2 0 n2 :: tl)), (b1, .arr 56 5 ((signalH h i.toNat).list.map eVcpu)), (b2, .arr 4 1 ((signalH h i.toNat).events.map eBool))]) := by
  subst e1 e2; exact c_impl_signal q b1 b2 tl h hn i h0 h1 h2

theorem c3_impl_wait (q b1 b2 n1 n2 : Nat) (tl : List AV) (h : Hall) (hn : SmallHall h) (e1 : h.list.length = n1) (e2 : h.events.length = n2) (i : Int) (h0 : 0 ≤ i) (h1 : i < h.list.length) (h2 : h.events.length = h.list.length) : ACalls Try.prog 41 [.ptr q 0, .int .i64 i] [(q, .box (.own 5 b1 0 n1 :: .own 1 b2 0 n2 :: tl)), (b1, .arr 56 5 (h.list.map eVcpu)), (b2, .arr 4 1 (h.events.map eBool))] (fun r st => r = .bool (h.events.getD i.toNat false) ∧ st = [(q, .box (.own 5 b1 0 n1 :: .own 1 b2 0 n2 :: tl)), (b1, .arr 56 5 ((waitH h i.toNat).list.map eVcpu)), (b2, .arr 4 1 ((waitH h i.toNat).events.map eBool))]) := by
  subst e1 e2; exact c_impl_wait q b1 b2 tl h hn i h0 h1 h2

theorem cb_impl_tickVcpus (xs : List Vcpu) (hn : xs.length ≤ 1000) (hA : AreVcpus xs) : ACalls Try.prog 43 [.sl (xs.map eVcpu)] [] (fun r st => ∃ b1, r = .tup [.own 5 b1 0 (tickB xs).1.length, .int .i64 (tickB xs).2] ∧ st = [(b1, .arr 56 5 ((tickB xs).1.map eVcpu))]) := by
  by_cases hR : Runs xs
  · rw [tickB_t hR]; exact cy_impl_tickVcpus xs hn hA hR
  · rw [tickB_f hR]; exact cn_impl_tickVcpus xs hn hA hR

theorem co2_spec_l15Tick (l : List Vcpu) (e : List Bool) (hI : IsHall ⟨l, e⟩) : ACalls Try.prog 68 [.agg [.sl (l.map eVcpu), .sl (e.map eBool)]] [] (fun r st => ∃ b1 b2, r = .tup [.agg [.own 5 b1 0 (tickH ⟨l, e⟩).1.list.length, .own 1 b2 0 (tickH ⟨l, e⟩).1.events.length], .int .i64 (tickH ⟨l, e⟩).2] ∧ st = [(b1, .arr 56 5 ((tickH ⟨l, e⟩).1.list.map eVcpu)), (b2, .arr 4 1 ((tickH ⟨l, e⟩).1.events.map eBool))]) := co_spec_l15Tick ⟨l, e⟩ (small_of hI ⟨rfl, rfl⟩) hI

theorem co_spec_l15Run (h : Hall) (hn : SmallHall h) (ops : List HallOp) (hm : ops.length ≤ 1048576) (id : Int) (g : GoodOps h ops) : ACalls Try.prog 35 [.agg (eHall h), .sl (ops.map eHallOp), .int .i64 id] [] (fun r st => ∃ b1 b2 b3, r = .tup [.agg [.own 5 b1 0 (fin h ops id).hall.list.length, .own 1 b2 0 (fin h ops id).hall.events.length], .own 1 b3 0 (fin h ops id).ticks.length, .int .i64 (fin h ops id).woken, .int .i64 (fin h ops id).takes] ∧ st = [(b1, .arr 56 5 ((fin h ops id).hall.list.map eVcpu)), (b2, .arr 4 1 ((fin h ops id).hall.events.map eBool)), (b3, .arr 3 1 ((fin h ops id).ticks.map eInt))]) := by
  have hnn := hn
  obtain ⟨hn1, hn2⟩ := hnn
  have hops := g.2.1
  refine a_enter Try.func35 rfl rfl (fun w0 M0 => ?_)
  refine a_seq ?_
  refine a_region ?_
  refine aops_cons rfl (w_box_v rfl rfl rfl ?_)
  refine aops_cons rfl (w_alloc rfl z_27 fun b1 => ?_)
  refine aops_cons rfl (w_pure rfl (p_assign rfl) ?_)
  refine aops_cons rfl (w_pure rfl (p_assign rfl) ?_)
  refine aops_cons rfl (w_pure rfl (p_assign rfl) ?_)
  refine aops_nil ?_
  refine a_seq ?_
  refine a_region ?_
  refine aops_cons rfl (w_pure rfl (p_load_v_all ag_27 rfl (by rfl) noX) ?_)
  refine aops_cons rfl (w_call rfl rfl rfl cl_67 (co_spec_l15Own h (by assumption)) ?_)
  rintro _ _ ⟨b2, b3, rfl, rfl⟩
  refine aops_cons rfl (w_litM eInt [] rfl el_31 rfl rfl rfl rfl rfl fun b4 => ?_)
  refine aops_cons rfl (w_alloc rfl z_27 fun b5 => ?_)
  refine aops_cons rfl (w_store (cells' := [_, _]) rfl rfl rfl (by repeat (first | exact Pick.here _ _ _ | apply Pick.next)) cn_27 (by rfl) (by rfl) (by rfl) trivial ?_)
  refine aops_cons rfl (w_pure rfl (p_assign rfl) ?_)
  refine aops_nil ?_
  refine a_seq ?_
  refine a_region ?_
  refine aops_cons rfl (w_pure rfl (p_assign rfl) ?_)
  refine aops_cons rfl (w_pure rfl (p_assign rfl) ?_)
  refine aops_nil ?_
  refine a_seq ?_
  refine a_seq ?_
  refine a_region ?_
  refine aops_cons rfl (w_pure rfl (p_assign rfl) ?_)
  refine aops_nil ?_
  refine a_block ?_
  refine a_loop (ι := Nat × Nat × Nat × Nat × List Vcpu × List Bool × List Int × Int × Int) (fun ⟨k, b1, b2, c, l, e, tk, w, t⟩ => RInv h ops id k l e tk w t) (fun ⟨k, b1, b2, c, l, e, tk, w, t⟩ => [(14, .int .i64 (k : Int)), (11, .own 1 c 0 tk.length), (12, .int .i64 w), (13, .int .i64 t)]) (fun ⟨k, b1, b2, c, l, e, tk, w, t⟩ => [(b5, .box [.own 5 b1 0 l.length, .own 1 b2 0 e.length]), (b1, .arr 56 5 (l.map eVcpu)), (b2, .arr 4 1 (e.map eBool)), (c, .arr 3 1 (tk.map eInt))]) (fun ⟨k, b1, b2, c, l, e, tk, w, t⟩ => ops.length - k) (0, b2, b3, b4, h.list, h.events, [], 0, 0) (.zero g) (by repeat (first | exact Knows.nil | refine Knows.cons (by rfl) ?_)) (by repeat (first | exact Picks.nil _ | exact Pick.here _ _ _ | apply Pick.next | apply Picks.cons)) ?_
  rintro ⟨k, b1, b2, c, l, e, tk, w, t⟩ hR
  replace hR : RInv h ops id k l e tk w t := hR; have hsm := hR.small; have hwb := hR.wb; have htb := hR.tb; have htl := hR.tl; have hfx := fun x => hR.find x; have hid : k < ops.length → _ := fun hk => hR.idx g hk
  refine a_seq ?_
  refine a_seq ?_
  refine a_region ?_
  refine aops_cons rfl (w_pure rfl (p_move rfl) ?_)
  refine aops_cons rfl (w_pure rfl (p_move rfl) ?_)
  refine aops_cons rfl (w_pure rfl (p_len sl_28 rfl rfl) ?_)
  refine aops_cons rfl (w_pure rfl (p_lss rfl rfl) ?_)
  refine aops_nil ?_
  first | refine a_cond_d rfl (fun h1 => ?_) (fun h2 => ?_) | refine a_cond_n rfl (fun h1 => ?_) (fun h2 => ?_) | refine a_cond_nb rfl (fun h1 => ?_) (fun h2 => ?_) | refine a_cond rfl (fun h1 => ?_) (fun h2 => ?_)
  · (try simp only [Bool.not_eq_true', Bool.not_eq_false', Bool.not_eq_true, Bool.not_eq_false, decide_eq_true_eq, decide_eq_false_iff_not, List.length_map, List.length_range] at h1)
    refine a_skip ?_
    refine a_seq ?_
    refine a_block ?_
    refine a_seq ?_
    refine a_region ?_
    refine aops_cons rfl (w_pure rfl (p_move rfl) ?_)
    refine aops_cons rfl (w_pure rfl (p_move rfl) ?_)
    refine aops_cons rfl (w_pure rfl (p_index_sl _ rfl rfl rfl (rowD _ _ zHallOp (by omega)) es_28) ?_)
    refine aops_cons rfl (w_pure rfl (p_load_v_all ag_37 rfl (by rfl) noX) ?_)
    refine aops_cons rfl (w_alloc rfl z_37 fun b6 => ?_)
    refine aops_cons rfl (w_store (cells' := [_, _]) rfl rfl rfl (by repeat (first | exact Pick.here _ _ _ | apply Pick.next)) cn_37 (by rfl) (by rfl) (by rfl) trivial ?_)
    refine aops_nil ?_
    refine a_seq ?_
    refine a_region ?_
    refine aops_cons rfl (w_pure rfl (p_load_box_all ag_27 rfl (by repeat (first | exact Pick.here _ _ _ | apply Pick.next)) (by rfl) noX) ?_)
    refine aops_cons rfl (w_pure rfl (p_field_box fo_37_1 rfl) ?_)
    refine aops_cons rfl (w_pure rfl (p_load_box ag_3 rfl (by repeat (first | exact Pick.here _ _ _ | apply Pick.next)) (by rfl) noX) ?_)
    refine aops_cons rfl (w_callLR rfl rfl rfl cl_45 (.cons (.agg (.cons (.own (by repeat (first | exact List.Mem.head _ | apply List.Mem.tail)) (by first | (simp; done) | (simp; assumption) | (simp; omega) | (simp [mkL]; done))) (.cons (.own (by repeat (first | exact List.Mem.head _ | apply List.Mem.tail)) (by first | (simp; done) | (simp; assumption) | (simp; omega) | (simp [mkL]; done))) .nil))) (.cons (.refl _) .nil)) (show ACalls Try.prog 45 [.agg [.sl (l.map eVcpu), .sl (e.map eBool)], .int .i64 (ops.getD k zHallOp).id] [] (Ret (.int .i64 (findI h.list (ops.getD k zHallOp).id))) by rw [← hfx]; exact c_spec_l15Find (⟨l, e⟩ : Hall) (small_of hR.hall ⟨rfl, rfl⟩) _) (closed_int _ _) ?_)
    refine aops_cons rfl (w_pure rfl (p_assign rfl) ?_)
    refine aops_nil ?_
    refine a_block ?_
    refine a_seq ?_
    refine a_region ?_
    refine aops_cons rfl (w_pure rfl (p_field_box fo_37_0 rfl) ?_)
    refine aops_cons rfl (w_pure rfl (p_load_box ag_3 rfl (by repeat (first | exact Pick.here _ _ _ | apply Pick.next)) (by rfl) noX) ?_)
    refine aops_cons rfl (w_pure rfl (p_eql rfl rfl) ?_)
    refine aops_cons rfl (w_pure rfl (p_assign rfl) ?_)
    refine aops_nil ?_
    first | refine a_cond_d rfl (fun h3 => ?_) (fun h4 => ?_) | refine a_cond_n rfl (fun h3 => ?_) (fun h4 => ?_) | refine a_cond_nb rfl (fun h3 => ?_) (fun h4 => ?_) | refine a_cond rfl (fun h3 => ?_) (fun h4 => ?_)
    · (try simp only [Bool.not_eq_true', Bool.not_eq_false', Bool.not_eq_true, Bool.not_eq_false, decide_eq_true_eq, decide_eq_false_iff_not, List.length_map, List.length_range] at h3)
      refine a_seq ?_
      refine a_region ?_
      refine aops_cons rfl (w_pure rfl (p_load_box_all ag_27 rfl (by repeat (first | exact Pick.here _ _ _ | apply Pick.next)) (by rfl) noX) ?_)
      refine aops_cons rfl (w_callL rfl rfl rfl cl_68 (.cons (.agg (.cons (.own (by repeat (first | exact List.Mem.head _ | apply List.Mem.tail)) (by first | (simp; done) | (simp; assumption) | (simp; omega) | (simp [mkL]; done))) (.cons (.own (by repeat (first | exact List.Mem.head _ | apply List.Mem.tail)) (by first | (simp; done) | (simp; assumption) | (simp; omega) | (simp [mkL]; done))) .nil))) .nil) (co2_spec_l15Tick l e hR.hall) ?_)
      rintro _ _ ⟨b7, b8, rfl, rfl⟩
      refine ⟨(closed_tup (all_cons' (closed_agg (all_cons' (closed_own _ _ _ _) (all_cons' (closed_own _ _ _ _) all_nil'))) (all_cons' (closed_int _ _) all_nil'))), (closedS_cons (closedAll _ _ _ _ cl_eVcpu) (closedS_cons (closedAll _ _ _ _ cl_eBool) closedS_nil)), ?_⟩
      refine aops_cons rfl (w_pure rfl (p_move rfl) ?_)
      refine aops_cons rfl (w_pure rfl (p_extract rfl rfl) ?_)
      refine aops_cons rfl (w_pure rfl (p_extract rfl rfl) ?_)
      refine aops_cons rfl (w_alloc rfl z_27 fun b9 => ?_)
      refine aops_cons rfl (w_store (cells' := [_, _]) rfl rfl rfl (by repeat (first | exact Pick.here _ _ _ | apply Pick.next)) cn_27 (by rfl) (by rfl) (by rfl) trivial ?_)
      refine aops_cons rfl (w_pure rfl (p_assign rfl) ?_)
      refine aops_nil ?_
      refine a_seq ?_
      refine a_region ?_
      refine aops_cons rfl (w_pure rfl (p_load_box_all ag_27 rfl (by repeat (first | exact Pick.here _ _ _ | apply Pick.next)) (by rfl) noX) ?_)
      refine aops_cons rfl (w_store (cells' := [_, _]) rfl rfl rfl (by repeat (first | exact Pick.here _ _ _ | apply Pick.next)) cn_27 (by rfl) (by rfl) (by rfl) trivial ?_)
      refine aops_nil ?_
      refine a_region ?_
      refine aops_cons rfl (w_pure rfl (p_move rfl) ?_)
      refine aops_cons rfl (w_pure rfl (p_move rfl) ?_)
      refine aops_cons rfl (w_lit_vM eInt [(tickH (⟨l, e⟩ : Hall)).2] rfl el_31 rfl rfl rfl rfl rfl ?_)
      refine aops_cons rfl (w_appendM eInt rfl el_31 rfl rfl (by repeat (first | exact Pick.here _ _ _ | apply Pick.next)) rfl (.sl _) (fun _ => rfl) (fun _ => rfl) (by simp; omega) (by simp; omega) trivial fun b10 => ?_)
      refine aops_cons rfl (w_pure rfl (p_assign rfl) ?_)
      refine aops_nil ?_
      refine a_region ?_
      refine aops_cons rfl (w_pure rfl (p_move rfl) ?_)
      refine aops_cons rfl (w_pure rfl (p_add' rfl rfl ⟨by omega, by omega⟩) ?_)
      refine aops_cons rfl (w_pure rfl (p_assign rfl) ?_)
      refine aops_nil ?_
      refine ⟨(k + 1, _, _, _, _, _, _, _, _), _, ?_, ?_, (by repeat (first | exact Knows.nil | refine Knows.cons (by rfl) ?_)), (by repeat (first | exact Back.refl _ _ | refine Back.cons (by rfl) ?_)), (by repeat (first | exact Picks.nil _ | exact Pick.here _ _ _ | apply Pick.next | apply Picks.cons))⟩
      · first | exact hR.next g (by omega) (st_tick (by assumption)) | exact hR.next g (by omega) (st_tickH (by assumption)) | exact hR.next g (by omega) (st_sig1 (by assumption) (by assumption) (by assumption) (by assumption)) | exact hR.next g (by omega) (st_sig2 (by assumption) (by assumption) (by assumption) (by assumption)) | exact hR.next g (by omega) (st_sig3 (by assumption) (by assumption) (by assumption)) | exact hR.next g (by omega) (st_wait1 (by assumption) (by assumption) (by assumption) (by assumption) (by assumption)) | exact hR.next g (by omega) (st_wait2 (by assumption) (by assumption) (by assumption) (by assumption) (by assumption)) | exact hR.next g (by omega) (st_wait3 (by assumption) (by assumption) (by assumption) (by assumption)) | exact hR.next g (by omega) (st_none (by assumption) (by assumption) (by assumption))
      · (try dsimp only); omega
    · (try simp only [Bool.not_eq_true', Bool.not_eq_false', Bool.not_eq_true, Bool.not_eq_false, decide_eq_true_eq, decide_eq_false_iff_not, List.length_map, List.length_range] at h4)
      refine a_seq ?_
      refine a_region ?_
      refine aops_cons rfl (w_pure rfl (p_field_box fo_37_0 rfl) ?_)
      refine aops_cons rfl (w_pure rfl (p_load_box ag_3 rfl (by repeat (first | exact Pick.here _ _ _ | apply Pick.next)) (by rfl) noX) ?_)
      refine aops_cons rfl (w_pure rfl (p_eql rfl rfl) ?_)
      refine aops_cons rfl (w_pure rfl (p_assign rfl) ?_)
      refine aops_nil ?_
      first | refine a_cond_d rfl (fun h5 => ?_) (fun h6 => ?_) | refine a_cond_n rfl (fun h5 => ?_) (fun h6 => ?_) | refine a_cond_nb rfl (fun h5 => ?_) (fun h6 => ?_) | refine a_cond rfl (fun h5 => ?_) (fun h6 => ?_)
      · (try simp only [Bool.not_eq_true', Bool.not_eq_false', Bool.not_eq_true, Bool.not_eq_false, decide_eq_true_eq, decide_eq_false_iff_not, List.length_map, List.length_range] at h5)
        refine a_seq ?_
        refine a_seq ?_
        refine a_region ?_
        refine aops_cons rfl (w_pure rfl (p_field_box fo_27_0 rfl) ?_)
        refine aops_cons rfl (w_pure rfl (p_load_box ag_24 rfl (by repeat (first | exact Pick.here _ _ _ | apply Pick.next)) (by rfl) noX) ?_)
        refine aops_cons rfl (w_pure rfl (p_move rfl) ?_)
        refine aops_cons rfl (w_pure rfl (p_index_own0 (findI h.list (ops.getD k zHallOp).id).toNat rfl rfl (by have := hid (by omega); omega) (by have := hid (by omega); omega) es_24) ?_)
        refine aops_cons rfl (w_pure rfl (p_field_e fo_56_3 rfl) ?_)
        refine aops_cons rfl (w_pure rfl (p_load_e ag_4 rfl (by repeat (first | exact Pick.here _ _ _ | apply Pick.next)) (rowD _ _ zVcpu (by omega)) (by rfl) noX) ?_)
        refine aops_cons rfl (w_pure rfl (p_move rfl) ?_)
        first | refine aops_split_d 60 rfl (fun h7 => ?_) (fun h8 => ?_) | refine aops_split 60 rfl (fun h7 => ?_) (fun h8 => ?_)
        · (try simp only [Bool.not_eq_true', Bool.not_eq_false', Bool.not_eq_true, Bool.not_eq_false, decide_eq_true_eq, decide_eq_false_iff_not, List.length_map, List.length_range] at h7)
          refine aops_guard_t rfl rfl rfl (w_pure rfl (p_field_box fo_37_1 rfl) ?_)
          refine aops_guard_t rfl rfl rfl (w_pure rfl (p_load_box ag_3 rfl (by repeat (first | exact Pick.here _ _ _ | apply Pick.next)) (by rfl) noX) ?_)
          refine aops_guard_t rfl rfl rfl (w_pure rfl (p_move rfl) ?_)
          refine aops_guard_t rfl rfl rfl (w_pure rfl (p_eql rfl rfl) ?_)
          refine aops_cons rfl (w_pure rfl (p_pick_t rfl rfl) ?_)
          refine aops_nil ?_
          first | refine a_cond_d rfl (fun h9 => ?_) (fun h10 => ?_) | refine a_cond_n rfl (fun h9 => ?_) (fun h10 => ?_) | refine a_cond_nb rfl (fun h9 => ?_) (fun h10 => ?_) | refine a_cond rfl (fun h9 => ?_) (fun h10 => ?_)
          · (try simp only [Bool.not_eq_true', Bool.not_eq_false', Bool.not_eq_true, Bool.not_eq_false, decide_eq_true_eq, decide_eq_false_iff_not, List.length_map, List.length_range] at h9)
            refine a_region ?_
            refine aops_cons rfl (w_pure rfl (p_move rfl) ?_)
            refine aops_cons rfl (w_pure rfl (p_add' rfl rfl ⟨by omega, by omega⟩) ?_)
            refine aops_cons rfl (w_pure rfl (p_assign rfl) ?_)
            refine aops_nil ?_
            refine a_region ?_
            refine aops_cons rfl (w_pure rfl (p_load_box_all ag_27 rfl (by repeat (first | exact Pick.here _ _ _ | apply Pick.next)) (by rfl) noX) ?_)
            refine aops_cons rfl (w_pure rfl (p_move rfl) ?_)
            refine aops_cons rfl (w_callL rfl rfl rfl cl_69 (.cons (.agg (.cons (.own (by repeat (first | exact List.Mem.head _ | apply List.Mem.tail)) (by first | (simp; done) | (simp; assumption) | (simp; omega) | (simp [mkL]; done))) (.cons (.own (by repeat (first | exact List.Mem.head _ | apply List.Mem.tail)) (by first | (simp; done) | (simp; assumption) | (simp; omega) | (simp [mkL]; done))) .nil))) (.cons (.refl _) .nil)) (co_spec_l15Signal (⟨l, e⟩ : Hall) (small_of hR.hall ⟨rfl, rfl⟩) (findI h.list (ops.getD k zHallOp).id) (by have := hid (by omega); omega) (by have := hid (by omega); show _ < (l.length : Int); omega) hsm.2.2.2) ?_)
            rintro _ _ ⟨b11, b12, rfl, rfl⟩
            refine ⟨(closed_agg (all_cons' (closed_own _ _ _ _) (all_cons' (closed_own _ _ _ _) all_nil'))), (closedS_cons (closedAll _ _ _ _ cl_eVcpu) (closedS_cons (closedAll _ _ _ _ cl_eBool) closedS_nil)), ?_⟩
            refine aops_cons rfl (w_store (cells' := [_, _]) rfl rfl rfl (by repeat (first | exact Pick.here _ _ _ | apply Pick.next)) cn_27 (by rfl) (by rfl) (by rfl) trivial ?_)
            refine aops_nil ?_
            refine a_region ?_
            refine aops_cons rfl (w_pure rfl (p_move rfl) ?_)
            refine aops_cons rfl (w_pure rfl (p_add' rfl rfl ⟨by omega, by omega⟩) ?_)
            refine aops_cons rfl (w_pure rfl (p_assign rfl) ?_)
            refine aops_nil ?_
            refine ⟨(k + 1, _, _, _, _, _, _, _, _), _, ?_, ?_, (by repeat (first | exact Knows.nil | refine Knows.cons (by rfl) ?_)), (by repeat (first | exact Back.refl _ _ | refine Back.cons (by rfl) ?_)), (by repeat (first | exact Picks.nil _ | exact Pick.here _ _ _ | apply Pick.next | apply Picks.cons))⟩
            · first | exact hR.next g (by omega) (st_tick (by assumption)) | exact hR.next g (by omega) (st_tickH (by assumption)) | exact hR.next g (by omega) (st_sig1 (by assumption) (by assumption) (by assumption) (by assumption)) | exact hR.next g (by omega) (st_sig2 (by assumption) (by assumption) (by assumption) (by assumption)) | exact hR.next g (by omega) (st_sig3 (by assumption) (by assumption) (by assumption)) | exact hR.next g (by omega) (st_wait1 (by assumption) (by assumption) (by assumption) (by assumption) (by assumption)) | exact hR.next g (by omega) (st_wait2 (by assumption) (by assumption) (by assumption) (by assumption) (by assumption)) | exact hR.next g (by omega) (st_wait3 (by assumption) (by assumption) (by assumption) (by assumption)) | exact hR.next g (by omega) (st_none (by assumption) (by assumption) (by assumption))
            · (try dsimp only); omega
          · (try simp only [Bool.not_eq_true', Bool.not_eq_false', Bool.not_eq_true, Bool.not_eq_false, decide_eq_true_eq, decide_eq_false_iff_not, List.length_map, List.length_range] at h10)
            refine a_skip ?_
            refine a_region ?_
            refine aops_cons rfl (w_pure rfl (p_load_box_all ag_27 rfl (by repeat (first | exact Pick.here _ _ _ | apply Pick.next)) (by rfl) noX) ?_)
            refine aops_cons rfl (w_pure rfl (p_move rfl) ?_)
            refine aops_cons rfl (w_callL rfl rfl rfl cl_69 (.cons (.agg (.cons (.own (by repeat (first | exact List.Mem.head _ | apply List.Mem.tail)) (by first | (simp; done) | (simp; assumption) | (simp; omega) | (simp [mkL]; done))) (.cons (.own (by repeat (first | exact List.Mem.head _ | apply List.Mem.tail)) (by first | (simp; done) | (simp; assumption) | (simp; omega) | (simp [mkL]; done))) .nil))) (.cons (.refl _) .nil)) (co_spec_l15Signal (⟨l, e⟩ : Hall) (small_of hR.hall ⟨rfl, rfl⟩) (findI h.list (ops.getD k zHallOp).id) (by have := hid (by omega); omega) (by have := hid (by omega); show _ < (l.length : Int); omega) hsm.2.2.2) ?_)
            rintro _ _ ⟨b13, b14, rfl, rfl⟩
            refine ⟨(closed_agg (all_cons' (closed_own _ _ _ _) (all_cons' (closed_own _ _ _ _) all_nil'))), (closedS_cons (closedAll _ _ _ _ cl_eVcpu) (closedS_cons (closedAll _ _ _ _ cl_eBool) closedS_nil)), ?_⟩
            refine aops_cons rfl (w_store (cells' := [_, _]) rfl rfl rfl (by repeat (first | exact Pick.here _ _ _ | apply Pick.next)) cn_27 (by rfl) (by rfl) (by rfl) trivial ?_)
            refine aops_nil ?_
            refine a_region ?_
            refine aops_cons rfl (w_pure rfl (p_move rfl) ?_)
            refine aops_cons rfl (w_pure rfl (p_add' rfl rfl ⟨by omega, by omega⟩) ?_)
            refine aops_cons rfl (w_pure rfl (p_assign rfl) ?_)
            refine aops_nil ?_
            refine ⟨(k + 1, _, _, _, _, _, _, _, _), _, ?_, ?_, (by repeat (first | exact Knows.nil | refine Knows.cons (by rfl) ?_)), (by repeat (first | exact Back.refl _ _ | refine Back.cons (by rfl) ?_)), (by repeat (first | exact Picks.nil _ | exact Pick.here _ _ _ | apply Pick.next | apply Picks.cons))⟩
            · first | exact hR.next g (by omega) (st_tick (by assumption)) | exact hR.next g (by omega) (st_tickH (by assumption)) | exact hR.next g (by omega) (st_sig1 (by assumption) (by assumption) (by assumption) (by assumption)) | exact hR.next g (by omega) (st_sig2 (by assumption) (by assumption) (by assumption) (by assumption)) | exact hR.next g (by omega) (st_sig3 (by assumption) (by assumption) (by assumption)) | exact hR.next g (by omega) (st_wait1 (by assumption) (by assumption) (by assumption) (by assumption) (by assumption)) | exact hR.next g (by omega) (st_wait2 (by assumption) (by assumption) (by assumption) (by assumption) (by assumption)) | exact hR.next g (by omega) (st_wait3 (by assumption) (by assumption) (by assumption) (by assumption)) | exact hR.next g (by omega) (st_none (by assumption) (by assumption) (by assumption))
            · (try dsimp only); omega
        · (try simp only [Bool.not_eq_true', Bool.not_eq_false', Bool.not_eq_true, Bool.not_eq_false, decide_eq_true_eq, decide_eq_false_iff_not, List.length_map, List.length_range] at h8)
          refine g_pass' rfl rfl rfl rfl rfl ?_
          refine g_pass' rfl rfl rfl rfl rfl ?_
          refine g_pass' rfl rfl rfl rfl rfl ?_
          refine g_pass' rfl rfl rfl rfl rfl ?_
          refine aops_cons rfl (w_pure rfl (p_pick_f rfl rfl) ?_)
          refine aops_nil ?_
          refine a_cond_f rfl ?_
          refine a_skip ?_
          refine a_region ?_
          refine aops_cons rfl (w_pure rfl (p_load_box_all ag_27 rfl (by repeat (first | exact Pick.here _ _ _ | apply Pick.next)) (by rfl) noX) ?_)
          refine aops_cons rfl (w_pure rfl (p_move rfl) ?_)
          refine aops_cons rfl (w_callL rfl rfl rfl cl_69 (.cons (.agg (.cons (.own (by repeat (first | exact List.Mem.head _ | apply List.Mem.tail)) (by first | (simp; done) | (simp; assumption) | (simp; omega) | (simp [mkL]; done))) (.cons (.own (by repeat (first | exact List.Mem.head _ | apply List.Mem.tail)) (by first | (simp; done) | (simp; assumption) | (simp; omega) | (simp [mkL]; done))) .nil))) (.cons (.refl _) .nil)) (co_spec_l15Signal (⟨l, e⟩ : Hall) (small_of hR.hall ⟨rfl, rfl⟩) (findI h.list (ops.getD k zHallOp).id) (by have := hid (by omega); omega) (by have := hid (by omega); show _ < (l.length : Int); omega) hsm.2.2.2) ?_)
          rintro _ _ ⟨b15, b16, rfl, rfl⟩
          refine ⟨(closed_agg (all_cons' (closed_own _ _ _ _) (all_cons' (closed_own _ _ _ _) all_nil'))), (closedS_cons (closedAll _ _ _ _ cl_eVcpu) (closedS_cons (closedAll _ _ _ _ cl_eBool) closedS_nil)), ?_⟩
          refine aops_cons rfl (w_store (cells' := [_, _]) rfl rfl rfl (by repeat (first | exact Pick.here _ _ _ | apply Pick.next)) cn_27 (by rfl) (by rfl) (by rfl) trivial ?_)
          refine aops_nil ?_
          refine a_region ?_
          refine aops_cons rfl (w_pure rfl (p_move rfl) ?_)
          refine aops_cons rfl (w_pure rfl (p_add' rfl rfl ⟨by omega, by omega⟩) ?_)
          refine aops_cons rfl (w_pure rfl (p_assign rfl) ?_)
          refine aops_nil ?_
          refine ⟨(k + 1, _, _, _, _, _, _, _, _), _, ?_, ?_, (by repeat (first | exact Knows.nil | refine Knows.cons (by rfl) ?_)), (by repeat (first | exact Back.refl _ _ | refine Back.cons (by rfl) ?_)), (by repeat (first | exact Picks.nil _ | exact Pick.here _ _ _ | apply Pick.next | apply Picks.cons))⟩
          · first | exact hR.next g (by omega) (st_tick (by assumption)) | exact hR.next g (by omega) (st_tickH (by assumption)) | exact hR.next g (by omega) (st_sig1 (by assumption) (by assumption) (by assumption) (by assumption)) | exact hR.next g (by omega) (st_sig2 (by assumption) (by assumption) (by assumption) (by assumption)) | exact hR.next g (by omega) (st_sig3 (by assumption) (by assumption) (by assumption)) | exact hR.next g (by omega) (st_wait1 (by assumption) (by assumption) (by assumption) (by assumption) (by assumption)) | exact hR.next g (by omega) (st_wait2 (by assumption) (by assumption) (by assumption) (by assumption) (by assumption)) | exact hR.next g (by omega) (st_wait3 (by assumption) (by assumption) (by assumption) (by assumption)) | exact hR.next g (by omega) (st_none (by assumption) (by assumption) (by assumption))
          · (try dsimp only); omega
      · (try simp only [Bool.not_eq_true', Bool.not_eq_false', Bool.not_eq_true, Bool.not_eq_false, decide_eq_true_eq, decide_eq_false_iff_not, List.length_map, List.length_range] at h6)
        refine a_seq ?_
        refine a_region ?_
        refine aops_cons rfl (w_pure rfl (p_field_box fo_27_0 rfl) ?_)
        refine aops_cons rfl (w_pure rfl (p_load_box ag_24 rfl (by repeat (first | exact Pick.here _ _ _ | apply Pick.next)) (by rfl) noX) ?_)
        refine aops_cons rfl (w_pure rfl (p_move rfl) ?_)
        refine aops_cons rfl (w_pure rfl (p_index_own0 (findI h.list (ops.getD k zHallOp).id).toNat rfl rfl (by have := hid (by omega); omega) (by have := hid (by omega); omega) es_24) ?_)
        refine aops_cons rfl (w_pure rfl (p_field_e fo_56_3 rfl) ?_)
        refine aops_cons rfl (w_pure rfl (p_load_e ag_4 rfl (by repeat (first | exact Pick.here _ _ _ | apply Pick.next)) (rowD _ _ zVcpu (by omega)) (by rfl) noX) ?_)
        refine aops_cons rfl (w_pure rfl (p_not rfl) ?_)
        refine aops_cons rfl (w_pure rfl (p_assign rfl) ?_)
        refine aops_nil ?_
        first | refine a_cond_d rfl (fun h11 => ?_) (fun h12 => ?_) | refine a_cond_n rfl (fun h11 => ?_) (fun h12 => ?_) | refine a_cond_nb rfl (fun h11 => ?_) (fun h12 => ?_) | refine a_cond rfl (fun h11 => ?_) (fun h12 => ?_)
        · (try simp only [Bool.not_eq_true', Bool.not_eq_false', Bool.not_eq_true, Bool.not_eq_false, decide_eq_true_eq, decide_eq_false_iff_not, List.length_map, List.length_range] at h11)
          refine a_seq ?_
          refine a_seq ?_
          refine a_region ?_
          refine aops_cons rfl (w_pure rfl (p_field_box fo_27_1 rfl) ?_)
          refine aops_cons rfl (w_pure rfl (p_load_box ag_25 rfl (by repeat (first | exact Pick.here _ _ _ | apply Pick.next)) (by rfl) noX) ?_)
          refine aops_cons rfl (w_pure rfl (p_move rfl) ?_)
          refine aops_cons rfl (w_pure rfl (p_index_own0 (findI h.list (ops.getD k zHallOp).id).toNat rfl rfl (by have := hid (by omega); omega) (by have := hid (by omega); omega) es_25) ?_)
          refine aops_cons rfl (w_pure rfl (p_load_e ag_4 rfl (by repeat (first | exact Pick.here _ _ _ | apply Pick.next)) (rowD _ _ false (by omega)) (by rfl) noX) ?_)
          refine aops_cons rfl (w_pure rfl (p_move rfl) ?_)
          first | refine aops_split_d 84 rfl (fun h13 => ?_) (fun h14 => ?_) | refine aops_split 84 rfl (fun h13 => ?_) (fun h14 => ?_)
          · (try simp only [Bool.not_eq_true', Bool.not_eq_false', Bool.not_eq_true, Bool.not_eq_false, decide_eq_true_eq, decide_eq_false_iff_not, List.length_map, List.length_range] at h13)
            refine aops_guard_t rfl rfl rfl (w_pure rfl (p_field_box fo_37_1 rfl) ?_)
            refine aops_guard_t rfl rfl rfl (w_pure rfl (p_load_box ag_3 rfl (by repeat (first | exact Pick.here _ _ _ | apply Pick.next)) (by rfl) noX) ?_)
            refine aops_guard_t rfl rfl rfl (w_pure rfl (p_move rfl) ?_)
            refine aops_guard_t rfl rfl rfl (w_pure rfl (p_eql rfl rfl) ?_)
            refine aops_cons rfl (w_pure rfl (p_pick_t rfl rfl) ?_)
            refine aops_nil ?_
            first | refine a_cond_d rfl (fun h15 => ?_) (fun h16 => ?_) | refine a_cond_n rfl (fun h15 => ?_) (fun h16 => ?_) | refine a_cond_nb rfl (fun h15 => ?_) (fun h16 => ?_) | refine a_cond rfl (fun h15 => ?_) (fun h16 => ?_)
            · (try simp only [Bool.not_eq_true', Bool.not_eq_false', Bool.not_eq_true, Bool.not_eq_false, decide_eq_true_eq, decide_eq_false_iff_not, List.length_map, List.length_range] at h15)
              refine a_region ?_
              refine aops_cons rfl (w_pure rfl (p_move rfl) ?_)
              refine aops_cons rfl (w_pure rfl (p_add' rfl rfl ⟨by omega, by omega⟩) ?_)
              refine aops_cons rfl (w_pure rfl (p_assign rfl) ?_)
              refine aops_nil ?_
              refine a_region ?_
              refine aops_cons rfl (w_pure rfl (p_load_box_all ag_27 rfl (by repeat (first | exact Pick.here _ _ _ | apply Pick.next)) (by rfl) noX) ?_)
              refine aops_cons rfl (w_pure rfl (p_move rfl) ?_)
              refine aops_cons rfl (w_callL rfl rfl rfl cl_70 (.cons (.agg (.cons (.own (by repeat (first | exact List.Mem.head _ | apply List.Mem.tail)) (by first | (simp; done) | (simp; assumption) | (simp; omega) | (simp [mkL]; done))) (.cons (.own (by repeat (first | exact List.Mem.head _ | apply List.Mem.tail)) (by first | (simp; done) | (simp; assumption) | (simp; omega) | (simp [mkL]; done))) .nil))) (.cons (.refl _) .nil)) (co_spec_l15Wait (⟨l, e⟩ : Hall) (small_of hR.hall ⟨rfl, rfl⟩) (findI h.list (ops.getD k zHallOp).id) (by have := hid (by omega); omega) (by have := hid (by omega); show _ < (l.length : Int); omega) hsm.2.2.2) ?_)
              rintro _ _ ⟨b17, b18, rfl, rfl⟩
              refine ⟨(closed_agg (all_cons' (closed_own _ _ _ _) (all_cons' (closed_own _ _ _ _) all_nil'))), (closedS_cons (closedAll _ _ _ _ cl_eVcpu) (closedS_cons (closedAll _ _ _ _ cl_eBool) closedS_nil)), ?_⟩
              refine aops_cons rfl (w_store (cells' := [_, _]) rfl rfl rfl (by repeat (first | exact Pick.here _ _ _ | apply Pick.next)) cn_27 (by rfl) (by rfl) (by rfl) trivial ?_)
              refine aops_nil ?_
              refine a_region ?_
              refine aops_cons rfl (w_pure rfl (p_move rfl) ?_)
              refine aops_cons rfl (w_pure rfl (p_add' rfl rfl ⟨by omega, by omega⟩) ?_)
              refine aops_cons rfl (w_pure rfl (p_assign rfl) ?_)
              refine aops_nil ?_
              refine ⟨(k + 1, _, _, _, _, _, _, _, _), _, ?_, ?_, (by repeat (first | exact Knows.nil | refine Knows.cons (by rfl) ?_)), (by repeat (first | exact Back.refl _ _ | refine Back.cons (by rfl) ?_)), (by repeat (first | exact Picks.nil _ | exact Pick.here _ _ _ | apply Pick.next | apply Picks.cons))⟩
              · first | exact hR.next g (by omega) (st_tick (by assumption)) | exact hR.next g (by omega) (st_tickH (by assumption)) | exact hR.next g (by omega) (st_sig1 (by assumption) (by assumption) (by assumption) (by assumption)) | exact hR.next g (by omega) (st_sig2 (by assumption) (by assumption) (by assumption) (by assumption)) | exact hR.next g (by omega) (st_sig3 (by assumption) (by assumption) (by assumption)) | exact hR.next g (by omega) (st_wait1 (by assumption) (by assumption) (by assumption) (by assumption) (by assumption)) | exact hR.next g (by omega) (st_wait2 (by assumption) (by assumption) (by assumption) (by assumption) (by assumption)) | exact hR.next g (by omega) (st_wait3 (by assumption) (by assumption) (by assumption) (by assumption)) | exact hR.next g (by omega) (st_none (by assumption) (by assumption) (by assumption))
              · (try dsimp only); omega
            · (try simp only [Bool.not_eq_true', Bool.not_eq_false', Bool.not_eq_true, Bool.not_eq_false, decide_eq_true_eq, decide_eq_false_iff_not, List.length_map, List.length_range] at h16)
              refine a_skip ?_
              refine a_region ?_
              refine aops_cons rfl (w_pure rfl (p_load_box_all ag_27 rfl (by repeat (first | exact Pick.here _ _ _ | apply Pick.next)) (by rfl) noX) ?_)
              refine aops_cons rfl (w_pure rfl (p_move rfl) ?_)
              refine aops_cons rfl (w_callL rfl rfl rfl cl_70 (.cons (.agg (.cons (.own (by repeat (first | exact List.Mem.head _ | apply List.Mem.tail)) (by first | (simp; done) | (simp; assumption) | (simp; omega) | (simp [mkL]; done))) (.cons (.own (by repeat (first | exact List.Mem.head _ | apply List.Mem.tail)) (by first | (simp; done) | (simp; assumption) | (simp; omega) | (simp [mkL]; done))) .nil))) (.cons (.refl _) .nil)) (co_spec_l15Wait (⟨l, e⟩ : Hall) (small_of hR.hall ⟨rfl, rfl⟩) (findI h.list (ops.getD k zHallOp).id) (by have := hid (by omega); omega) (by have := hid (by omega); show _ < (l.length : Int); omega) hsm.2.2.2) ?_)
              rintro _ _ ⟨b19, b20, rfl, rfl⟩
              refine ⟨(closed_agg (all_cons' (closed_own _ _ _ _) (all_cons' (closed_own _ _ _ _) all_nil'))), (closedS_cons (closedAll _ _ _ _ cl_eVcpu) (closedS_cons (closedAll _ _ _ _ cl_eBool) closedS_nil)), ?_⟩
              refine aops_cons rfl (w_store (cells' := [_, _]) rfl rfl rfl (by repeat (first | exact Pick.here _ _ _ | apply Pick.next)) cn_27 (by rfl) (by rfl) (by rfl) trivial ?_)
              refine aops_nil ?_
              refine a_region ?_
              refine aops_cons rfl (w_pure rfl (p_move rfl) ?_)
              refine aops_cons rfl (w_pure rfl (p_add' rfl rfl ⟨by omega, by omega⟩) ?_)
              refine aops_cons rfl (w_pure rfl (p_assign rfl) ?_)
              refine aops_nil ?_
              refine ⟨(k + 1, _, _, _, _, _, _, _, _), _, ?_, ?_, (by repeat (first | exact Knows.nil | refine Knows.cons (by rfl) ?_)), (by repeat (first | exact Back.refl _ _ | refine Back.cons (by rfl) ?_)), (by repeat (first | exact Picks.nil _ | exact Pick.here _ _ _ | apply Pick.next | apply Picks.cons))⟩
              · first | exact hR.next g (by omega) (st_tick (by assumption)) | exact hR.next g (by omega) (st_tickH (by assumption)) | exact hR.next g (by omega) (st_sig1 (by assumption) (by assumption) (by assumption) (by assumption)) | exact hR.next g (by omega) (st_sig2 (by assumption) (by assumption) (by assumption) (by assumption)) | exact hR.next g (by omega) (st_sig3 (by assumption) (by assumption) (by assumption)) | exact hR.next g (by omega) (st_wait1 (by assumption) (by assumption) (by assumption) (by assumption) (by assumption)) | exact hR.next g (by omega) (st_wait2 (by assumption) (by assumption) (by assumption) (by assumption) (by assumption)) | exact hR.next g (by omega) (st_wait3 (by assumption) (by assumption) (by assumption) (by assumption)) | exact hR.next g (by omega) (st_none (by assumption) (by assumption) (by assumption))
              · (try dsimp only); omega
          · (try simp only [Bool.not_eq_true', Bool.not_eq_false', Bool.not_eq_true, Bool.not_eq_false, decide_eq_true_eq, decide_eq_false_iff_not, List.length_map, List.length_range] at h14)
            refine g_pass' rfl rfl rfl rfl rfl ?_
            refine g_pass' rfl rfl rfl rfl rfl ?_
            refine g_pass' rfl rfl rfl rfl rfl ?_
            refine g_pass' rfl rfl rfl rfl rfl ?_
            refine aops_cons rfl (w_pure rfl (p_pick_f rfl rfl) ?_)
            refine aops_nil ?_
            refine a_cond_f rfl ?_
            refine a_skip ?_
            refine a_region ?_
            refine aops_cons rfl (w_pure rfl (p_load_box_all ag_27 rfl (by repeat (first | exact Pick.here _ _ _ | apply Pick.next)) (by rfl) noX) ?_)
            refine aops_cons rfl (w_pure rfl (p_move rfl) ?_)
            refine aops_cons rfl (w_callL rfl rfl rfl cl_70 (.cons (.agg (.cons (.own (by repeat (first | exact List.Mem.head _ | apply List.Mem.tail)) (by first | (simp; done) | (simp; assumption) | (simp; omega) | (simp [mkL]; done))) (.cons (.own (by repeat (first | exact List.Mem.head _ | apply List.Mem.tail)) (by first | (simp; done) | (simp; assumption) | (simp; omega) | (simp [mkL]; done))) .nil))) (.cons (.refl _) .nil)) (co_spec_l15Wait (⟨l, e⟩ : Hall) (small_of hR.hall ⟨rfl, rfl⟩) (findI h.list (ops.getD k zHallOp).id) (by have := hid (by omega); omega) (by have := hid (by omega); show _ < (l.length : Int); omega) hsm.2.2.2) ?_)
            rintro _ _ ⟨b21, b22, rfl, rfl⟩
            refine ⟨(closed_agg (all_cons' (closed_own _ _ _ _) (all_cons' (closed_own _ _ _ _) all_nil'))), (closedS_cons (closedAll _ _ _ _ cl_eVcpu) (closedS_cons (closedAll _ _ _ _ cl_eBool) closedS_nil)), ?_⟩
            refine aops_cons rfl (w_store (cells' := [_, _]) rfl rfl rfl (by repeat (first | exact Pick.here _ _ _ | apply Pick.next)) cn_27 (by rfl) (by rfl) (by rfl) trivial ?_)
            refine aops_nil ?_
            refine a_region ?_
            refine aops_cons rfl (w_pure rfl (p_move rfl) ?_)
            refine aops_cons rfl (w_pure rfl (p_add' rfl rfl ⟨by omega, by omega⟩) ?_)
            refine aops_cons rfl (w_pure rfl (p_assign rfl) ?_)
            refine aops_nil ?_
            refine ⟨(k + 1, _, _, _, _, _, _, _, _), _, ?_, ?_, (by repeat (first | exact Knows.nil | refine Knows.cons (by rfl) ?_)), (by repeat (first | exact Back.refl _ _ | refine Back.cons (by rfl) ?_)), (by repeat (first | exact Picks.nil _ | exact Pick.here _ _ _ | apply Pick.next | apply Picks.cons))⟩
            · first | exact hR.next g (by omega) (st_tick (by assumption)) | exact hR.next g (by omega) (st_tickH (by assumption)) | exact hR.next g (by omega) (st_sig1 (by assumption) (by assumption) (by assumption) (by assumption)) | exact hR.next g (by omega) (st_sig2 (by assumption) (by assumption) (by assumption) (by assumption)) | exact hR.next g (by omega) (st_sig3 (by assumption) (by assumption) (by assumption)) | exact hR.next g (by omega) (st_wait1 (by assumption) (by assumption) (by assumption) (by assumption) (by assumption)) | exact hR.next g (by omega) (st_wait2 (by assumption) (by assumption) (by assumption) (by assumption) (by assumption)) | exact hR.next g (by omega) (st_wait3 (by assumption) (by assumption) (by assumption) (by assumption)) | exact hR.next g (by omega) (st_none (by assumption) (by assumption) (by assumption))
            · (try dsimp only); omega
        · (try simp only [Bool.not_eq_true', Bool.not_eq_false', Bool.not_eq_true, Bool.not_eq_false, decide_eq_true_eq, decide_eq_false_iff_not, List.length_map, List.length_range] at h12)
          refine a_skip ?_
          refine a_region ?_
          refine aops_cons rfl (w_pure rfl (p_move rfl) ?_)
          refine aops_cons rfl (w_pure rfl (p_add' rfl rfl ⟨by omega, by omega⟩) ?_)
          refine aops_cons rfl (w_pure rfl (p_assign rfl) ?_)
          refine aops_nil ?_
          refine ⟨(k + 1, _, _, _, _, _, _, _, _), _, ?_, ?_, (by repeat (first | exact Knows.nil | refine Knows.cons (by rfl) ?_)), (by repeat (first | exact Back.refl _ _ | refine Back.cons (by rfl) ?_)), (by repeat (first | exact Picks.nil _ | exact Pick.here _ _ _ | apply Pick.next | apply Picks.cons))⟩
          · first | exact hR.next g (by omega) (st_tick (by assumption)) | exact hR.next g (by omega) (st_tickH (by assumption)) | exact hR.next g (by omega) (st_sig1 (by assumption) (by assumption) (by assumption) (by assumption)) | exact hR.next g (by omega) (st_sig2 (by assumption) (by assumption) (by assumption) (by assumption)) | exact hR.next g (by omega) (st_sig3 (by assumption) (by assumption) (by assumption)) | exact hR.next g (by omega) (st_wait1 (by assumption) (by assumption) (by assumption) (by assumption) (by assumption)) | exact hR.next g (by omega) (st_wait2 (by assumption) (by assumption) (by assumption) (by assumption) (by assumption)) | exact hR.next g (by omega) (st_wait3 (by assumption) (by assumption) (by assumption) (by assumption)) | exact hR.next g (by omega) (st_none (by assumption) (by assumption) (by assumption))
          · (try dsimp only); omega
  · (try simp only [Bool.not_eq_true', Bool.not_eq_false', Bool.not_eq_true, Bool.not_eq_false, decide_eq_true_eq, decide_eq_false_iff_not, List.length_map, List.length_range] at h2)
    refine a_exit ?_
    refine a_seq ?_
    refine a_region ?_
    refine aops_cons rfl (w_pure rfl (p_load_box_all ag_27 rfl (by repeat (first | exact Pick.here _ _ _ | apply Pick.next)) (by rfl) noX) ?_)
    refine aops_cons rfl (w_pure rfl (p_move rfl) ?_)
    refine aops_cons rfl (w_pure rfl (p_move rfl) ?_)
    refine aops_cons rfl (w_pure rfl (p_move rfl) ?_)
    refine aops_cons rfl (w_store (cells' := [_, _]) rfl rfl rfl (by repeat (first | exact Pick.here _ _ _ | apply Pick.next)) cn_27 (by rfl) (by rfl) (by rfl) trivial ?_)
    refine aops_cons rfl (w_pure rfl (p_assign rfl) ?_)
    refine aops_cons rfl (w_pure rfl (p_assign rfl) ?_)
    refine aops_cons rfl (w_pure rfl (p_assign rfl) ?_)
    refine aops_nil ?_
    refine a_ret ?_
    refine ret_ok (hands4 rfl (.cell ag_27 rfl (by repeat (first | exact Pick.here _ _ _ | apply Pick.next)) (by rfl)) (.tmp rfl) (.tmp rfl) (.tmp rfl)) (st' := [(b1, _), (b2, _), (c, _)]) (.cons (by repeat (first | exact Pick.here _ _ _ | apply Pick.next)) (.cons (by repeat (first | exact Pick.here _ _ _ | apply Pick.next)) (.cons (by repeat (first | exact Pick.here _ _ _ | apply Pick.next)) (.nil _)))) ?_
    exact ⟨_, _, _, by rw [hR.fin (by omega)], by rw [hR.fin (by omega)]⟩

theorem c_spec_l15Run (h : Hall) (hn : SmallHall h) (ops : List HallOp) (hm : ops.length ≤ 1048576) (id : Int) (g : GoodOps h ops) : ACalls Try.prog 35 [.agg (eHall h), .sl (ops.map eHallOp), .int .i64 id] [] (Ret (.tup [.agg (eHall (fin h ops id).hall), .sl ((fin h ops id).ticks.map eInt), .int .i64 (fin h ops id).woken, .int .i64 (fin h ops id).takes])) :=
  (co_spec_l15Run h hn ops hm id g).freeze (by rintro _ _ ⟨_, _, _, rfl, rfl⟩; exact (.tup (.cons (.agg (.cons (.own (by repeat (first | exact List.Mem.head _ | apply List.Mem.tail)) (List.length_map _)) (.cons (.own (by repeat (first | exact List.Mem.head _ | apply List.Mem.tail)) (List.length_map _)) .nil))) (.cons (.own (by repeat (first | exact List.Mem.head _ | apply List.Mem.tail)) (List.length_map _)) (.cons (.refl _) (.cons (.refl _) .nil))))))

theorem cy_impl_runHall (h : Hall) (hn : SmallHall h) (ops : List HallOp) (hm : ops.length ≤ 1048576) (id : Int) (g : GoodOps h ops) : ACalls Try.prog 33 [.agg (eHall h), .sl (ops.map eHallOp), .int .i64 id] [] (fun r st => ∃ b1 b2 b3, r = .tup [.agg [.own 5 b1 0 (fin h ops id).hall.list.length, .own 1 b2 0 (fin h ops id).hall.events.length, .own 1 b3 0 (fin h ops id).ticks.length, .int .i64 (fin h ops id).woken, .int .i64 (fin h ops id).takes], .bool true] ∧ st = [(b1, .arr 56 5 ((fin h ops id).hall.list.map eVcpu)), (b2, .arr 4 1 ((fin h ops id).hall.events.map eBool)), (b3, .arr 3 1 ((fin h ops id).ticks.map eInt))]) := by
  have hnn := hn
  obtain ⟨hn1, hn2⟩ := hnn
  have hops := g.2.1
  refine a_enter Try.func33 rfl rfl (fun w0 M0 => ?_)
  refine a_seq ?_
  refine a_region ?_
  refine aops_cons rfl (w_box_v rfl rfl rfl ?_)
  refine aops_cons rfl (w_alloc rfl z_70 fun b1 => ?_)
  refine aops_cons rfl (w_pure rfl (p_assign rfl) ?_)
  refine aops_nil ?_
  refine a_seq ?_
  refine a_seq ?_
  refine a_region ?_
  refine aops_cons rfl (w_pure rfl (p_load_v_all ag_27 rfl (by rfl) noX) ?_)
  refine aops_cons rfl (w_callR rfl rfl rfl cl_39 (c_impl_IsHall _ ‹_›) ?_)
  refine aops_cons rfl (w_pure rfl (p_not rfl) ?_)
  refine aops_cons rfl (w_pure rfl (p_move rfl) ?_)
  first | refine aops_split_d 17 rfl (fun h1 => ?_) (fun h2 => ?_) | refine aops_split 17 rfl (fun h1 => ?_) (fun h2 => ?_)
  · (try simp only [Bool.not_eq_true', Bool.not_eq_false', Bool.not_eq_true, Bool.not_eq_false, decide_eq_true_eq, decide_eq_false_iff_not, List.length_map, List.length_range] at h1)
    refine g_pass' rfl rfl rfl rfl rfl ?_
    refine g_pass' rfl rfl rfl rfl rfl ?_
    refine g_pass' rfl rfl rfl rfl rfl ?_
    refine aops_cons rfl (w_pure rfl (p_pick_t rfl rfl) ?_)
    refine aops_cons rfl (w_pure rfl (p_move rfl) ?_)
    refine g_pass' rfl rfl rfl rfl rfl ?_
    refine g_pass' rfl rfl rfl rfl rfl ?_
    refine g_pass' rfl rfl rfl rfl rfl ?_
    refine aops_cons rfl (w_pure rfl (p_pick_t rfl rfl) ?_)
    refine aops_nil ?_
    refine a_cond_t rfl ?_
    refine a_seq ?_
    refine a_region ?_
    refine aops_cons rfl (w_pure rfl (p_build (cells := [_, _, _, _, _]) z_70 pl_70 rfl rfl) ?_)
    refine aops_cons rfl (w_store (cells' := [_, _, _, _, _]) rfl rfl rfl (by repeat (first | exact Pick.here _ _ _ | apply Pick.next)) cn_70 (by rfl) (by rfl) (by rfl) trivial ?_)
    refine aops_cons rfl (w_pure rfl (p_assign rfl) ?_)
    refine aops_nil ?_
    refine a_ret ?_
    refine ret_ok (hands2 rfl (.cell ag_70 rfl (by repeat (first | exact Pick.here _ _ _ | apply Pick.next)) (by rfl)) (.tmp rfl)) (.nil _) ?_
    first | (exfalso; first | exact absurd g.1 (by assumption) | (have q1 := g.2.1; have q2 := g.2.2; omega)) | exact ⟨_, _, _, by rw [hR.fin (by omega), hsm.1, hsm.2.1], by rw [hR.fin (by omega)]⟩
  · (try simp only [Bool.not_eq_true', Bool.not_eq_false', Bool.not_eq_true, Bool.not_eq_false, decide_eq_true_eq, decide_eq_false_iff_not, List.length_map, List.length_range] at h2)
    refine aops_guard_t rfl rfl rfl (w_pure rfl (p_move rfl) ?_)
    refine aops_guard_t rfl rfl rfl (w_pure rfl (p_len sl_28 rfl rfl) ?_)
    refine aops_guard_t rfl rfl rfl (w_pure rfl (p_gtr rfl rfl) ?_)
    refine aops_cons rfl (w_pure rfl (p_pick_f rfl rfl) ?_)
    refine aops_cons rfl (w_pure rfl (p_move rfl) ?_)
    first | refine aops_split_d 22 rfl (fun h3 => ?_) (fun h4 => ?_) | refine aops_split 22 rfl (fun h3 => ?_) (fun h4 => ?_)
    · (try simp only [Bool.not_eq_true', Bool.not_eq_false', Bool.not_eq_true, Bool.not_eq_false, decide_eq_true_eq, decide_eq_false_iff_not, List.length_map, List.length_range] at h3)
      refine g_pass' rfl rfl rfl rfl rfl ?_
      refine g_pass' rfl rfl rfl rfl rfl ?_
      refine g_pass' rfl rfl rfl rfl rfl ?_
      refine aops_cons rfl (w_pure rfl (p_pick_t rfl rfl) ?_)
      refine aops_nil ?_
      refine a_cond_t rfl ?_
      refine a_seq ?_
      refine a_region ?_
      refine aops_cons rfl (w_pure rfl (p_build (cells := [_, _, _, _, _]) z_70 pl_70 rfl rfl) ?_)
      refine aops_cons rfl (w_store (cells' := [_, _, _, _, _]) rfl rfl rfl (by repeat (first | exact Pick.here _ _ _ | apply Pick.next)) cn_70 (by rfl) (by rfl) (by rfl) trivial ?_)
      refine aops_cons rfl (w_pure rfl (p_assign rfl) ?_)
      refine aops_nil ?_
      refine a_ret ?_
      refine ret_ok (hands2 rfl (.cell ag_70 rfl (by repeat (first | exact Pick.here _ _ _ | apply Pick.next)) (by rfl)) (.tmp rfl)) (.nil _) ?_
      first | (exfalso; first | exact absurd g.1 (by assumption) | (have q1 := g.2.1; have q2 := g.2.2; omega)) | exact ⟨_, _, _, by rw [hR.fin (by omega), hsm.1, hsm.2.1], by rw [hR.fin (by omega)]⟩
    · (try simp only [Bool.not_eq_true', Bool.not_eq_false', Bool.not_eq_true, Bool.not_eq_false, decide_eq_true_eq, decide_eq_false_iff_not, List.length_map, List.length_range] at h4)
      refine aops_guard_t rfl rfl rfl (w_pure rfl (p_move rfl) ?_)
      refine aops_guard_t rfl rfl rfl (w_pure rfl (p_func rfl) ?_)
      refine aops_guard_t rfl rfl rfl (w_callR rfl rfl rfl cl_62 (c_slices_ContainsFunc_impl_HallOp_impl_HallOp h (by assumption) _ (by omega)) ?_)
      refine aops_cons rfl (w_pure rfl (p_pick_f rfl rfl) ?_)
      refine aops_nil ?_
      first | refine a_cond_d rfl (fun h5 => ?_) (fun h6 => ?_) | refine a_cond_n rfl (fun h5 => ?_) (fun h6 => ?_) | refine a_cond_nb rfl (fun h5 => ?_) (fun h6 => ?_) | refine a_cond rfl (fun h5 => ?_) (fun h6 => ?_)
      · (try simp only [Bool.not_eq_true', Bool.not_eq_false', Bool.not_eq_true, Bool.not_eq_false, decide_eq_true_eq, decide_eq_false_iff_not, List.length_map, List.length_range] at h5)
        refine a_seq ?_
        refine a_region ?_
        refine aops_cons rfl (w_pure rfl (p_build (cells := [_, _, _, _, _]) z_70 pl_70 rfl rfl) ?_)
        refine aops_cons rfl (w_store (cells' := [_, _, _, _, _]) rfl rfl rfl (by repeat (first | exact Pick.here _ _ _ | apply Pick.next)) cn_70 (by rfl) (by rfl) (by rfl) trivial ?_)
        refine aops_cons rfl (w_pure rfl (p_assign rfl) ?_)
        refine aops_nil ?_
        refine a_ret ?_
        refine ret_ok (hands2 rfl (.cell ag_70 rfl (by repeat (first | exact Pick.here _ _ _ | apply Pick.next)) (by rfl)) (.tmp rfl)) (.nil _) ?_
        first | (exfalso; first | exact absurd g.1 (by assumption) | (have q1 := g.2.1; have q2 := g.2.2; omega)) | exact ⟨_, _, _, by rw [hR.fin (by omega), hsm.1, hsm.2.1], by rw [hR.fin (by omega)]⟩
      · (try simp only [Bool.not_eq_true', Bool.not_eq_false', Bool.not_eq_true, Bool.not_eq_false, decide_eq_true_eq, decide_eq_false_iff_not, List.length_map, List.length_range] at h6)
        refine a_skip ?_
        refine a_seq ?_
        refine a_region ?_
        refine aops_cons rfl (w_pure rfl (p_load_v_all ag_27 rfl (by rfl) noX) ?_)
        refine aops_cons rfl (w_call rfl rfl rfl cl_40 (co_impl_newHall h (by assumption)) ?_)
        rintro _ _ ⟨b2, b3, rfl, rfl⟩
        refine aops_cons rfl (w_litM eInt [] rfl el_31 rfl rfl rfl rfl rfl fun b4 => ?_)
        refine aops_cons rfl (w_pure rfl (p_build (cells := [_, _, _, _, _]) z_70 pl_70 rfl rfl) ?_)
        refine aops_cons rfl (w_alloc rfl z_70 fun b5 => ?_)
        refine aops_cons rfl (w_store (cells' := [_, _, _, _, _]) rfl rfl rfl (by repeat (first | exact Pick.here _ _ _ | apply Pick.next)) cn_70 (by rfl) (by rfl) (by rfl) trivial ?_)
        refine aops_nil ?_
        refine a_seq ?_
        refine a_seq ?_
        refine a_region ?_
        refine aops_cons rfl (w_pure rfl (p_move rfl) ?_)
        refine aops_cons rfl (w_pure rfl (p_len sl_28 rfl rfl) ?_)
        refine aops_cons rfl (w_pure rfl (p_move rfl) ?_)
        refine aops_nil ?_
        refine a_block ?_
        refine a_loop (ι := Nat × Nat × Nat × Nat × List Vcpu × List Bool × List Int × Int × Int) (fun ⟨k, b1, b2, c, l, e, tk, w, t⟩ => RInv h ops id k l e tk w t) (fun ⟨k, b1, b2, c, l, e, tk, w, t⟩ => [(34, .int .i64 (k : Int))]) (fun ⟨k, b1, b2, c, l, e, tk, w, t⟩ => [(b5, .box [.own 5 b1 0 h.list.length, .own 1 b2 0 h.events.length, .own 1 c 0 tk.length, .int .i64 w, .int .i64 t]), (b1, .arr 56 5 (l.map eVcpu)), (b2, .arr 4 1 (e.map eBool)), (c, .arr 3 1 (tk.map eInt))]) (fun ⟨k, b1, b2, c, l, e, tk, w, t⟩ => ops.length - k) (0, b2, b3, b4, h.list, h.events, [], 0, 0) (.zero g) (by repeat (first | exact Knows.nil | refine Knows.cons (by rfl) ?_)) (by repeat (first | exact Picks.nil _ | exact Pick.here _ _ _ | apply Pick.next | apply Picks.cons)) ?_
        rintro ⟨k, b1, b2, c, l, e, tk, w, t⟩ hR
        replace hR : RInv h ops id k l e tk w t := hR; have hsm := hR.small; have hwb := hR.wb; have htb := hR.tb; have htl := hR.tl; have hfx := fun x => hR.find x; have hid : k < ops.length → _ := fun hk => hR.idx g hk
        refine a_seq ?_
        refine a_region ?_
        refine aops_cons rfl (w_pure rfl (p_lss rfl rfl) ?_)
        refine aops_nil ?_
        refine a_seq ?_
        first | refine a_cond_d rfl (fun h7 => ?_) (fun h8 => ?_) | refine a_cond_n rfl (fun h7 => ?_) (fun h8 => ?_) | refine a_cond_nb rfl (fun h7 => ?_) (fun h8 => ?_) | refine a_cond rfl (fun h7 => ?_) (fun h8 => ?_)
        · (try simp only [Bool.not_eq_true', Bool.not_eq_false', Bool.not_eq_true, Bool.not_eq_false, decide_eq_true_eq, decide_eq_false_iff_not, List.length_map, List.length_range] at h7)
          refine a_skip ?_
          refine a_seq ?_
          refine a_block ?_
          refine a_seq ?_
          refine a_region ?_
          refine aops_cons rfl (w_pure rfl (p_index_sl _ rfl rfl rfl (rowD _ _ zHallOp (by omega)) es_28) ?_)
          refine aops_cons rfl (w_pure rfl (p_load_v_all ag_37 rfl (by rfl) noX) ?_)
          refine aops_cons rfl (w_alloc rfl z_37 fun b6 => ?_)
          refine aops_cons rfl (w_store (cells' := [_, _]) rfl rfl rfl (by repeat (first | exact Pick.here _ _ _ | apply Pick.next)) cn_37 (by rfl) (by rfl) (by rfl) trivial ?_)
          refine aops_nil ?_
          refine a_seq ?_
          refine a_region ?_
          refine aops_cons rfl (w_pure rfl (p_field_v fo_27_0 rfl) ?_)
          refine aops_cons rfl (w_pure rfl (p_load_v ag_24 rfl (by rfl) noX) ?_)
          refine aops_cons rfl (w_pure rfl (p_field_box fo_37_1 rfl) ?_)
          refine aops_cons rfl (w_pure rfl (p_load_box ag_3 rfl (by repeat (first | exact Pick.here _ _ _ | apply Pick.next)) (by rfl) noX) ?_)
          refine aops_cons rfl (w_callR rfl rfl rfl cl_38 (c_impl_vcpuIndex _ (by omega) _) ?_)
          refine aops_cons rfl (w_pure rfl (p_assign rfl) ?_)
          refine aops_nil ?_
          refine a_block ?_
          refine a_seq ?_
          refine a_region ?_
          refine aops_cons rfl (w_pure rfl (p_field_box fo_37_0 rfl) ?_)
          refine aops_cons rfl (w_pure rfl (p_load_box ag_3 rfl (by repeat (first | exact Pick.here _ _ _ | apply Pick.next)) (by rfl) noX) ?_)
          refine aops_cons rfl (w_pure rfl (p_eql rfl rfl) ?_)
          refine aops_cons rfl (w_pure rfl (p_assign rfl) ?_)
          refine aops_nil ?_
          first | refine a_cond_d rfl (fun h9 => ?_) (fun h10 => ?_) | refine a_cond_n rfl (fun h9 => ?_) (fun h10 => ?_) | refine a_cond_nb rfl (fun h9 => ?_) (fun h10 => ?_) | refine a_cond rfl (fun h9 => ?_) (fun h10 => ?_)
          · (try simp only [Bool.not_eq_true', Bool.not_eq_false', Bool.not_eq_true, Bool.not_eq_false, decide_eq_true_eq, decide_eq_false_iff_not, List.length_map, List.length_range] at h9)
            refine a_seq ?_
            refine a_region ?_
            refine aops_cons rfl (w_pure rfl (p_field_box fo_70_0 rfl) ?_)
            refine aops_cons rfl (w_pure rfl (p_field_box fo_27_0 rfl) ?_)
            refine aops_cons rfl (w_pure rfl (p_load_box ag_24 rfl (by repeat (first | exact Pick.here _ _ _ | apply Pick.next)) (by rfl) noX) ?_)
            refine aops_cons rfl (w_callL rfl rfl rfl cl_43 (.cons (.own (by repeat (first | exact List.Mem.head _ | apply List.Mem.tail)) (by first | (simp; done) | (simp; assumption) | (simp; omega) | (simp [mkL]; done))) .nil) (cb_impl_tickVcpus l (by omega) hR.hall.1.1) ?_)
            rintro _ _ ⟨b7, rfl, rfl⟩
            refine ⟨(closed_tup (all_cons' (closed_own _ _ _ _) (all_cons' (closed_int _ _) all_nil'))), (closedS_cons (closedAll _ _ _ _ cl_eVcpu) closedS_nil), ?_⟩
            rw [tickB_len, hsm.1]
            refine aops_cons rfl (w_pure rfl (p_move rfl) ?_)
            refine aops_cons rfl (w_pure rfl (p_extract rfl rfl) ?_)
            refine aops_cons rfl (w_pure rfl (p_extract rfl rfl) ?_)
            refine aops_cons rfl (w_pure rfl (p_assign rfl) ?_)
            refine aops_cons rfl (w_pure rfl (p_assign rfl) ?_)
            refine aops_nil ?_
            refine a_seq ?_
            refine a_region ?_
            refine aops_cons rfl (w_pure rfl (p_move rfl) ?_)
            refine aops_cons rfl (w_pure rfl (p_field_box fo_70_0 rfl) ?_)
            refine aops_cons rfl (w_pure rfl (p_field_box fo_27_0 rfl) ?_)
            refine aops_cons rfl (w_store (cells' := [_, _, _, _, _]) rfl rfl rfl (by repeat (first | exact Pick.here _ _ _ | apply Pick.next)) cn_24 (by rfl) (by rfl) (by rfl) trivial ?_)
            refine aops_nil ?_
            refine a_region ?_
            refine aops_cons rfl (w_pure rfl (p_field_box fo_70_1 rfl) ?_)
            refine aops_cons rfl (w_pure rfl (p_load_box ag_31 rfl (by repeat (first | exact Pick.here _ _ _ | apply Pick.next)) (by rfl) noX) ?_)
            refine aops_cons rfl (w_pure rfl (p_move rfl) ?_)
            refine aops_cons rfl (w_lit_vM eInt [(tickB l).2] rfl el_31 rfl rfl rfl rfl rfl ?_)
            refine aops_cons rfl (w_appendM eInt rfl el_31 rfl rfl (by repeat (first | exact Pick.here _ _ _ | apply Pick.next)) rfl (.sl _) (fun _ => rfl) (fun _ => rfl) (by simp; omega) (by simp; omega) trivial fun b8 => ?_)
            refine aops_cons rfl (w_pure rfl (p_field_box fo_70_1 rfl) ?_)
            refine aops_cons rfl (w_store (cells' := [_, _, _, _, _]) rfl rfl rfl (by repeat (first | exact Pick.here _ _ _ | apply Pick.next)) cn_31 (by rfl) (by rfl) (by rfl) trivial ?_)
            refine aops_nil ?_
            refine a_region ?_
            refine aops_cons rfl (w_pure rfl (p_add' rfl rfl ⟨by omega, by omega⟩) ?_)
            refine aops_cons rfl (w_pure rfl (p_move rfl) ?_)
            refine aops_nil ?_
            refine ⟨(k + 1, _, _, _, _, _, _, _, _), _, ?_, ?_, (by repeat (first | exact Knows.nil | refine Knows.cons (by rfl) ?_)), (by repeat (first | exact Back.refl _ _ | refine Back.cons (by rfl) ?_)), (by repeat (first | exact Picks.nil _ | exact Pick.here _ _ _ | apply Pick.next | apply Picks.cons))⟩
            · first | exact hR.next g (by omega) (st_tick (by assumption)) | exact hR.next g (by omega) (st_tickH (by assumption)) | exact hR.next g (by omega) (st_sig1 (by assumption) (by assumption) (by assumption) (by assumption)) | exact hR.next g (by omega) (st_sig2 (by assumption) (by assumption) (by assumption) (by assumption)) | exact hR.next g (by omega) (st_sig3 (by assumption) (by assumption) (by assumption)) | exact hR.next g (by omega) (st_wait1 (by assumption) (by assumption) (by assumption) (by assumption) (by assumption)) | exact hR.next g (by omega) (st_wait2 (by assumption) (by assumption) (by assumption) (by assumption) (by assumption)) | exact hR.next g (by omega) (st_wait3 (by assumption) (by assumption) (by assumption) (by assumption)) | exact hR.next g (by omega) (st_none (by assumption) (by assumption) (by assumption))
            · (try dsimp only); omega
          · (try simp only [Bool.not_eq_true', Bool.not_eq_false', Bool.not_eq_true, Bool.not_eq_false, decide_eq_true_eq, decide_eq_false_iff_not, List.length_map, List.length_range] at h10)
            refine a_seq ?_
            refine a_region ?_
            refine aops_cons rfl (w_pure rfl (p_field_box fo_37_0 rfl) ?_)
            refine aops_cons rfl (w_pure rfl (p_load_box ag_3 rfl (by repeat (first | exact Pick.here _ _ _ | apply Pick.next)) (by rfl) noX) ?_)
            refine aops_cons rfl (w_pure rfl (p_eql rfl rfl) ?_)
            refine aops_cons rfl (w_pure rfl (p_assign rfl) ?_)
            refine aops_nil ?_
            first | refine a_cond_d rfl (fun h11 => ?_) (fun h12 => ?_) | refine a_cond_n rfl (fun h11 => ?_) (fun h12 => ?_) | refine a_cond_nb rfl (fun h11 => ?_) (fun h12 => ?_) | refine a_cond rfl (fun h11 => ?_) (fun h12 => ?_)
            · (try simp only [Bool.not_eq_true', Bool.not_eq_false', Bool.not_eq_true, Bool.not_eq_false, decide_eq_true_eq, decide_eq_false_iff_not, List.length_map, List.length_range] at h11)
              refine a_seq ?_
              refine a_region ?_
              refine aops_cons rfl (w_pure rfl (p_field_box fo_70_0 rfl) ?_)
              refine aops_cons rfl (w_pure rfl (p_move rfl) ?_)
              refine aops_cons rfl (w_callM0 rfl rfl rfl cl_42 (.cons (by repeat (first | exact Pick.here _ _ _ | apply Pick.next)) (.cons (by repeat (first | exact Pick.here _ _ _ | apply Pick.next)) (.cons (by repeat (first | exact Pick.here _ _ _ | apply Pick.next)) (.nil _)))) (c3_impl_signal _ _ _ _ _ _ (⟨l, e⟩ : Hall) (small_of hR.hall ⟨rfl, rfl⟩) hsm.1 hsm.2.1 (findI h.list (ops.getD k zHallOp).id) (by have := hid (by omega); omega) (by have := hid (by omega); show _ < (l.length : Int); omega) hsm.2.2.2) trivial ?_)
              rintro _ _ ⟨rfl, rfl⟩
              refine aops_cons rfl (w_pure rfl (p_move rfl) ?_)
              first | refine aops_split_d 70 rfl (fun h13 => ?_) (fun h14 => ?_) | refine aops_split 70 rfl (fun h13 => ?_) (fun h14 => ?_)
              · (try simp only [Bool.not_eq_true', Bool.not_eq_false', Bool.not_eq_true, Bool.not_eq_false, decide_eq_true_eq, decide_eq_false_iff_not, List.length_map, List.length_range] at h13)
                refine aops_guard_t rfl rfl rfl (w_pure rfl (p_field_box fo_37_1 rfl) ?_)
                refine aops_guard_t rfl rfl rfl (w_pure rfl (p_load_box ag_3 rfl (by repeat (first | exact Pick.here _ _ _ | apply Pick.next)) (by rfl) noX) ?_)
                refine aops_guard_t rfl rfl rfl (w_pure rfl (p_move rfl) ?_)
                refine aops_guard_t rfl rfl rfl (w_pure rfl (p_eql rfl rfl) ?_)
                refine aops_cons rfl (w_pure rfl (p_pick_t rfl rfl) ?_)
                refine aops_nil ?_
                first | refine a_cond_d rfl (fun h15 => ?_) (fun h16 => ?_) | refine a_cond_n rfl (fun h15 => ?_) (fun h16 => ?_) | refine a_cond_nb rfl (fun h15 => ?_) (fun h16 => ?_) | refine a_cond rfl (fun h15 => ?_) (fun h16 => ?_)
                · (try simp only [Bool.not_eq_true', Bool.not_eq_false', Bool.not_eq_true, Bool.not_eq_false, decide_eq_true_eq, decide_eq_false_iff_not, List.length_map, List.length_range] at h15)
                  refine a_region ?_
                  refine aops_cons rfl (w_pure rfl (p_field_box fo_70_2 rfl) ?_)
                  refine aops_cons rfl (w_pure rfl (p_load_box ag_3 rfl (by repeat (first | exact Pick.here _ _ _ | apply Pick.next)) (by rfl) noX) ?_)
                  refine aops_cons rfl (w_pure rfl (p_add' rfl rfl ⟨by omega, by omega⟩) ?_)
                  refine aops_cons rfl (w_pure rfl (p_field_box fo_70_2 rfl) ?_)
                  refine aops_cons rfl (w_store (cells' := [_, _, _, _, _]) rfl rfl rfl (by repeat (first | exact Pick.here _ _ _ | apply Pick.next)) cn_3 (by rfl) (by rfl) (by rfl) trivial ?_)
                  refine aops_nil ?_
                  refine a_region ?_
                  refine aops_cons rfl (w_pure rfl (p_add' rfl rfl ⟨by omega, by omega⟩) ?_)
                  refine aops_cons rfl (w_pure rfl (p_move rfl) ?_)
                  refine aops_nil ?_
                  refine ⟨(k + 1, _, _, _, _, _, _, _, _), _, ?_, ?_, (by repeat (first | exact Knows.nil | refine Knows.cons (by rfl) ?_)), (by repeat (first | exact Back.refl _ _ | refine Back.cons (by rfl) ?_)), (by repeat (first | exact Picks.nil _ | exact Pick.here _ _ _ | apply Pick.next | apply Picks.cons))⟩
                  · first | exact hR.next g (by omega) (st_tick (by assumption)) | exact hR.next g (by omega) (st_tickH (by assumption)) | exact hR.next g (by omega) (st_sig1 (by assumption) (by assumption) (by assumption) (by assumption)) | exact hR.next g (by omega) (st_sig2 (by assumption) (by assumption) (by assumption) (by assumption)) | exact hR.next g (by omega) (st_sig3 (by assumption) (by assumption) (by assumption)) | exact hR.next g (by omega) (st_wait1 (by assumption) (by assumption) (by assumption) (by assumption) (by assumption)) | exact hR.next g (by omega) (st_wait2 (by assumption) (by assumption) (by assumption) (by assumption) (by assumption)) | exact hR.next g (by omega) (st_wait3 (by assumption) (by assumption) (by assumption) (by assumption)) | exact hR.next g (by omega) (st_none (by assumption) (by assumption) (by assumption))
                  · (try dsimp only); omega
                · (try simp only [Bool.not_eq_true', Bool.not_eq_false', Bool.not_eq_true, Bool.not_eq_false, decide_eq_true_eq, decide_eq_false_iff_not, List.length_map, List.length_range] at h16)
                  refine a_skip ?_
                  refine a_region ?_
                  refine aops_cons rfl (w_pure rfl (p_add' rfl rfl ⟨by omega, by omega⟩) ?_)
                  refine aops_cons rfl (w_pure rfl (p_move rfl) ?_)
                  refine aops_nil ?_
                  refine ⟨(k + 1, _, _, _, _, _, _, _, _), _, ?_, ?_, (by repeat (first | exact Knows.nil | refine Knows.cons (by rfl) ?_)), (by repeat (first | exact Back.refl _ _ | refine Back.cons (by rfl) ?_)), (by repeat (first | exact Picks.nil _ | exact Pick.here _ _ _ | apply Pick.next | apply Picks.cons))⟩
                  · first | exact hR.next g (by omega) (st_tick (by assumption)) | exact hR.next g (by omega) (st_tickH (by assumption)) | exact hR.next g (by omega) (st_sig1 (by assumption) (by assumption) (by assumption) (by assumption)) | exact hR.next g (by omega) (st_sig2 (by assumption) (by assumption) (by assumption) (by assumption)) | exact hR.next g (by omega) (st_sig3 (by assumption) (by assumption) (by assumption)) | exact hR.next g (by omega) (st_wait1 (by assumption) (by assumption) (by assumption) (by assumption) (by assumption)) | exact hR.next g (by omega) (st_wait2 (by assumption) (by assumption) (by assumption) (by assumption) (by assumption)) | exact hR.next g (by omega) (st_wait3 (by assumption) (by assumption) (by assumption) (by assumption)) | exact hR.next g (by omega) (st_none (by assumption) (by assumption) (by assumption))
                  · (try dsimp only); omega
              · (try simp only [Bool.not_eq_true', Bool.not_eq_false', Bool.not_eq_true, Bool.not_eq_false, decide_eq_true_eq, decide_eq_false_iff_not, List.length_map, List.length_range] at h14)
                refine g_pass' rfl rfl rfl rfl rfl ?_
                refine g_pass' rfl rfl rfl rfl rfl ?_
                refine g_pass' rfl rfl rfl rfl rfl ?_
                refine g_pass' rfl rfl rfl rfl rfl ?_
                refine aops_cons rfl (w_pure rfl (p_pick_f rfl rfl) ?_)
                refine aops_nil ?_
                refine a_cond_f rfl ?_
                refine a_skip ?_
                refine a_region ?_
                refine aops_cons rfl (w_pure rfl (p_add' rfl rfl ⟨by omega, by omega⟩) ?_)
                refine aops_cons rfl (w_pure rfl (p_move rfl) ?_)
                refine aops_nil ?_
                refine ⟨(k + 1, _, _, _, _, _, _, _, _), _, ?_, ?_, (by repeat (first | exact Knows.nil | refine Knows.cons (by rfl) ?_)), (by repeat (first | exact Back.refl _ _ | refine Back.cons (by rfl) ?_)), (by repeat (first | exact Picks.nil _ | exact Pick.here _ _ _ | apply Pick.next | apply Picks.cons))⟩
                · first | exact hR.next g (by omega) (st_tick (by assumption)) | exact hR.next g (by omega) (st_tickH (by assumption)) | exact hR.next g (by omega) (st_sig1 (by assumption) (by assumption) (by assumption) (by assumption)) | exact hR.next g (by omega) (st_sig2 (by assumption) (by assumption) (by assumption) (by assumption)) | exact hR.next g (by omega) (st_sig3 (by assumption) (by assumption) (by assumption)) | exact hR.next g (by omega) (st_wait1 (by assumption) (by assumption) (by assumption) (by assumption) (by assumption)) | exact hR.next g (by omega) (st_wait2 (by assumption) (by assumption) (by assumption) (by assumption) (by assumption)) | exact hR.next g (by omega) (st_wait3 (by assumption) (by assumption) (by assumption) (by assumption)) | exact hR.next g (by omega) (st_none (by assumption) (by assumption) (by assumption))
                · (try dsimp only); omega
            · (try simp only [Bool.not_eq_true', Bool.not_eq_false', Bool.not_eq_true, Bool.not_eq_false, decide_eq_true_eq, decide_eq_false_iff_not, List.length_map, List.length_range] at h12)
              refine a_seq ?_
              refine a_region ?_
              refine aops_cons rfl (w_pure rfl (p_field_box fo_70_0 rfl) ?_)
              refine aops_cons rfl (w_pure rfl (p_field_box fo_27_0 rfl) ?_)
              refine aops_cons rfl (w_pure rfl (p_load_box ag_24 rfl (by repeat (first | exact Pick.here _ _ _ | apply Pick.next)) (by rfl) noX) ?_)
              refine aops_cons rfl (w_pure rfl (p_move rfl) ?_)
              refine aops_cons rfl (w_pure rfl (p_index_own0 (findI h.list (ops.getD k zHallOp).id).toNat rfl rfl (by have := hid (by omega); omega) (by have := hid (by omega); omega) es_24) ?_)
              refine aops_cons rfl (w_pure rfl (p_field_e fo_56_3 rfl) ?_)
              refine aops_cons rfl (w_pure rfl (p_load_e ag_4 rfl (by repeat (first | exact Pick.here _ _ _ | apply Pick.next)) (rowD _ _ zVcpu (by have := hid (by omega); omega)) (by rfl) noX) ?_)
              refine aops_cons rfl (w_pure rfl (p_not rfl) ?_)
              refine aops_cons rfl (w_pure rfl (p_assign rfl) ?_)
              refine aops_nil ?_
              first | refine a_cond_d rfl (fun h17 => ?_) (fun h18 => ?_) | refine a_cond_n rfl (fun h17 => ?_) (fun h18 => ?_) | refine a_cond_nb rfl (fun h17 => ?_) (fun h18 => ?_) | refine a_cond rfl (fun h17 => ?_) (fun h18 => ?_)
              · (try simp only [Bool.not_eq_true', Bool.not_eq_false', Bool.not_eq_true, Bool.not_eq_false, decide_eq_true_eq, decide_eq_false_iff_not, List.length_map, List.length_range] at h17)
                refine a_seq ?_
                refine a_region ?_
                refine aops_cons rfl (w_pure rfl (p_field_box fo_70_0 rfl) ?_)
                refine aops_cons rfl (w_pure rfl (p_move rfl) ?_)
                refine aops_cons rfl (w_callM0 rfl rfl rfl cl_41 (.cons (by repeat (first | exact Pick.here _ _ _ | apply Pick.next)) (.cons (by repeat (first | exact Pick.here _ _ _ | apply Pick.next)) (.cons (by repeat (first | exact Pick.here _ _ _ | apply Pick.next)) (.nil _)))) (c3_impl_wait _ _ _ _ _ _ (⟨l, e⟩ : Hall) (small_of hR.hall ⟨rfl, rfl⟩) hsm.1 hsm.2.1 (findI h.list (ops.getD k zHallOp).id) (by have := hid (by omega); omega) (by have := hid (by omega); show _ < (l.length : Int); omega) hsm.2.2.2) trivial ?_)
                rintro _ _ ⟨rfl, rfl⟩
                refine aops_cons rfl (w_pure rfl (p_move rfl) ?_)
                first | refine aops_split_d 92 rfl (fun h19 => ?_) (fun h20 => ?_) | refine aops_split 92 rfl (fun h19 => ?_) (fun h20 => ?_)
                · (try simp only [Bool.not_eq_true', Bool.not_eq_false', Bool.not_eq_true, Bool.not_eq_false, decide_eq_true_eq, decide_eq_false_iff_not, List.length_map, List.length_range] at h19)
                  refine aops_guard_t rfl rfl rfl (w_pure rfl (p_field_box fo_37_1 rfl) ?_)
                  refine aops_guard_t rfl rfl rfl (w_pure rfl (p_load_box ag_3 rfl (by repeat (first | exact Pick.here _ _ _ | apply Pick.next)) (by rfl) noX) ?_)
                  refine aops_guard_t rfl rfl rfl (w_pure rfl (p_move rfl) ?_)
                  refine aops_guard_t rfl rfl rfl (w_pure rfl (p_eql rfl rfl) ?_)
                  refine aops_cons rfl (w_pure rfl (p_pick_t rfl rfl) ?_)
                  refine aops_nil ?_
                  first | refine a_cond_d rfl (fun h21 => ?_) (fun h22 => ?_) | refine a_cond_n rfl (fun h21 => ?_) (fun h22 => ?_) | refine a_cond_nb rfl (fun h21 => ?_) (fun h22 => ?_) | refine a_cond rfl (fun h21 => ?_) (fun h22 => ?_)
                  · (try simp only [Bool.not_eq_true', Bool.not_eq_false', Bool.not_eq_true, Bool.not_eq_false, decide_eq_true_eq, decide_eq_false_iff_not, List.length_map, List.length_range] at h21)
                    refine a_region ?_
                    refine aops_cons rfl (w_pure rfl (p_field_box fo_70_3 rfl) ?_)
                    refine aops_cons rfl (w_pure rfl (p_load_box ag_3 rfl (by repeat (first | exact Pick.here _ _ _ | apply Pick.next)) (by rfl) noX) ?_)
                    refine aops_cons rfl (w_pure rfl (p_add' rfl rfl ⟨by omega, by omega⟩) ?_)
                    refine aops_cons rfl (w_pure rfl (p_field_box fo_70_3 rfl) ?_)
                    refine aops_cons rfl (w_store (cells' := [_, _, _, _, _]) rfl rfl rfl (by repeat (first | exact Pick.here _ _ _ | apply Pick.next)) cn_3 (by rfl) (by rfl) (by rfl) trivial ?_)
                    refine aops_nil ?_
                    refine a_region ?_
                    refine aops_cons rfl (w_pure rfl (p_add' rfl rfl ⟨by omega, by omega⟩) ?_)
                    refine aops_cons rfl (w_pure rfl (p_move rfl) ?_)
                    refine aops_nil ?_
                    refine ⟨(k + 1, _, _, _, _, _, _, _, _), _, ?_, ?_, (by repeat (first | exact Knows.nil | refine Knows.cons (by rfl) ?_)), (by repeat (first | exact Back.refl _ _ | refine Back.cons (by rfl) ?_)), (by repeat (first | exact Picks.nil _ | exact Pick.here _ _ _ | apply Pick.next | apply Picks.cons))⟩
                    · first | exact hR.next g (by omega) (st_tick (by assumption)) | exact hR.next g (by omega) (st_tickH (by assumption)) | exact hR.next g (by omega) (st_sig1 (by assumption) (by assumption) (by assumption) (by assumption)) | exact hR.next g (by omega) (st_sig2 (by assumption) (by assumption) (by assumption) (by assumption)) | exact hR.next g (by omega) (st_sig3 (by assumption) (by assumption) (by assumption)) | exact hR.next g (by omega) (st_wait1 (by assumption) (by assumption) (by assumption) (by assumption) (by assumption)) | exact hR.next g (by omega) (st_wait2 (by assumption) (by assumption) (by assumption) (by assumption) (by assumption)) | exact hR.next g (by omega) (st_wait3 (by assumption) (by assumption) (by assumption) (by assumption)) | exact hR.next g (by omega) (st_none (by assumption) (by assumption) (by assumption))
                    · (try dsimp only); omega
                  · (try simp only [Bool.not_eq_true', Bool.not_eq_false', Bool.not_eq_true, Bool.not_eq_false, decide_eq_true_eq, decide_eq_false_iff_not, List.length_map, List.length_range] at h22)
                    refine a_skip ?_
                    refine a_region ?_
                    refine aops_cons rfl (w_pure rfl (p_add' rfl rfl ⟨by omega, by omega⟩) ?_)
                    refine aops_cons rfl (w_pure rfl (p_move rfl) ?_)
                    refine aops_nil ?_
                    refine ⟨(k + 1, _, _, _, _, _, _, _, _), _, ?_, ?_, (by repeat (first | exact Knows.nil | refine Knows.cons (by rfl) ?_)), (by repeat (first | exact Back.refl _ _ | refine Back.cons (by rfl) ?_)), (by repeat (first | exact Picks.nil _ | exact Pick.here _ _ _ | apply Pick.next | apply Picks.cons))⟩
                    · first | exact hR.next g (by omega) (st_tick (by assumption)) | exact hR.next g (by omega) (st_tickH (by assumption)) | exact hR.next g (by omega) (st_sig1 (by assumption) (by assumption) (by assumption) (by assumption)) | exact hR.next g (by omega) (st_sig2 (by assumption) (by assumption) (by assumption) (by assumption)) | exact hR.next g (by omega) (st_sig3 (by assumption) (by assumption) (by assumption)) | exact hR.next g (by omega) (st_wait1 (by assumption) (by assumption) (by assumption) (by assumption) (by assumption)) | exact hR.next g (by omega) (st_wait2 (by assumption) (by assumption) (by assumption) (by assumption) (by assumption)) | exact hR.next g (by omega) (st_wait3 (by assumption) (by assumption) (by assumption) (by assumption)) | exact hR.next g (by omega) (st_none (by assumption) (by assumption) (by assumption))
                    · (try dsimp only); omega
                · (try simp only [Bool.not_eq_true', Bool.not_eq_false', Bool.not_eq_true, Bool.not_eq_false, decide_eq_true_eq, decide_eq_false_iff_not, List.length_map, List.length_range] at h20)
                  refine g_pass' rfl rfl rfl rfl rfl ?_
                  refine g_pass' rfl rfl rfl rfl rfl ?_
                  refine g_pass' rfl rfl rfl rfl rfl ?_
                  refine g_pass' rfl rfl rfl rfl rfl ?_
                  refine aops_cons rfl (w_pure rfl (p_pick_f rfl rfl) ?_)
                  refine aops_nil ?_
                  refine a_cond_f rfl ?_
                  refine a_skip ?_
                  refine a_region ?_
                  refine aops_cons rfl (w_pure rfl (p_add' rfl rfl ⟨by omega, by omega⟩) ?_)
                  refine aops_cons rfl (w_pure rfl (p_move rfl) ?_)
                  refine aops_nil ?_
                  refine ⟨(k + 1, _, _, _, _, _, _, _, _), _, ?_, ?_, (by repeat (first | exact Knows.nil | refine Knows.cons (by rfl) ?_)), (by repeat (first | exact Back.refl _ _ | refine Back.cons (by rfl) ?_)), (by repeat (first | exact Picks.nil _ | exact Pick.here _ _ _ | apply Pick.next | apply Picks.cons))⟩
                  · first | exact hR.next g (by omega) (st_tick (by assumption)) | exact hR.next g (by omega) (st_tickH (by assumption)) | exact hR.next g (by omega) (st_sig1 (by assumption) (by assumption) (by assumption) (by assumption)) | exact hR.next g (by omega) (st_sig2 (by assumption) (by assumption) (by assumption) (by assumption)) | exact hR.next g (by omega) (st_sig3 (by assumption) (by assumption) (by assumption)) | exact hR.next g (by omega) (st_wait1 (by assumption) (by assumption) (by assumption) (by assumption) (by assumption)) | exact hR.next g (by omega) (st_wait2 (by assumption) (by assumption) (by assumption) (by assumption) (by assumption)) | exact hR.next g (by omega) (st_wait3 (by assumption) (by assumption) (by assumption) (by assumption)) | exact hR.next g (by omega) (st_none (by assumption) (by assumption) (by assumption))
                  · (try dsimp only); omega
              · (try simp only [Bool.not_eq_true', Bool.not_eq_false', Bool.not_eq_true, Bool.not_eq_false, decide_eq_true_eq, decide_eq_false_iff_not, List.length_map, List.length_range] at h18)
                refine a_skip ?_
                refine a_region ?_
                refine aops_cons rfl (w_pure rfl (p_add' rfl rfl ⟨by omega, by omega⟩) ?_)
                refine aops_cons rfl (w_pure rfl (p_move rfl) ?_)
                refine aops_nil ?_
                refine ⟨(k + 1, _, _, _, _, _, _, _, _), _, ?_, ?_, (by repeat (first | exact Knows.nil | refine Knows.cons (by rfl) ?_)), (by repeat (first | exact Back.refl _ _ | refine Back.cons (by rfl) ?_)), (by repeat (first | exact Picks.nil _ | exact Pick.here _ _ _ | apply Pick.next | apply Picks.cons))⟩
                · first | exact hR.next g (by omega) (st_tick (by assumption)) | exact hR.next g (by omega) (st_tickH (by assumption)) | exact hR.next g (by omega) (st_sig1 (by assumption) (by assumption) (by assumption) (by assumption)) | exact hR.next g (by omega) (st_sig2 (by assumption) (by assumption) (by assumption) (by assumption)) | exact hR.next g (by omega) (st_sig3 (by assumption) (by assumption) (by assumption)) | exact hR.next g (by omega) (st_wait1 (by assumption) (by assumption) (by assumption) (by assumption) (by assumption)) | exact hR.next g (by omega) (st_wait2 (by assumption) (by assumption) (by assumption) (by assumption) (by assumption)) | exact hR.next g (by omega) (st_wait3 (by assumption) (by assumption) (by assumption) (by assumption)) | exact hR.next g (by omega) (st_none (by assumption) (by assumption) (by assumption))
                · (try dsimp only); omega
        · (try simp only [Bool.not_eq_true', Bool.not_eq_false', Bool.not_eq_true, Bool.not_eq_false, decide_eq_true_eq, decide_eq_false_iff_not, List.length_map, List.length_range] at h8)
          refine a_exit ?_
          refine a_seq ?_
          refine a_region ?_
          refine aops_cons rfl (w_pure rfl (p_load_box_all ag_70 rfl (by repeat (first | exact Pick.here _ _ _ | apply Pick.next)) (by rfl) noX) ?_)
          refine aops_cons rfl (w_store (cells' := [_, _, _, _, _]) rfl rfl rfl (by repeat (first | exact Pick.here _ _ _ | apply Pick.next)) cn_70 (by rfl) (by rfl) (by rfl) trivial ?_)
          refine aops_cons rfl (w_pure rfl (p_assign rfl) ?_)
          refine aops_nil ?_
          refine a_ret ?_
          refine ret_ok (hands2 rfl (.cell ag_70 rfl (by repeat (first | exact Pick.here _ _ _ | apply Pick.next)) (by rfl)) (.tmp rfl)) (st' := [(b1, _), (b2, _), (c, _)]) (.cons (by repeat (first | exact Pick.here _ _ _ | apply Pick.next)) (.cons (by repeat (first | exact Pick.here _ _ _ | apply Pick.next)) (.cons (by repeat (first | exact Pick.here _ _ _ | apply Pick.next)) (.nil _)))) ?_
          first | (exfalso; first | exact absurd g.1 (by assumption) | (have q1 := g.2.1; have q2 := g.2.2; omega)) | exact ⟨_, _, _, by rw [hR.fin (by omega), hsm.1, hsm.2.1], by rw [hR.fin (by omega)]⟩

theorem cn_impl_runHall (h : Hall) (hn : SmallHall h) (ops : List HallOp) (hm : ops.length ≤ 1048576) (id : Int) (g : ¬ GoodOps h ops) : ACalls Try.prog 33 [.agg (eHall h), .sl (ops.map eHallOp), .int .i64 id] [] (Ret (.tup [.agg [.nil, .nil, .nil, .int .i64 0, .int .i64 0], .bool false])) := by
  have hnn := hn
  obtain ⟨hn1, hn2⟩ := hnn
  refine a_enter Try.func33 rfl rfl (fun w0 M0 => ?_)
  refine a_seq ?_
  refine a_region ?_
  refine aops_cons rfl (w_box_v rfl rfl rfl ?_)
  refine aops_cons rfl (w_alloc rfl z_70 fun b1 => ?_)
  refine aops_cons rfl (w_pure rfl (p_assign rfl) ?_)
  refine aops_nil ?_
  refine a_seq ?_
  refine a_seq ?_
  refine a_region ?_
  refine aops_cons rfl (w_pure rfl (p_load_v_all ag_27 rfl (by rfl) noX) ?_)
  refine aops_cons rfl (w_callR rfl rfl rfl cl_39 (c_impl_IsHall _ ‹_›) ?_)
  refine aops_cons rfl (w_pure rfl (p_not rfl) ?_)
  refine aops_cons rfl (w_pure rfl (p_move rfl) ?_)
  first | refine aops_split_d 17 rfl (fun h1 => ?_) (fun h2 => ?_) | refine aops_split 17 rfl (fun h1 => ?_) (fun h2 => ?_)
  · (try simp only [Bool.not_eq_true', Bool.not_eq_false', Bool.not_eq_true, Bool.not_eq_false, decide_eq_true_eq, decide_eq_false_iff_not, List.length_map, List.length_range] at h1)
    refine g_pass' rfl rfl rfl rfl rfl ?_
    refine g_pass' rfl rfl rfl rfl rfl ?_
    refine g_pass' rfl rfl rfl rfl rfl ?_
    refine aops_cons rfl (w_pure rfl (p_pick_t rfl rfl) ?_)
    refine aops_cons rfl (w_pure rfl (p_move rfl) ?_)
    refine g_pass' rfl rfl rfl rfl rfl ?_
    refine g_pass' rfl rfl rfl rfl rfl ?_
    refine g_pass' rfl rfl rfl rfl rfl ?_
    refine aops_cons rfl (w_pure rfl (p_pick_t rfl rfl) ?_)
    refine aops_nil ?_
    refine a_cond_t rfl ?_
    refine a_seq ?_
    refine a_region ?_
    refine aops_cons rfl (w_pure rfl (p_build (cells := [_, _, _, _, _]) z_70 pl_70 rfl rfl) ?_)
    refine aops_cons rfl (w_store (cells' := [_, _, _, _, _]) rfl rfl rfl (by repeat (first | exact Pick.here _ _ _ | apply Pick.next)) cn_70 (by rfl) (by rfl) (by rfl) trivial ?_)
    refine aops_cons rfl (w_pure rfl (p_assign rfl) ?_)
    refine aops_nil ?_
    refine a_ret ?_
    refine ret_ok (hands2 rfl (.cell ag_70 rfl (by repeat (first | exact Pick.here _ _ _ | apply Pick.next)) (by rfl)) (.tmp rfl)) (.nil _) ?_
    exact ⟨rfl, rfl⟩
  · (try simp only [Bool.not_eq_true', Bool.not_eq_false', Bool.not_eq_true, Bool.not_eq_false, decide_eq_true_eq, decide_eq_false_iff_not, List.length_map, List.length_range] at h2)
    refine aops_guard_t rfl rfl rfl (w_pure rfl (p_move rfl) ?_)
    refine aops_guard_t rfl rfl rfl (w_pure rfl (p_len sl_28 rfl rfl) ?_)
    refine aops_guard_t rfl rfl rfl (w_pure rfl (p_gtr rfl rfl) ?_)
    refine aops_cons rfl (w_pure rfl (p_pick_f rfl rfl) ?_)
    refine aops_cons rfl (w_pure rfl (p_move rfl) ?_)
    first | refine aops_split_d 22 rfl (fun h3 => ?_) (fun h4 => ?_) | refine aops_split 22 rfl (fun h3 => ?_) (fun h4 => ?_)
    · (try simp only [Bool.not_eq_true', Bool.not_eq_false', Bool.not_eq_true, Bool.not_eq_false, decide_eq_true_eq, decide_eq_false_iff_not, List.length_map, List.length_range] at h3)
      refine g_pass' rfl rfl rfl rfl rfl ?_
      refine g_pass' rfl rfl rfl rfl rfl ?_
      refine g_pass' rfl rfl rfl rfl rfl ?_
      refine aops_cons rfl (w_pure rfl (p_pick_t rfl rfl) ?_)
      refine aops_nil ?_
      refine a_cond_t rfl ?_
      refine a_seq ?_
      refine a_region ?_
      refine aops_cons rfl (w_pure rfl (p_build (cells := [_, _, _, _, _]) z_70 pl_70 rfl rfl) ?_)
      refine aops_cons rfl (w_store (cells' := [_, _, _, _, _]) rfl rfl rfl (by repeat (first | exact Pick.here _ _ _ | apply Pick.next)) cn_70 (by rfl) (by rfl) (by rfl) trivial ?_)
      refine aops_cons rfl (w_pure rfl (p_assign rfl) ?_)
      refine aops_nil ?_
      refine a_ret ?_
      refine ret_ok (hands2 rfl (.cell ag_70 rfl (by repeat (first | exact Pick.here _ _ _ | apply Pick.next)) (by rfl)) (.tmp rfl)) (.nil _) ?_
      exact ⟨rfl, rfl⟩
    · (try simp only [Bool.not_eq_true', Bool.not_eq_false', Bool.not_eq_true, Bool.not_eq_false, decide_eq_true_eq, decide_eq_false_iff_not, List.length_map, List.length_range] at h4)
      refine aops_guard_t rfl rfl rfl (w_pure rfl (p_move rfl) ?_)
      refine aops_guard_t rfl rfl rfl (w_pure rfl (p_func rfl) ?_)
      refine aops_guard_t rfl rfl rfl (w_callR rfl rfl rfl cl_62 (c_slices_ContainsFunc_impl_HallOp_impl_HallOp h (by assumption) _ (by omega)) ?_)
      refine aops_cons rfl (w_pure rfl (p_pick_f rfl rfl) ?_)
      refine aops_nil ?_
      first | refine a_cond_d rfl (fun h5 => ?_) (fun h6 => ?_) | refine a_cond_n rfl (fun h5 => ?_) (fun h6 => ?_) | refine a_cond_nb rfl (fun h5 => ?_) (fun h6 => ?_) | refine a_cond rfl (fun h5 => ?_) (fun h6 => ?_)
      · (try simp only [Bool.not_eq_true', Bool.not_eq_false', Bool.not_eq_true, Bool.not_eq_false, decide_eq_true_eq, decide_eq_false_iff_not, List.length_map, List.length_range] at h5)
        refine a_seq ?_
        refine a_region ?_
        refine aops_cons rfl (w_pure rfl (p_build (cells := [_, _, _, _, _]) z_70 pl_70 rfl rfl) ?_)
        refine aops_cons rfl (w_store (cells' := [_, _, _, _, _]) rfl rfl rfl (by repeat (first | exact Pick.here _ _ _ | apply Pick.next)) cn_70 (by rfl) (by rfl) (by rfl) trivial ?_)
        refine aops_cons rfl (w_pure rfl (p_assign rfl) ?_)
        refine aops_nil ?_
        refine a_ret ?_
        refine ret_ok (hands2 rfl (.cell ag_70 rfl (by repeat (first | exact Pick.here _ _ _ | apply Pick.next)) (by rfl)) (.tmp rfl)) (.nil _) ?_
        exact ⟨rfl, rfl⟩
      · (try simp only [Bool.not_eq_true', Bool.not_eq_false', Bool.not_eq_true, Bool.not_eq_false, decide_eq_true_eq, decide_eq_false_iff_not, List.length_map, List.length_range] at h6)
        refine a_skip ?_
        refine a_seq ?_
        exact absurd (show GoodOps h ops from ⟨by assumption, by omega, by omega⟩) g

theorem cy_spec_RunHall (h : Hall) (hn : SmallHall h) (ops : List HallOp) (hm : ops.length ≤ 1048576) (hA : GoodOps h ops) : ACalls Try.prog 8 [.agg (eHall h), .sl (ops.map eHallOp)] [] (Ret (.tup [.agg (eHall (fin h ops 0).hall), .sl ((fin h ops 0).ticks.map eInt), .bool true])) := by
  have hnn := hn
  obtain ⟨hn1, hn2⟩ := hnn
  refine a_enter Try.func8 rfl rfl (fun w0 M0 => ?_)
  refine a_seq ?_
  refine a_region ?_
  refine aops_cons rfl (w_box_v rfl rfl rfl ?_)
  refine aops_cons rfl (w_alloc rfl z_27 fun b1 => ?_)
  refine aops_cons rfl (w_pure rfl (p_assign rfl) ?_)
  refine aops_cons rfl (w_pure rfl (p_assign rfl) ?_)
  refine aops_nil ?_
  refine a_seq ?_
  refine a_seq ?_
  refine a_region ?_
  refine aops_cons rfl (w_pure rfl (p_load_v_all ag_27 rfl (by rfl) noX) ?_)
  refine aops_cons rfl (w_pure rfl (p_move rfl) ?_)
  refine aops_cons rfl (w_callR rfl rfl rfl cl_34 (c_spec_l15Ops h (by assumption) _ (by omega)) ?_)
  refine aops_cons rfl (w_pure rfl (p_not rfl) ?_)
  refine aops_nil ?_
  first | refine a_cond_d rfl (fun h1 => ?_) (fun h2 => ?_) | refine a_cond_n rfl (fun h1 => ?_) (fun h2 => ?_) | refine a_cond_nb rfl (fun h1 => ?_) (fun h2 => ?_) | refine a_cond rfl (fun h1 => ?_) (fun h2 => ?_)
  · (try simp only [Bool.not_eq_true', Bool.not_eq_false', Bool.not_eq_true, Bool.not_eq_false, decide_eq_true_eq, decide_eq_false_iff_not, List.length_map, List.length_range] at h1)
    refine a_seq ?_
    refine a_region ?_
    refine aops_cons rfl (w_pure rfl (p_build (cells := [_, _]) z_27 pl_27 rfl rfl) ?_)
    refine aops_cons rfl (w_lit_vM eInt [] rfl el_31 rfl rfl rfl rfl rfl ?_)
    refine aops_cons rfl (w_store (cells' := [_, _]) rfl rfl rfl (by repeat (first | exact Pick.here _ _ _ | apply Pick.next)) cn_27 (by rfl) (by rfl) (by rfl) trivial ?_)
    refine aops_cons rfl (w_pure rfl (p_assign rfl) ?_)
    refine aops_cons rfl (w_pure rfl (p_assign rfl) ?_)
    refine aops_nil ?_
    refine a_ret ?_
    refine ret_ok (hands3 rfl (.cell ag_27 rfl (by repeat (first | exact Pick.here _ _ _ | apply Pick.next)) (by rfl)) (.tmp rfl) (.tmp rfl)) (.nil _) ?_
    first | exact ⟨rfl, rfl⟩ | exact absurd hA (by assumption)
  · (try simp only [Bool.not_eq_true', Bool.not_eq_false', Bool.not_eq_true, Bool.not_eq_false, decide_eq_true_eq, decide_eq_false_iff_not, List.length_map, List.length_range] at h2)
    refine a_skip ?_
    refine a_seq ?_
    refine a_region ?_
    refine aops_cons rfl (w_pure rfl (p_load_v_all ag_27 rfl (by rfl) noX) ?_)
    refine aops_cons rfl (w_pure rfl (p_move rfl) ?_)
    refine aops_cons rfl (w_callR rfl rfl rfl cl_35 (c_spec_l15Run h (by assumption) ops (by omega) 0 hA) ?_)
    refine aops_cons rfl (w_pure rfl (p_move rfl) ?_)
    refine aops_cons rfl (w_pure rfl (p_extract rfl rfl) ?_)
    refine aops_cons rfl (w_pure rfl (p_extract rfl rfl) ?_)
    refine aops_cons rfl (w_pure rfl (p_extract rfl rfl) ?_)
    refine aops_cons rfl (w_pure rfl (p_extract rfl rfl) ?_)
    refine aops_cons rfl (w_alloc rfl z_27 fun b2 => ?_)
    refine aops_cons rfl (w_store (cells' := [_, _]) rfl rfl rfl (by repeat (first | exact Pick.here _ _ _ | apply Pick.next)) cn_27 (by rfl) (by rfl) (by rfl) trivial ?_)
    refine aops_cons rfl (w_pure rfl (p_assign rfl) ?_)
    refine aops_cons rfl (w_pure rfl (p_assign rfl) ?_)
    refine aops_cons rfl (w_pure rfl (p_assign rfl) ?_)
    refine aops_nil ?_
    refine a_seq ?_
    refine a_region ?_
    refine aops_cons rfl (w_pure rfl (p_load_box_all ag_27 rfl (by repeat (first | exact Pick.here _ _ _ | apply Pick.next)) (by rfl) noX) ?_)
    refine aops_cons rfl (w_pure rfl (p_move rfl) ?_)
    refine aops_cons rfl (w_store (cells' := [_, _]) rfl rfl rfl (by repeat (first | exact Pick.here _ _ _ | apply Pick.next)) cn_27 (by rfl) (by rfl) (by rfl) trivial ?_)
    refine aops_cons rfl (w_pure rfl (p_assign rfl) ?_)
    refine aops_cons rfl (w_pure rfl (p_assign rfl) ?_)
    refine aops_nil ?_
    refine a_ret ?_
    refine ret_ok (hands3 rfl (.cell ag_27 rfl (by repeat (first | exact Pick.here _ _ _ | apply Pick.next)) (by rfl)) (.tmp rfl) (.tmp rfl)) (.nil _) ?_
    first | exact ⟨rfl, rfl⟩ | exact absurd hA (by assumption)

theorem cn_spec_RunHall (h : Hall) (hn : SmallHall h) (ops : List HallOp) (hm : ops.length ≤ 1048576) (hA : ¬ GoodOps h ops) : ACalls Try.prog 8 [.agg (eHall h), .sl (ops.map eHallOp)] [] (Ret (.tup [.agg [.nil, .nil], .sl ([] : List (List AV)), .bool false])) := by
  have hnn := hn
  obtain ⟨hn1, hn2⟩ := hnn
  refine a_enter Try.func8 rfl rfl (fun w0 M0 => ?_)
  refine a_seq ?_
  refine a_region ?_
  refine aops_cons rfl (w_box_v rfl rfl rfl ?_)
  refine aops_cons rfl (w_alloc rfl z_27 fun b1 => ?_)
  refine aops_cons rfl (w_pure rfl (p_assign rfl) ?_)
  refine aops_cons rfl (w_pure rfl (p_assign rfl) ?_)
  refine aops_nil ?_
  refine a_seq ?_
  refine a_seq ?_
  refine a_region ?_
  refine aops_cons rfl (w_pure rfl (p_load_v_all ag_27 rfl (by rfl) noX) ?_)
  refine aops_cons rfl (w_pure rfl (p_move rfl) ?_)
  refine aops_cons rfl (w_callR rfl rfl rfl cl_34 (c_spec_l15Ops h (by assumption) _ (by omega)) ?_)
  refine aops_cons rfl (w_pure rfl (p_not rfl) ?_)
  refine aops_nil ?_
  first | refine a_cond_d rfl (fun h1 => ?_) (fun h2 => ?_) | refine a_cond_n rfl (fun h1 => ?_) (fun h2 => ?_) | refine a_cond_nb rfl (fun h1 => ?_) (fun h2 => ?_) | refine a_cond rfl (fun h1 => ?_) (fun h2 => ?_)
  · (try simp only [Bool.not_eq_true', Bool.not_eq_false', Bool.not_eq_true, Bool.not_eq_false, decide_eq_true_eq, decide_eq_false_iff_not, List.length_map, List.length_range] at h1)
    refine a_seq ?_
    refine a_region ?_
    refine aops_cons rfl (w_pure rfl (p_build (cells := [_, _]) z_27 pl_27 rfl rfl) ?_)
    refine aops_cons rfl (w_lit_vM eInt [] rfl el_31 rfl rfl rfl rfl rfl ?_)
    refine aops_cons rfl (w_store (cells' := [_, _]) rfl rfl rfl (by repeat (first | exact Pick.here _ _ _ | apply Pick.next)) cn_27 (by rfl) (by rfl) (by rfl) trivial ?_)
    refine aops_cons rfl (w_pure rfl (p_assign rfl) ?_)
    refine aops_cons rfl (w_pure rfl (p_assign rfl) ?_)
    refine aops_nil ?_
    refine a_ret ?_
    refine ret_ok (hands3 rfl (.cell ag_27 rfl (by repeat (first | exact Pick.here _ _ _ | apply Pick.next)) (by rfl)) (.tmp rfl) (.tmp rfl)) (.nil _) ?_
    exact ⟨rfl, rfl⟩
  · (try simp only [Bool.not_eq_true', Bool.not_eq_false', Bool.not_eq_true, Bool.not_eq_false, decide_eq_true_eq, decide_eq_false_iff_not, List.length_map, List.length_range] at h2)
    refine a_skip ?_
    refine a_seq ?_
    exact absurd (by assumption) hA

theorem cy_impl_RunHall (h : Hall) (hn : SmallHall h) (ops : List HallOp) (hm : ops.length ≤ 1048576) (hA : GoodOps h ops) : ACalls Try.prog 7 [.agg (eHall h), .sl (ops.map eHallOp)] [] (fun r st => ∃ b1 b2 b3, r = .tup [.agg [.own 5 b1 0 (fin h ops 0).hall.list.length, .own 1 b2 0 (fin h ops 0).hall.events.length], .own 1 b3 0 (fin h ops 0).ticks.length, .bool true] ∧ st = [(b1, .arr 56 5 ((fin h ops 0).hall.list.map eVcpu)), (b2, .arr 4 1 ((fin h ops 0).hall.events.map eBool)), (b3, .arr 3 1 ((fin h ops 0).ticks.map eInt))]) := by
  have hnn := hn
  obtain ⟨hn1, hn2⟩ := hnn
  refine a_enter Try.func7 rfl rfl (fun w0 M0 => ?_)
  refine a_seq ?_
  refine a_region ?_
  refine aops_cons rfl (w_box_v rfl rfl rfl ?_)
  refine aops_cons rfl (w_alloc rfl z_27 fun b1 => ?_)
  refine aops_cons rfl (w_pure rfl (p_assign rfl) ?_)
  refine aops_cons rfl (w_pure rfl (p_assign rfl) ?_)
  refine aops_nil ?_
  refine a_seq ?_
  refine a_region ?_
  refine aops_cons rfl (w_pure rfl (p_load_v_all ag_27 rfl (by rfl) noX) ?_)
  refine aops_cons rfl (w_pure rfl (p_move rfl) ?_)
  refine aops_cons rfl (w_call rfl rfl rfl cl_33 (cy_impl_runHall h (by assumption) ops (by omega) 0 hA) ?_)
  rintro _ _ ⟨b2, b3, b4, rfl, rfl⟩
  refine aops_cons rfl (w_pure rfl (p_move rfl) ?_)
  refine aops_cons rfl (w_pure rfl (p_extract rfl rfl) ?_)
  refine aops_cons rfl (w_pure rfl (p_extract rfl rfl) ?_)
  refine aops_cons rfl (w_alloc rfl z_70 fun b5 => ?_)
  refine aops_cons rfl (w_store (cells' := [_, _, _, _, _]) rfl rfl rfl (by repeat (first | exact Pick.here _ _ _ | apply Pick.next)) cn_70 (by rfl) (by rfl) (by rfl) trivial ?_)
  refine aops_cons rfl (w_pure rfl (p_assign rfl) ?_)
  refine aops_nil ?_
  refine a_seq ?_
  refine a_draw [b1] (by kernel_rfl) ?_
  show ADraw _ _ _ _ _ _ 8 _ _ _ _
  refine d_take 0 rfl (by kernel_rfl) (by kernel_rfl) (by kernel_rfl) rfl (p_field_box fo_70_0 rfl) ?_
  refine d_load 1 rfl (by kernel_rfl) (by kernel_rfl) (by kernel_rfl) rfl (p_load_box_agg (cs' := [_, _]) ag_27 rfl (by repeat (first | exact Pick.here _ _ _ | apply Pick.next)) (by rfl) (by rfl) (by simp [keys])) ?_
  refine d_take 2 rfl (by kernel_rfl) (by kernel_rfl) (by kernel_rfl) rfl (p_field_box fo_70_1 rfl) ?_
  refine d_load 3 rfl (by kernel_rfl) (by kernel_rfl) (by kernel_rfl) rfl (p_load_box ag_31 rfl (by repeat (first | exact Pick.here _ _ _ | apply Pick.next)) (by rfl) (by simp [keys])) ?_
  refine d_take 4 rfl (by kernel_rfl) (by kernel_rfl) (by kernel_rfl) rfl (p_move rfl) ?_
  refine draw_all [5] (by kernel_rfl) (by simp) ?_
  refine all_cons rfl rfl ?_ ?_
  · skip
    refine w_store (cells' := [_, _]) rfl rfl rfl (by repeat (first | exact Pick.here _ _ _ | apply Pick.next)) cn_27 (by rfl) (by rfl) (by rfl) (by first | (refine .inl ?_; simp; done) | (refine .inr ?_; simp [keys]; done)) ?_
    refine d_take 6 rfl (by kernel_rfl) (by kernel_rfl) (by kernel_rfl) rfl (p_assign rfl) ?_
    refine d_take 7 rfl (by kernel_rfl) (by kernel_rfl) (by kernel_rfl) rfl (p_assign rfl) ?_
    refine draw_done (by kernel_rfl) ?_
    refine a_ret ?_
    refine ret_ok (hands3 rfl (.cell ag_27 rfl (by repeat (first | exact Pick.here _ _ _ | apply Pick.next)) (by rfl)) (.tmp rfl) (.tmp rfl)) (st' := [(b2, _), (b3, _), (b4, _)]) (.cons (by repeat (first | exact Pick.here _ _ _ | apply Pick.next)) (.cons (by repeat (first | exact Pick.here _ _ _ | apply Pick.next)) (.cons (by repeat (first | exact Pick.here _ _ _ | apply Pick.next)) (.nil _)))) ?_
    exact ⟨_, _, _, rfl, rfl⟩
  exact all_nil

theorem cf_impl_RunHall (h : Hall) (hn : SmallHall h) (ops : List HallOp) (hm : ops.length ≤ 1048576) (hA : GoodOps h ops) : ACalls Try.prog 7 [.agg (eHall h), .sl (ops.map eHallOp)] [] (Ret (.tup [.agg (eHall (fin h ops 0).hall), .sl ((fin h ops 0).ticks.map eInt), .bool true])) :=
  (cy_impl_RunHall h hn ops hm hA).freeze (by rintro _ _ ⟨_, _, _, rfl, rfl⟩; exact (.tup (.cons (.agg (.cons (.own (by repeat (first | exact List.Mem.head _ | apply List.Mem.tail)) (List.length_map _)) (.cons (.own (by repeat (first | exact List.Mem.head _ | apply List.Mem.tail)) (List.length_map _)) .nil))) (.cons (.own (by repeat (first | exact List.Mem.head _ | apply List.Mem.tail)) (List.length_map _)) (.cons (.refl _) .nil)))))

theorem cn_impl_RunHall (h : Hall) (hn : SmallHall h) (ops : List HallOp) (hm : ops.length ≤ 1048576) (hA : ¬ GoodOps h ops) : ACalls Try.prog 7 [.agg (eHall h), .sl (ops.map eHallOp)] [] (Ret (.tup [.agg [.nil, .nil], .nil, .bool false])) := by
  have hnn := hn
  obtain ⟨hn1, hn2⟩ := hnn
  refine a_enter Try.func7 rfl rfl (fun w0 M0 => ?_)
  refine a_seq ?_
  refine a_region ?_
  refine aops_cons rfl (w_box_v rfl rfl rfl ?_)
  refine aops_cons rfl (w_alloc rfl z_27 fun b1 => ?_)
  refine aops_cons rfl (w_pure rfl (p_assign rfl) ?_)
  refine aops_cons rfl (w_pure rfl (p_assign rfl) ?_)
  refine aops_nil ?_
  refine a_seq ?_
  refine a_region ?_
  refine aops_cons rfl (w_pure rfl (p_load_v_all ag_27 rfl (by rfl) noX) ?_)
  refine aops_cons rfl (w_pure rfl (p_move rfl) ?_)
  refine aops_cons rfl (w_callR rfl rfl rfl cl_33 (cn_impl_runHall h (by assumption) ops (by omega) 0 hA) ?_)
  refine aops_cons rfl (w_pure rfl (p_move rfl) ?_)
  refine aops_cons rfl (w_pure rfl (p_extract rfl rfl) ?_)
  refine aops_cons rfl (w_pure rfl (p_extract rfl rfl) ?_)
  refine aops_cons rfl (w_alloc rfl z_70 fun b2 => ?_)
  refine aops_cons rfl (w_store (cells' := [_, _, _, _, _]) rfl rfl rfl (by repeat (first | exact Pick.here _ _ _ | apply Pick.next)) cn_70 (by rfl) (by rfl) (by rfl) trivial ?_)
  refine aops_cons rfl (w_pure rfl (p_assign rfl) ?_)
  refine aops_nil ?_
  refine a_seq ?_
  refine a_draw [b1] (by kernel_rfl) ?_
  show ADraw _ _ _ _ _ _ 8 _ _ _ _
  refine d_take 0 rfl (by kernel_rfl) (by kernel_rfl) (by kernel_rfl) rfl (p_field_box fo_70_0 rfl) ?_
  refine d_load 1 rfl (by kernel_rfl) (by kernel_rfl) (by kernel_rfl) rfl (p_load_box_agg (cs' := [_, _]) ag_27 rfl (by repeat (first | exact Pick.here _ _ _ | apply Pick.next)) (by rfl) (by rfl) (by simp [keys])) ?_
  refine d_take 2 rfl (by kernel_rfl) (by kernel_rfl) (by kernel_rfl) rfl (p_field_box fo_70_1 rfl) ?_
  refine d_load 3 rfl (by kernel_rfl) (by kernel_rfl) (by kernel_rfl) rfl (p_load_box ag_31 rfl (by repeat (first | exact Pick.here _ _ _ | apply Pick.next)) (by rfl) (by simp [keys])) ?_
  refine d_take 4 rfl (by kernel_rfl) (by kernel_rfl) (by kernel_rfl) rfl (p_move rfl) ?_
  refine draw_all [5] (by kernel_rfl) (by simp) ?_
  refine all_cons rfl rfl ?_ ?_
  · skip
    refine w_store (cells' := [_, _]) rfl rfl rfl (by repeat (first | exact Pick.here _ _ _ | apply Pick.next)) cn_27 (by rfl) (by rfl) (by rfl) (by first | (refine .inl ?_; simp; done) | (refine .inr ?_; simp [keys]; done)) ?_
    refine d_take 6 rfl (by kernel_rfl) (by kernel_rfl) (by kernel_rfl) rfl (p_assign rfl) ?_
    refine d_take 7 rfl (by kernel_rfl) (by kernel_rfl) (by kernel_rfl) rfl (p_assign rfl) ?_
    refine draw_done (by kernel_rfl) ?_
    refine a_ret ?_
    refine ret_ok (hands3 rfl (.cell ag_27 rfl (by repeat (first | exact Pick.here _ _ _ | apply Pick.next)) (by rfl)) (.tmp rfl) (.tmp rfl)) (.nil _) ?_
    exact ⟨rfl, rfl⟩
  exact all_nil





theorem cy_spec_WakesOf (h : Hall) (hn : SmallHall h) (ops : List HallOp) (hm : ops.length ≤ 1048576) (id : Int) (hA : GoodWk h ops id) : ACalls Try.prog 16 [.agg (eHall h), .sl (ops.map eHallOp), .int .i64 id] [] (Ret (.tup [.int .i64 (fin h ops id).woken, .int .i64 (fin h ops id).takes, .bool true])) := by
  have hnn := hn
  obtain ⟨hn1, hn2⟩ := hnn
  refine a_enter Try.func16 rfl rfl (fun w0 M0 => ?_)
  refine a_seq ?_
  refine a_region ?_
  refine aops_cons rfl (w_box_v rfl rfl rfl ?_)
  refine aops_cons rfl (w_pure rfl (p_assign rfl) ?_)
  refine aops_cons rfl (w_pure rfl (p_assign rfl) ?_)
  refine aops_cons rfl (w_pure rfl (p_assign rfl) ?_)
  refine aops_nil ?_
  refine a_seq ?_
  refine a_seq ?_
  refine a_region ?_
  refine aops_cons rfl (w_pure rfl (p_load_v_all ag_27 rfl (by rfl) noX) ?_)
  refine aops_cons rfl (w_pure rfl (p_move rfl) ?_)
  refine aops_cons rfl (w_callR rfl rfl rfl cl_34 (c_spec_l15Ops h (by assumption) _ (by omega)) ?_)
  refine aops_cons rfl (w_pure rfl (p_not rfl) ?_)
  refine aops_cons rfl (w_pure rfl (p_move rfl) ?_)
  first | refine aops_split_d 17 rfl (fun h1 => ?_) (fun h2 => ?_) | refine aops_split 17 rfl (fun h1 => ?_) (fun h2 => ?_)
  · (try simp only [Bool.not_eq_true', Bool.not_eq_false', Bool.not_eq_true, Bool.not_eq_false, decide_eq_true_eq, decide_eq_false_iff_not, List.length_map, List.length_range] at h1)
    refine g_pass' rfl rfl rfl rfl rfl ?_
    refine g_pass' rfl rfl rfl rfl rfl ?_
    refine g_pass' rfl rfl rfl rfl rfl ?_
    refine g_pass' rfl rfl rfl rfl rfl ?_
    refine aops_cons rfl (w_pure rfl (p_pick_t rfl rfl) ?_)
    refine aops_nil ?_
    refine a_cond_t rfl ?_
    refine a_seq ?_
    refine a_region ?_
    refine aops_cons rfl (w_pure rfl (p_assign rfl) ?_)
    refine aops_cons rfl (w_pure rfl (p_assign rfl) ?_)
    refine aops_cons rfl (w_pure rfl (p_assign rfl) ?_)
    refine aops_nil ?_
    refine a_ret ?_
    refine ret_ok (hands3 rfl (.tmp rfl) (.tmp rfl) (.tmp rfl)) (.nil _) ?_
    first | exact ⟨rfl, rfl⟩ | exact absurd hA.1 (by assumption) | (exfalso; have := hA.2; omega)
  · (try simp only [Bool.not_eq_true', Bool.not_eq_false', Bool.not_eq_true, Bool.not_eq_false, decide_eq_true_eq, decide_eq_false_iff_not, List.length_map, List.length_range] at h2)
    refine aops_guard_t rfl rfl rfl (w_pure rfl (p_load_v_all ag_27 rfl (by rfl) noX) ?_)
    refine aops_guard_t rfl rfl rfl (w_pure rfl (p_move rfl) ?_)
    refine aops_guard_t rfl rfl rfl (w_callR rfl rfl rfl cl_45 (c_spec_l15Find h (by assumption) _) ?_)
    refine aops_guard_t rfl rfl rfl (w_pure rfl (p_lss rfl rfl) ?_)
    refine aops_cons rfl (w_pure rfl (p_pick_f rfl rfl) ?_)
    refine aops_nil ?_
    first | refine a_cond_d rfl (fun h3 => ?_) (fun h4 => ?_) | refine a_cond_n rfl (fun h3 => ?_) (fun h4 => ?_) | refine a_cond_nb rfl (fun h3 => ?_) (fun h4 => ?_) | refine a_cond rfl (fun h3 => ?_) (fun h4 => ?_)
    · (try simp only [Bool.not_eq_true', Bool.not_eq_false', Bool.not_eq_true, Bool.not_eq_false, decide_eq_true_eq, decide_eq_false_iff_not, List.length_map, List.length_range] at h3)
      refine a_seq ?_
      refine a_region ?_
      refine aops_cons rfl (w_pure rfl (p_assign rfl) ?_)
      refine aops_cons rfl (w_pure rfl (p_assign rfl) ?_)
      refine aops_cons rfl (w_pure rfl (p_assign rfl) ?_)
      refine aops_nil ?_
      refine a_ret ?_
      refine ret_ok (hands3 rfl (.tmp rfl) (.tmp rfl) (.tmp rfl)) (.nil _) ?_
      first | exact ⟨rfl, rfl⟩ | exact absurd hA.1 (by assumption) | (exfalso; have := hA.2; omega)
    · (try simp only [Bool.not_eq_true', Bool.not_eq_false', Bool.not_eq_true, Bool.not_eq_false, decide_eq_true_eq, decide_eq_false_iff_not, List.length_map, List.length_range] at h4)
      refine a_skip ?_
      refine a_seq ?_
      refine a_region ?_
      refine aops_cons rfl (w_pure rfl (p_load_v_all ag_27 rfl (by rfl) noX) ?_)
      refine aops_cons rfl (w_pure rfl (p_move rfl) ?_)
      refine aops_cons rfl (w_pure rfl (p_move rfl) ?_)
      refine aops_cons rfl (w_callR rfl rfl rfl cl_35 (c_spec_l15Run h (by assumption) ops (by omega) id hA.1) ?_)
      refine aops_cons rfl (w_pure rfl (p_move rfl) ?_)
      refine aops_cons rfl (w_pure rfl (p_extract rfl rfl) ?_)
      refine aops_cons rfl (w_pure rfl (p_extract rfl rfl) ?_)
      refine aops_cons rfl (w_pure rfl (p_extract rfl rfl) ?_)
      refine aops_cons rfl (w_pure rfl (p_extract rfl rfl) ?_)
      refine aops_cons rfl (w_alloc rfl z_27 fun b1 => ?_)
      refine aops_cons rfl (w_store (cells' := [_, _]) rfl rfl rfl (by repeat (first | exact Pick.here _ _ _ | apply Pick.next)) cn_27 (by rfl) (by rfl) (by rfl) trivial ?_)
      refine aops_cons rfl (w_pure rfl (p_assign rfl) ?_)
      refine aops_cons rfl (w_pure rfl (p_assign rfl) ?_)
      refine aops_cons rfl (w_pure rfl (p_assign rfl) ?_)
      refine aops_nil ?_
      refine a_seq ?_
      refine a_region ?_
      refine aops_cons rfl (w_pure rfl (p_move rfl) ?_)
      refine aops_cons rfl (w_pure rfl (p_move rfl) ?_)
      refine aops_cons rfl (w_pure rfl (p_assign rfl) ?_)
      refine aops_cons rfl (w_pure rfl (p_assign rfl) ?_)
      refine aops_cons rfl (w_pure rfl (p_assign rfl) ?_)
      refine aops_nil ?_
      refine a_ret ?_
      refine ret_ok (hands3 rfl (.tmp rfl) (.tmp rfl) (.tmp rfl)) (.nil _) ?_
      first | exact ⟨rfl, rfl⟩ | exact absurd hA.1 (by assumption) | (exfalso; have := hA.2; omega)

theorem cn_spec_WakesOf (h : Hall) (hn : SmallHall h) (ops : List HallOp) (hm : ops.length ≤ 1048576) (id : Int) (hA : ¬ GoodWk h ops id) : ACalls Try.prog 16 [.agg (eHall h), .sl (ops.map eHallOp), .int .i64 id] [] (Ret (.tup [.int .i64 0, .int .i64 0, .bool false])) := by
  have hnn := hn
  obtain ⟨hn1, hn2⟩ := hnn
  refine a_enter Try.func16 rfl rfl (fun w0 M0 => ?_)
  refine a_seq ?_
  refine a_region ?_
  refine aops_cons rfl (w_box_v rfl rfl rfl ?_)
  refine aops_cons rfl (w_pure rfl (p_assign rfl) ?_)
  refine aops_cons rfl (w_pure rfl (p_assign rfl) ?_)
  refine aops_cons rfl (w_pure rfl (p_assign rfl) ?_)
  refine aops_nil ?_
  refine a_seq ?_
  refine a_seq ?_
  refine a_region ?_
  refine aops_cons rfl (w_pure rfl (p_load_v_all ag_27 rfl (by rfl) noX) ?_)
  refine aops_cons rfl (w_pure rfl (p_move rfl) ?_)
  refine aops_cons rfl (w_callR rfl rfl rfl cl_34 (c_spec_l15Ops h (by assumption) _ (by omega)) ?_)
  refine aops_cons rfl (w_pure rfl (p_not rfl) ?_)
  refine aops_cons rfl (w_pure rfl (p_move rfl) ?_)
  first | refine aops_split_d 17 rfl (fun h1 => ?_) (fun h2 => ?_) | refine aops_split 17 rfl (fun h1 => ?_) (fun h2 => ?_)
  · (try simp only [Bool.not_eq_true', Bool.not_eq_false', Bool.not_eq_true, Bool.not_eq_false, decide_eq_true_eq, decide_eq_false_iff_not, List.length_map, List.length_range] at h1)
    refine g_pass' rfl rfl rfl rfl rfl ?_
    refine g_pass' rfl rfl rfl rfl rfl ?_
    refine g_pass' rfl rfl rfl rfl rfl ?_
    refine g_pass' rfl rfl rfl rfl rfl ?_
    refine aops_cons rfl (w_pure rfl (p_pick_t rfl rfl) ?_)
    refine aops_nil ?_
    refine a_cond_t rfl ?_
    refine a_seq ?_
    refine a_region ?_
    refine aops_cons rfl (w_pure rfl (p_assign rfl) ?_)
    refine aops_cons rfl (w_pure rfl (p_assign rfl) ?_)
    refine aops_cons rfl (w_pure rfl (p_assign rfl) ?_)
    refine aops_nil ?_
    refine a_ret ?_
    refine ret_ok (hands3 rfl (.tmp rfl) (.tmp rfl) (.tmp rfl)) (.nil _) ?_
    exact ⟨rfl, rfl⟩
  · (try simp only [Bool.not_eq_true', Bool.not_eq_false', Bool.not_eq_true, Bool.not_eq_false, decide_eq_true_eq, decide_eq_false_iff_not, List.length_map, List.length_range] at h2)
    refine aops_guard_t rfl rfl rfl (w_pure rfl (p_load_v_all ag_27 rfl (by rfl) noX) ?_)
    refine aops_guard_t rfl rfl rfl (w_pure rfl (p_move rfl) ?_)
    refine aops_guard_t rfl rfl rfl (w_callR rfl rfl rfl cl_45 (c_spec_l15Find h (by assumption) _) ?_)
    refine aops_guard_t rfl rfl rfl (w_pure rfl (p_lss rfl rfl) ?_)
    refine aops_cons rfl (w_pure rfl (p_pick_f rfl rfl) ?_)
    refine aops_nil ?_
    first | refine a_cond_d rfl (fun h3 => ?_) (fun h4 => ?_) | refine a_cond_n rfl (fun h3 => ?_) (fun h4 => ?_) | refine a_cond_nb rfl (fun h3 => ?_) (fun h4 => ?_) | refine a_cond rfl (fun h3 => ?_) (fun h4 => ?_)
    · (try simp only [Bool.not_eq_true', Bool.not_eq_false', Bool.not_eq_true, Bool.not_eq_false, decide_eq_true_eq, decide_eq_false_iff_not, List.length_map, List.length_range] at h3)
      refine a_seq ?_
      refine a_region ?_
      refine aops_cons rfl (w_pure rfl (p_assign rfl) ?_)
      refine aops_cons rfl (w_pure rfl (p_assign rfl) ?_)
      refine aops_cons rfl (w_pure rfl (p_assign rfl) ?_)
      refine aops_nil ?_
      refine a_ret ?_
      refine ret_ok (hands3 rfl (.tmp rfl) (.tmp rfl) (.tmp rfl)) (.nil _) ?_
      exact ⟨rfl, rfl⟩
    · (try simp only [Bool.not_eq_true', Bool.not_eq_false', Bool.not_eq_true, Bool.not_eq_false, decide_eq_true_eq, decide_eq_false_iff_not, List.length_map, List.length_range] at h4)
      refine a_skip ?_
      refine a_seq ?_
      exact absurd (show GoodWk h ops id from ⟨by assumption, by omega⟩) hA

theorem cy_impl_WakesOf (h : Hall) (hn : SmallHall h) (ops : List HallOp) (hm : ops.length ≤ 1048576) (id : Int) (hA : GoodWk h ops id) : ACalls Try.prog 15 [.agg (eHall h), .sl (ops.map eHallOp), .int .i64 id] [] (Ret (.tup [.int .i64 (fin h ops id).woken, .int .i64 (fin h ops id).takes, .bool true])) := by
  have hnn := hn
  obtain ⟨hn1, hn2⟩ := hnn
  refine a_enter Try.func15 rfl rfl (fun w0 M0 => ?_)
  refine a_seq ?_
  refine a_region ?_
  refine aops_cons rfl (w_box_v rfl rfl rfl ?_)
  refine aops_cons rfl (w_pure rfl (p_assign rfl) ?_)
  refine aops_cons rfl (w_pure rfl (p_assign rfl) ?_)
  refine aops_cons rfl (w_pure rfl (p_assign rfl) ?_)
  refine aops_nil ?_
  refine a_seq ?_
  refine a_region ?_
  refine aops_cons rfl (w_pure rfl (p_load_v_all ag_27 rfl (by rfl) noX) ?_)
  refine aops_cons rfl (w_pure rfl (p_move rfl) ?_)
  refine aops_cons rfl (w_pure rfl (p_move rfl) ?_)
  refine aops_cons rfl (w_call rfl rfl rfl cl_33 (cy_impl_runHall h (by assumption) ops (by omega) id hA.1) ?_)
  rintro _ _ ⟨b1, b2, b3, rfl, rfl⟩
  refine aops_cons rfl (w_pure rfl (p_move rfl) ?_)
  refine aops_cons rfl (w_pure rfl (p_extract rfl rfl) ?_)
  refine aops_cons rfl (w_pure rfl (p_extract rfl rfl) ?_)
  refine aops_cons rfl (w_alloc rfl z_70 fun b4 => ?_)
  refine aops_cons rfl (w_store (cells' := [_, _, _, _, _]) rfl rfl rfl (by repeat (first | exact Pick.here _ _ _ | apply Pick.next)) cn_70 (by rfl) (by rfl) (by rfl) trivial ?_)
  refine aops_cons rfl (w_pure rfl (p_assign rfl) ?_)
  refine aops_nil ?_
  refine a_seq ?_
  refine a_seq ?_
  refine a_region ?_
  refine aops_cons rfl (w_pure rfl (p_move rfl) ?_)
  refine aops_cons rfl (w_pure rfl (p_not rfl) ?_)
  refine aops_cons rfl (w_pure rfl (p_move rfl) ?_)
  refine aops_guard_t rfl rfl rfl (w_pure rfl (p_field_v fo_27_0 rfl) ?_)
  refine aops_guard_t rfl rfl rfl (w_pure rfl (p_load_v ag_24 rfl (by rfl) noX) ?_)
  refine aops_guard_t rfl rfl rfl (w_pure rfl (p_move rfl) ?_)
  refine aops_guard_t rfl rfl rfl (w_callR rfl rfl rfl cl_38 (c_impl_vcpuIndex _ (by omega) _) ?_)
  refine aops_guard_t rfl rfl rfl (w_pure rfl (p_lss rfl rfl) ?_)
  refine aops_cons rfl (w_pure rfl (p_pick_f rfl rfl) ?_)
  refine aops_nil ?_
  first | refine a_cond_d rfl (fun h1 => ?_) (fun h2 => ?_) | refine a_cond_n rfl (fun h1 => ?_) (fun h2 => ?_) | refine a_cond_nb rfl (fun h1 => ?_) (fun h2 => ?_) | refine a_cond rfl (fun h1 => ?_) (fun h2 => ?_)
  · (try simp only [Bool.not_eq_true', Bool.not_eq_false', Bool.not_eq_true, Bool.not_eq_false, decide_eq_true_eq, decide_eq_false_iff_not, List.length_map, List.length_range] at h1)
    refine a_seq ?_
    refine a_region ?_
    refine aops_cons rfl (w_pure rfl (p_assign rfl) ?_)
    refine aops_cons rfl (w_pure rfl (p_assign rfl) ?_)
    refine aops_cons rfl (w_pure rfl (p_assign rfl) ?_)
    refine aops_nil ?_
    refine a_ret ?_
    refine ret_ok (hands3 rfl (.tmp rfl) (.tmp rfl) (.tmp rfl)) (.nil _) ?_
    first | (exfalso; have := hA.2; omega) | exact ⟨rfl, rfl⟩
  · (try simp only [Bool.not_eq_true', Bool.not_eq_false', Bool.not_eq_true, Bool.not_eq_false, decide_eq_true_eq, decide_eq_false_iff_not, List.length_map, List.length_range] at h2)
    refine a_skip ?_
    refine a_seq ?_
    refine a_draw [] (by kernel_rfl) ?_
    show ADraw _ _ _ _ _ _ 7 _ _ _ _
    refine d_take 0 rfl (by kernel_rfl) (by kernel_rfl) (by kernel_rfl) rfl (p_field_box fo_70_2 rfl) ?_
    refine d_load 1 rfl (by kernel_rfl) (by kernel_rfl) (by kernel_rfl) rfl (p_load_box ag_3 rfl (by repeat (first | exact Pick.here _ _ _ | apply Pick.next)) (by rfl) noX) ?_
    refine d_take 2 rfl (by kernel_rfl) (by kernel_rfl) (by kernel_rfl) rfl (p_field_box fo_70_3 rfl) ?_
    refine d_load 3 rfl (by kernel_rfl) (by kernel_rfl) (by kernel_rfl) rfl (p_load_box ag_3 rfl (by repeat (first | exact Pick.here _ _ _ | apply Pick.next)) (by rfl) noX) ?_
    refine d_take 4 rfl (by kernel_rfl) (by kernel_rfl) (by kernel_rfl) rfl (p_assign rfl) ?_
    refine d_take 5 rfl (by kernel_rfl) (by kernel_rfl) (by kernel_rfl) rfl (p_assign rfl) ?_
    refine d_take 6 rfl (by kernel_rfl) (by kernel_rfl) (by kernel_rfl) rfl (p_assign rfl) ?_
    refine draw_done (by kernel_rfl) ?_
    refine a_ret ?_
    refine ret_ok (hands3 rfl (.tmp rfl) (.tmp rfl) (.tmp rfl)) (.nil _) ?_
    first | (exfalso; have := hA.2; omega) | exact ⟨rfl, rfl⟩

theorem cn_impl_WakesOf (h : Hall) (hn : SmallHall h) (ops : List HallOp) (hm : ops.length ≤ 1048576) (id : Int) (hA : ¬ GoodWk h ops id) : ACalls Try.prog 15 [.agg (eHall h), .sl (ops.map eHallOp), .int .i64 id] [] (Ret (.tup [.int .i64 0, .int .i64 0, .bool false])) := by
  have hnn := hn
  obtain ⟨hn1, hn2⟩ := hnn
  by_cases hG : GoodOps h ops
  all_goals refine a_enter Try.func15 rfl rfl (fun w0 M0 => ?_)
  · skip
    refine a_seq ?_
    refine a_region ?_
    refine aops_cons rfl (w_box_v rfl rfl rfl ?_)
    refine aops_cons rfl (w_pure rfl (p_assign rfl) ?_)
    refine aops_cons rfl (w_pure rfl (p_assign rfl) ?_)
    refine aops_cons rfl (w_pure rfl (p_assign rfl) ?_)
    refine aops_nil ?_
    refine a_seq ?_
    refine a_region ?_
    refine aops_cons rfl (w_pure rfl (p_load_v_all ag_27 rfl (by rfl) noX) ?_)
    refine aops_cons rfl (w_pure rfl (p_move rfl) ?_)
    refine aops_cons rfl (w_pure rfl (p_move rfl) ?_)
    refine aops_cons rfl (w_call rfl rfl rfl cl_33 (cy_impl_runHall h (by assumption) ops (by omega) id hG) ?_)
    rintro _ _ ⟨b1, b2, b3, rfl, rfl⟩
    refine aops_cons rfl (w_pure rfl (p_move rfl) ?_)
    refine aops_cons rfl (w_pure rfl (p_extract rfl rfl) ?_)
    refine aops_cons rfl (w_pure rfl (p_extract rfl rfl) ?_)
    refine aops_cons rfl (w_alloc rfl z_70 fun b4 => ?_)
    refine aops_cons rfl (w_store (cells' := [_, _, _, _, _]) rfl rfl rfl (by repeat (first | exact Pick.here _ _ _ | apply Pick.next)) cn_70 (by rfl) (by rfl) (by rfl) trivial ?_)
    refine aops_cons rfl (w_pure rfl (p_assign rfl) ?_)
    refine aops_nil ?_
    refine a_seq ?_
    refine a_seq ?_
    refine a_region ?_
    refine aops_cons rfl (w_pure rfl (p_move rfl) ?_)
    refine aops_cons rfl (w_pure rfl (p_not rfl) ?_)
    refine aops_cons rfl (w_pure rfl (p_move rfl) ?_)
    refine aops_guard_t rfl rfl rfl (w_pure rfl (p_field_v fo_27_0 rfl) ?_)
    refine aops_guard_t rfl rfl rfl (w_pure rfl (p_load_v ag_24 rfl (by rfl) noX) ?_)
    refine aops_guard_t rfl rfl rfl (w_pure rfl (p_move rfl) ?_)
    refine aops_guard_t rfl rfl rfl (w_callR rfl rfl rfl cl_38 (c_impl_vcpuIndex _ (by omega) _) ?_)
    refine aops_guard_t rfl rfl rfl (w_pure rfl (p_lss rfl rfl) ?_)
    refine aops_cons rfl (w_pure rfl (p_pick_f rfl rfl) ?_)
    refine aops_nil ?_
    first | refine a_cond_d rfl (fun h1 => ?_) (fun h2 => ?_) | refine a_cond_n rfl (fun h1 => ?_) (fun h2 => ?_) | refine a_cond_nb rfl (fun h1 => ?_) (fun h2 => ?_) | refine a_cond rfl (fun h1 => ?_) (fun h2 => ?_)
    · (try simp only [Bool.not_eq_true', Bool.not_eq_false', Bool.not_eq_true, Bool.not_eq_false, decide_eq_true_eq, decide_eq_false_iff_not, List.length_map, List.length_range] at h1)
      refine a_seq ?_
      refine a_region ?_
      refine aops_cons rfl (w_pure rfl (p_assign rfl) ?_)
      refine aops_cons rfl (w_pure rfl (p_assign rfl) ?_)
      refine aops_cons rfl (w_pure rfl (p_assign rfl) ?_)
      refine aops_nil ?_
      refine a_ret ?_
      refine ret_ok (hands3 rfl (.tmp rfl) (.tmp rfl) (.tmp rfl)) (.nil _) ?_
      exact ⟨rfl, rfl⟩
    · (try simp only [Bool.not_eq_true', Bool.not_eq_false', Bool.not_eq_true, Bool.not_eq_false, decide_eq_true_eq, decide_eq_false_iff_not, List.length_map, List.length_range] at h2)
      refine a_skip ?_
      refine a_seq ?_
      exact absurd (show GoodWk h ops id from ⟨hG, by omega⟩) hA
  · skip
    refine a_seq ?_
    refine a_region ?_
    refine aops_cons rfl (w_box_v rfl rfl rfl ?_)
    refine aops_cons rfl (w_pure rfl (p_assign rfl) ?_)
    refine aops_cons rfl (w_pure rfl (p_assign rfl) ?_)
    refine aops_cons rfl (w_pure rfl (p_assign rfl) ?_)
    refine aops_nil ?_
    refine a_seq ?_
    refine a_region ?_
    refine aops_cons rfl (w_pure rfl (p_load_v_all ag_27 rfl (by rfl) noX) ?_)
    refine aops_cons rfl (w_pure rfl (p_move rfl) ?_)
    refine aops_cons rfl (w_pure rfl (p_move rfl) ?_)
    refine aops_cons rfl (w_callR rfl rfl rfl cl_33 (cn_impl_runHall h (by assumption) ops (by omega) id hG) ?_)
    refine aops_cons rfl (w_pure rfl (p_move rfl) ?_)
    refine aops_cons rfl (w_pure rfl (p_extract rfl rfl) ?_)
    refine aops_cons rfl (w_pure rfl (p_extract rfl rfl) ?_)
    refine aops_cons rfl (w_alloc rfl z_70 fun b1 => ?_)
    refine aops_cons rfl (w_store (cells' := [_, _, _, _, _]) rfl rfl rfl (by repeat (first | exact Pick.here _ _ _ | apply Pick.next)) cn_70 (by rfl) (by rfl) (by rfl) trivial ?_)
    refine aops_cons rfl (w_pure rfl (p_assign rfl) ?_)
    refine aops_nil ?_
    refine a_seq ?_
    refine a_seq ?_
    refine a_region ?_
    refine aops_cons rfl (w_pure rfl (p_move rfl) ?_)
    refine aops_cons rfl (w_pure rfl (p_not rfl) ?_)
    refine aops_cons rfl (w_pure rfl (p_move rfl) ?_)
    refine g_pass' rfl rfl rfl rfl rfl ?_
    refine g_pass' rfl rfl rfl rfl rfl ?_
    refine g_pass' rfl rfl rfl rfl rfl ?_
    refine g_pass' rfl rfl rfl rfl rfl ?_
    refine g_pass' rfl rfl rfl rfl rfl ?_
    refine aops_cons rfl (w_pure rfl (p_pick_t rfl rfl) ?_)
    refine aops_nil ?_
    refine a_cond_t rfl ?_
    refine a_seq ?_
    refine a_region ?_
    refine aops_cons rfl (w_pure rfl (p_assign rfl) ?_)
    refine aops_cons rfl (w_pure rfl (p_assign rfl) ?_)
    refine aops_cons rfl (w_pure rfl (p_assign rfl) ?_)
    refine aops_nil ?_
    refine a_ret ?_
    refine ret_ok (hands3 rfl (.tmp rfl) (.tmp rfl) (.tmp rfl)) (.nil _) ?_
    exact ⟨rfl, rfl⟩





end Go.Proofs.Ytdlhpomgmlcfoaa
