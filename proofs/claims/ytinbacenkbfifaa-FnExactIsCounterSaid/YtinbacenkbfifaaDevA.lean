/-
  The walks of this part: each theorem is the contract of one function. Condition: none but those that it names.
-/
import Derived.Test.YtinbacenkbfifaaDev
import Derived.Test.YtinbacenkbfifaaDevF
namespace Go.Proofs.Ytinbacenkbfifaa
open Go Go.Fw Go.Hv
attribute [local irreducible] awp Aops Aop ADraw ADrawAll ACalls
set_option maxRecDepth 4000

theorem c_impl_inside (n lo hi : Int) : ACalls Try.prog 57 [.int .i64 n, .int .i64 lo, .int .i64 hi] [] (Ret (.bool (decide (lo ≤ n ∧ n ≤ hi)))) := by
  refine a_enter Try.func57 rfl rfl (fun w0 M0 => ?_)
  refine a_seq ?_
  refine a_region ?_
  refine aops_cons rfl (w_pure rfl (p_assign rfl) ?_)
  refine aops_nil ?_
  refine a_seq ?_
  refine a_region ?_
  refine aops_cons rfl (w_pure rfl (p_move rfl) ?_)
  refine aops_cons rfl (w_pure rfl (p_move rfl) ?_)
  refine aops_cons rfl (w_pure rfl (p_geq rfl rfl) ?_)
  refine aops_cons rfl (w_pure rfl (p_move rfl) ?_)
  first | refine g_d rfl rfl rfl rfl rfl (fun h1 => ?_) (fun h2 => ?_) | refine g_b rfl rfl rfl rfl rfl (fun h1 => ?_) (fun h2 => ?_)
  · skip
    refine w_pure rfl (p_move rfl) ?_
    refine aops_guard_t rfl rfl rfl (w_pure rfl (p_move rfl) ?_)
    refine aops_guard_t rfl rfl rfl (w_pure rfl (p_leq rfl rfl) ?_)
    refine aops_cons rfl (w_pure rfl (p_pick_t rfl rfl) ?_)
    refine aops_cons rfl (w_pure rfl (p_assign rfl) ?_)
    refine aops_nil ?_
    refine a_ret ?_
    refine ret_ok (hands1 rfl (.tmp rfl)) (.nil _) ?_
    first | (refine ret_false ?_; omega) | (refine ret_true ?_; omega) | (refine ret_dec ?_; omega)
  · skip
    refine g_pass rfl rfl rfl rfl rfl ?_
    refine g_pass rfl rfl rfl rfl rfl ?_
    refine aops_cons rfl (w_pure rfl (p_pick_f rfl rfl) ?_)
    refine aops_cons rfl (w_pure rfl (p_assign rfl) ?_)
    refine aops_nil ?_
    refine a_ret ?_
    refine ret_ok (hands1 rfl (.tmp rfl)) (.nil _) ?_
    first | (refine ret_false ?_; omega) | (refine ret_true ?_; omega) | (refine ret_dec ?_; omega)

theorem c_spec_l1In (n lo hi : Int) : ACalls Try.prog 58 [.int .i64 n, .int .i64 lo, .int .i64 hi] [] (Ret (.bool (decide (lo ≤ n ∧ n ≤ hi)))) := by
  refine a_enter Try.func58 rfl rfl (fun w0 M0 => ?_)
  refine a_seq ?_
  refine a_region ?_
  refine aops_cons rfl (w_pure rfl (p_assign rfl) ?_)
  refine aops_nil ?_
  refine a_seq ?_
  refine a_region ?_
  refine aops_cons rfl (w_pure rfl (p_move rfl) ?_)
  refine aops_cons rfl (w_pure rfl (p_move rfl) ?_)
  refine aops_cons rfl (w_pure rfl (p_geq rfl rfl) ?_)
  refine aops_cons rfl (w_pure rfl (p_move rfl) ?_)
  first | refine g_d rfl rfl rfl rfl rfl (fun h1 => ?_) (fun h2 => ?_) | refine g_b rfl rfl rfl rfl rfl (fun h1 => ?_) (fun h2 => ?_)
  · skip
    refine w_pure rfl (p_move rfl) ?_
    refine aops_guard_t rfl rfl rfl (w_pure rfl (p_move rfl) ?_)
    refine aops_guard_t rfl rfl rfl (w_pure rfl (p_leq rfl rfl) ?_)
    refine aops_cons rfl (w_pure rfl (p_pick_t rfl rfl) ?_)
    refine aops_cons rfl (w_pure rfl (p_assign rfl) ?_)
    refine aops_nil ?_
    refine a_ret ?_
    refine ret_ok (hands1 rfl (.tmp rfl)) (.nil _) ?_
    first | (refine ret_false ?_; omega) | (refine ret_true ?_; omega) | (refine ret_dec ?_; omega)
  · skip
    refine g_pass rfl rfl rfl rfl rfl ?_
    refine g_pass rfl rfl rfl rfl rfl ?_
    refine aops_cons rfl (w_pure rfl (p_pick_f rfl rfl) ?_)
    refine aops_cons rfl (w_pure rfl (p_assign rfl) ?_)
    refine aops_nil ?_
    refine a_ret ?_
    refine ret_ok (hands1 rfl (.tmp rfl)) (.nil _) ?_
    first | (refine ret_false ?_; omega) | (refine ret_true ?_; omega) | (refine ret_dec ?_; omega)

theorem c_impl_IsCounter (c : Counter) : ACalls Try.prog 17 [.agg (eCounter c)] [] (Ret (.bool (decide (IsCounter c)))) := by
  refine a_enter Try.func17 rfl rfl (fun w0 M0 => ?_)
  refine a_seq ?_
  refine a_region ?_
  refine aops_cons rfl (w_box rfl rfl rfl fun b1 => ?_)
  refine aops_cons rfl (w_pure rfl (p_assign rfl) ?_)
  refine aops_nil ?_
  refine a_seq ?_
  refine a_region ?_
  refine aops_cons rfl (w_pure rfl (p_field_box fo_25_1 rfl) ?_)
  refine aops_cons rfl (w_pure rfl (p_load_box ag_3 rfl (by repeat (first | exact Pick.here _ _ _ | apply Pick.next)) (by rfl) noX) ?_)
  refine aops_cons rfl (w_callR rfl rfl rfl cl_57 (c_impl_inside ..) ?_)
  refine aops_cons rfl (w_pure rfl (p_move rfl) ?_)
  first | refine g_d rfl rfl rfl rfl rfl (fun h1 => ?_) (fun h2 => ?_) | refine g_b rfl rfl rfl rfl rfl (fun h1 => ?_) (fun h2 => ?_)
  · skip
    refine w_pure rfl (p_field_box fo_25_0 rfl) ?_
    refine aops_guard_t rfl rfl rfl (w_pure rfl (p_load_box ag_3 rfl (by repeat (first | exact Pick.here _ _ _ | apply Pick.next)) (by rfl) noX) ?_)
    refine aops_guard_t rfl rfl rfl (w_pure rfl (p_field_box fo_25_1 rfl) ?_)
    refine aops_guard_t rfl rfl rfl (w_pure rfl (p_load_box ag_3 rfl (by repeat (first | exact Pick.here _ _ _ | apply Pick.next)) (by rfl) noX) ?_)
    refine aops_guard_t rfl rfl rfl (w_pure rfl (p_sub' rfl rfl ⟨by omega, by omega⟩) ?_)
    refine aops_guard_t rfl rfl rfl (w_callR rfl rfl rfl cl_57 (c_impl_inside ..) ?_)
    refine aops_cons rfl (w_pure rfl (p_pick_t rfl rfl) ?_)
    refine aops_cons rfl (w_pure rfl (p_move rfl) ?_)
    first | refine g_d rfl rfl rfl rfl rfl (fun h3 => ?_) (fun h4 => ?_) | refine g_b rfl rfl rfl rfl rfl (fun h3 => ?_) (fun h4 => ?_)
    · skip
      refine w_pure rfl (p_field_box fo_25_2 rfl) ?_
      refine aops_guard_t rfl rfl rfl (w_pure rfl (p_load_box ag_3 rfl (by repeat (first | exact Pick.here _ _ _ | apply Pick.next)) (by rfl) noX) ?_)
      refine aops_guard_t rfl rfl rfl (w_callR rfl rfl rfl cl_57 (c_impl_inside ..) ?_)
      refine aops_cons rfl (w_pure rfl (p_pick_t rfl rfl) ?_)
      refine aops_cons rfl (w_pure rfl (p_assign rfl) ?_)
      refine aops_nil ?_
      refine a_ret ?_
      refine ret_ok (hands1 rfl (.tmp rfl)) (.nil _) ?_
      first | (refine ret_false ?_; omega) | (refine ret_true ?_; omega) | (refine ret_dec ?_; omega)
    · skip
      refine g_pass rfl rfl rfl rfl rfl ?_
      refine g_pass rfl rfl rfl rfl rfl ?_
      refine aops_cons rfl (w_pure rfl (p_pick_f rfl rfl) ?_)
      refine aops_cons rfl (w_pure rfl (p_assign rfl) ?_)
      refine aops_nil ?_
      refine a_ret ?_
      refine ret_ok (hands1 rfl (.tmp rfl)) (.nil _) ?_
      first | (refine ret_false ?_; omega) | (refine ret_true ?_; omega) | (refine ret_dec ?_; omega)
  · skip
    refine g_pass rfl rfl rfl rfl rfl ?_
    refine g_pass rfl rfl rfl rfl rfl ?_
    refine g_pass rfl rfl rfl rfl rfl ?_
    refine g_pass rfl rfl rfl rfl rfl ?_
    refine g_pass rfl rfl rfl rfl rfl ?_
    refine aops_cons rfl (w_pure rfl (p_pick_f rfl rfl) ?_)
    refine aops_cons rfl (w_pure rfl (p_move rfl) ?_)
    refine g_pass rfl rfl rfl rfl rfl ?_
    refine g_pass rfl rfl rfl rfl rfl ?_
    refine g_pass rfl rfl rfl rfl rfl ?_
    refine aops_cons rfl (w_pure rfl (p_pick_f rfl rfl) ?_)
    refine aops_cons rfl (w_pure rfl (p_assign rfl) ?_)
    refine aops_nil ?_
    refine a_ret ?_
    refine ret_ok (hands1 rfl (.tmp rfl)) (.nil _) ?_
    first | (refine ret_false ?_; omega) | (refine ret_true ?_; omega) | (refine ret_dec ?_; omega)

theorem c_spec_l16Counter (c : Counter) : ACalls Try.prog 56 [.agg (eCounter c)] [] (Ret (.bool (decide (IsCounter c)))) := by
  refine a_enter Try.func56 rfl rfl (fun w0 M0 => ?_)
  refine a_seq ?_
  refine a_region ?_
  refine aops_cons rfl (w_box rfl rfl rfl fun b1 => ?_)
  refine aops_cons rfl (w_pure rfl (p_assign rfl) ?_)
  refine aops_nil ?_
  refine a_seq ?_
  refine a_region ?_
  refine aops_cons rfl (w_pure rfl (p_field_box fo_25_1 rfl) ?_)
  refine aops_cons rfl (w_pure rfl (p_load_box ag_3 rfl (by repeat (first | exact Pick.here _ _ _ | apply Pick.next)) (by rfl) noX) ?_)
  refine aops_cons rfl (w_callR rfl rfl rfl cl_58 (c_spec_l1In ..) ?_)
  refine aops_cons rfl (w_pure rfl (p_move rfl) ?_)
  first | refine g_d rfl rfl rfl rfl rfl (fun h1 => ?_) (fun h2 => ?_) | refine g_b rfl rfl rfl rfl rfl (fun h1 => ?_) (fun h2 => ?_)
  · skip
    refine w_pure rfl (p_field_box fo_25_0 rfl) ?_
    refine aops_guard_t rfl rfl rfl (w_pure rfl (p_load_box ag_3 rfl (by repeat (first | exact Pick.here _ _ _ | apply Pick.next)) (by rfl) noX) ?_)
    refine aops_guard_t rfl rfl rfl (w_pure rfl (p_field_box fo_25_1 rfl) ?_)
    refine aops_guard_t rfl rfl rfl (w_pure rfl (p_load_box ag_3 rfl (by repeat (first | exact Pick.here _ _ _ | apply Pick.next)) (by rfl) noX) ?_)
    refine aops_guard_t rfl rfl rfl (w_pure rfl (p_sub' rfl rfl ⟨by omega, by omega⟩) ?_)
    refine aops_guard_t rfl rfl rfl (w_callR rfl rfl rfl cl_58 (c_spec_l1In ..) ?_)
    refine aops_cons rfl (w_pure rfl (p_pick_t rfl rfl) ?_)
    refine aops_cons rfl (w_pure rfl (p_move rfl) ?_)
    first | refine g_d rfl rfl rfl rfl rfl (fun h3 => ?_) (fun h4 => ?_) | refine g_b rfl rfl rfl rfl rfl (fun h3 => ?_) (fun h4 => ?_)
    · skip
      refine w_pure rfl (p_field_box fo_25_2 rfl) ?_
      refine aops_guard_t rfl rfl rfl (w_pure rfl (p_load_box ag_3 rfl (by repeat (first | exact Pick.here _ _ _ | apply Pick.next)) (by rfl) noX) ?_)
      refine aops_guard_t rfl rfl rfl (w_callR rfl rfl rfl cl_58 (c_spec_l1In ..) ?_)
      refine aops_cons rfl (w_pure rfl (p_pick_t rfl rfl) ?_)
      refine aops_cons rfl (w_pure rfl (p_assign rfl) ?_)
      refine aops_nil ?_
      refine a_ret ?_
      refine ret_ok (hands1 rfl (.tmp rfl)) (.nil _) ?_
      first | (refine ret_false ?_; omega) | (refine ret_true ?_; omega) | (refine ret_dec ?_; omega)
    · skip
      refine g_pass rfl rfl rfl rfl rfl ?_
      refine g_pass rfl rfl rfl rfl rfl ?_
      refine aops_cons rfl (w_pure rfl (p_pick_f rfl rfl) ?_)
      refine aops_cons rfl (w_pure rfl (p_assign rfl) ?_)
      refine aops_nil ?_
      refine a_ret ?_
      refine ret_ok (hands1 rfl (.tmp rfl)) (.nil _) ?_
      first | (refine ret_false ?_; omega) | (refine ret_true ?_; omega) | (refine ret_dec ?_; omega)
  · skip
    refine g_pass rfl rfl rfl rfl rfl ?_
    refine g_pass rfl rfl rfl rfl rfl ?_
    refine g_pass rfl rfl rfl rfl rfl ?_
    refine g_pass rfl rfl rfl rfl rfl ?_
    refine g_pass rfl rfl rfl rfl rfl ?_
    refine aops_cons rfl (w_pure rfl (p_pick_f rfl rfl) ?_)
    refine aops_cons rfl (w_pure rfl (p_move rfl) ?_)
    refine g_pass rfl rfl rfl rfl rfl ?_
    refine g_pass rfl rfl rfl rfl rfl ?_
    refine g_pass rfl rfl rfl rfl rfl ?_
    refine aops_cons rfl (w_pure rfl (p_pick_f rfl rfl) ?_)
    refine aops_cons rfl (w_pure rfl (p_assign rfl) ?_)
    refine aops_nil ?_
    refine a_ret ?_
    refine ret_ok (hands1 rfl (.tmp rfl)) (.nil _) ?_
    first | (refine ret_false ?_; omega) | (refine ret_true ?_; omega) | (refine ret_dec ?_; omega)

theorem c_spec_IsCounter (c : Counter) : ACalls Try.prog 15 [.agg (eCounter c)] [] (Ret (.bool (decide (IsCounter c)))) := by
  refine a_enter Try.func15 rfl rfl (fun w0 M0 => ?_)
  refine a_seq ?_
  refine a_region ?_
  refine aops_cons rfl (w_box rfl rfl rfl fun b1 => ?_)
  refine aops_cons rfl (w_pure rfl (p_assign rfl) ?_)
  refine aops_nil ?_
  refine a_seq ?_
  refine a_region ?_
  refine aops_cons rfl (w_pure rfl (p_load_box_all ag_25 rfl (by repeat (first | exact Pick.here _ _ _ | apply Pick.next)) (by rfl) noX) ?_)
  refine aops_cons rfl (w_callR rfl rfl rfl cl_56 (c_spec_l16Counter ..) ?_)
  refine aops_cons rfl (w_pure rfl (p_assign rfl) ?_)
  refine aops_nil ?_
  refine a_ret ?_
  refine ret_ok (hands1 rfl (.tmp rfl)) (.nil _) ?_
  first | (refine ret_false ?_; omega) | (refine ret_true ?_; omega) | (refine ret_dec ?_; omega)

theorem c_laws_toCounter (c : Counter) : ACalls Try.prog 16 [.agg (eCounter c)] [] (Ret (.agg (eCounter c))) := by
  refine a_enter Try.func16 rfl rfl (fun w0 M0 => ?_)
  refine a_seq ?_
  refine a_region ?_
  refine aops_cons rfl (w_box rfl rfl rfl fun b1 => ?_)
  refine aops_cons rfl (w_alloc rfl z_25 fun b2 => ?_)
  refine aops_nil ?_
  refine a_seq ?_
  refine a_region ?_
  refine aops_cons rfl (w_alloc rfl z_25 fun b3 => ?_)
  refine aops_nil ?_
  refine a_seq ?_
  refine a_region ?_
  refine aops_cons rfl (w_pure rfl (p_field_box fo_23_0 rfl) ?_)
  refine aops_cons rfl (w_pure rfl (p_load_box ag_3 rfl (by repeat (first | exact Pick.here _ _ _ | apply Pick.next)) (by rfl) noX) ?_)
  refine aops_cons rfl (w_pure rfl (p_field_box fo_25_0 rfl) ?_)
  refine aops_cons rfl (w_store (cells' := [_, _, _, _]) rfl rfl rfl (by repeat (first | exact Pick.here _ _ _ | apply Pick.next)) cn_3 (by rfl) (by rfl) (by rfl) trivial ?_)
  refine aops_nil ?_
  refine a_seq ?_
  refine a_region ?_
  refine aops_cons rfl (w_pure rfl (p_field_box fo_23_1 rfl) ?_)
  refine aops_cons rfl (w_pure rfl (p_load_box ag_3 rfl (by repeat (first | exact Pick.here _ _ _ | apply Pick.next)) (by rfl) noX) ?_)
  refine aops_cons rfl (w_pure rfl (p_field_box fo_25_1 rfl) ?_)
  refine aops_cons rfl (w_store (cells' := [_, _, _, _]) rfl rfl rfl (by repeat (first | exact Pick.here _ _ _ | apply Pick.next)) cn_3 (by rfl) (by rfl) (by rfl) trivial ?_)
  refine aops_nil ?_
  refine a_seq ?_
  refine a_region ?_
  refine aops_cons rfl (w_pure rfl (p_field_box fo_23_2 rfl) ?_)
  refine aops_cons rfl (w_pure rfl (p_load_box ag_3 rfl (by repeat (first | exact Pick.here _ _ _ | apply Pick.next)) (by rfl) noX) ?_)
  refine aops_cons rfl (w_pure rfl (p_field_box fo_25_2 rfl) ?_)
  refine aops_cons rfl (w_store (cells' := [_, _, _, _]) rfl rfl rfl (by repeat (first | exact Pick.here _ _ _ | apply Pick.next)) cn_3 (by rfl) (by rfl) (by rfl) trivial ?_)
  refine aops_nil ?_
  refine a_seq ?_
  refine a_region ?_
  refine aops_cons rfl (w_pure rfl (p_field_box fo_23_3 rfl) ?_)
  refine aops_cons rfl (w_pure rfl (p_load_box ag_4 rfl (by repeat (first | exact Pick.here _ _ _ | apply Pick.next)) (by rfl) noX) ?_)
  refine aops_cons rfl (w_pure rfl (p_field_box fo_25_3 rfl) ?_)
  refine aops_cons rfl (w_store (cells' := [_, _, _, _]) rfl rfl rfl (by repeat (first | exact Pick.here _ _ _ | apply Pick.next)) cn_4 (by rfl) (by rfl) (by rfl) trivial ?_)
  refine aops_nil ?_
  refine a_seq ?_
  refine a_region ?_
  refine aops_cons rfl (w_pure rfl (p_load_box_all ag_25 rfl (by repeat (first | exact Pick.here _ _ _ | apply Pick.next)) (by rfl) noX) ?_)
  refine aops_cons rfl (w_store (cells' := [_, _, _, _]) rfl rfl rfl (by repeat (first | exact Pick.here _ _ _ | apply Pick.next)) cn_25 (by rfl) (by rfl) (by rfl) trivial ?_)
  refine aops_nil ?_
  refine a_ret ?_
  refine ret_ok (hands1 rfl (.cell ag_25 rfl (by repeat (first | exact Pick.here _ _ _ | apply Pick.next)) (by rfl))) (.nil _) ?_
  exact ⟨rfl, rfl⟩

theorem c_laws_FnExactIsCounter (c : Counter) (_hc : okCounter c) : ACalls Try.prog 3 [.agg (eCounter c)] [] (Ret (.bool true)) := by
  refine a_enter Try.func3 rfl rfl (fun w0 M0 => ?_)
  refine a_seq ?_
  refine a_region ?_
  refine aops_cons rfl (w_box rfl rfl rfl fun b1 => ?_)
  refine aops_cons rfl (w_pure rfl (p_assign rfl) ?_)
  refine aops_nil ?_
  refine a_seq ?_
  refine a_region ?_
  refine aops_cons rfl (w_pure rfl (p_load_box_all ag_23 rfl (by repeat (first | exact Pick.here _ _ _ | apply Pick.next)) (by rfl) noX) ?_)
  refine aops_cons rfl (w_callR rfl rfl rfl cl_16 (c_laws_toCounter ..) ?_)
  refine aops_cons rfl (w_callR rfl rfl rfl cl_15 (c_spec_IsCounter ..) ?_)
  refine aops_cons rfl (w_pure rfl (p_assign rfl) ?_)
  refine aops_nil ?_
  refine a_seq ?_
  refine a_region ?_
  refine aops_cons rfl (w_pure rfl (p_load_box_all ag_23 rfl (by repeat (first | exact Pick.here _ _ _ | apply Pick.next)) (by rfl) noX) ?_)
  refine aops_cons rfl (w_callR rfl rfl rfl cl_16 (c_laws_toCounter ..) ?_)
  refine aops_cons rfl (w_callR rfl rfl rfl cl_17 (c_impl_IsCounter ..) ?_)
  refine aops_cons rfl (w_pure rfl (p_assign rfl) ?_)
  refine aops_nil ?_
  refine a_seq ?_
  refine a_seq ?_
  refine a_region ?_
  refine aops_cons rfl (w_pure rfl (p_move rfl) ?_)
  refine aops_cons rfl (w_pure rfl (p_move rfl) ?_)
  refine aops_cons rfl (w_pure rfl (p_neq_bsame um_4 rfl rfl) ?_)
  refine aops_nil ?_
  refine a_cond_f rfl ?_
  refine a_skip ?_
  refine a_seq ?_
  refine a_region ?_
  refine aops_cons rfl (w_pure rfl (p_assign rfl) ?_)
  refine aops_nil ?_
  refine a_ret ?_
  refine ret_ok (hands1 rfl (.tmp rfl)) (.nil _) ?_
  exact ⟨rfl, rfl⟩

end Go.Proofs.Ytinbacenkbfifaa
