/-
  The walks of this part: each theorem is the contract of one function. Condition: none but those that it names.
-/
import Derived.Test.YtinbacenkbfifaaPortDF
import Derived.Test.YtinbacenkbfifaaPortA
import Derived.Test.YtinbacenkbfifaaPortC
namespace Go.Proofs.Ytinbacenkbfifaa
open Go Go.Fw Go.Hv
attribute [local irreducible] awp Aops Aop ADraw ADrawAll ACalls
set_option maxRecDepth 4000
set_option linter.unusedSimpArgs false
set_option linter.unusedVariables false

theorem c_spec_l1Least (a b : Int) : ACalls Try.prog 72 [.int .i64 a, .int .i64 b] [] (Ret (.int .i64 (if a < b then a else b))) := by
  refine a_enter Try.func72 rfl rfl (fun w0 M0 => ?_)
  refine a_seq ?_
  refine a_region ?_
  refine aops_cons rfl (w_pure rfl (p_assign rfl) ?_)
  refine aops_nil ?_
  refine a_seq ?_
  refine a_seq ?_
  refine a_region ?_
  refine aops_cons rfl (w_pure rfl (p_move rfl) ?_)
  refine aops_cons rfl (w_pure rfl (p_move rfl) ?_)
  refine aops_cons rfl (w_pure rfl (p_lss rfl rfl) ?_)
  refine aops_nil ?_
  first | refine a_cond_d rfl (fun h1 => ?_) (fun h2 => ?_) | refine a_cond_n rfl (fun h1 => ?_) (fun h2 => ?_) | refine a_cond_nb rfl (fun h1 => ?_) (fun h2 => ?_) | refine a_cond rfl (fun h1 => ?_) (fun h2 => ?_)
  · (try simp only [Bool.not_eq_true', Bool.not_eq_false', Bool.not_eq_true, Bool.not_eq_false, decide_eq_true_eq, decide_eq_false_iff_not, List.length_map, List.length_range] at h1)
    refine a_seq ?_
    refine a_region ?_
    refine aops_cons rfl (w_pure rfl (p_move rfl) ?_)
    refine aops_cons rfl (w_pure rfl (p_assign rfl) ?_)
    refine aops_nil ?_
    refine a_ret ?_
    refine ret_ok (hands1 rfl (.tmp rfl)) (.nil _) ?_
    first | exact ⟨congrArg (AV.int .i64) (if_pos (by assumption)).symm, rfl⟩ | exact ⟨congrArg (AV.int .i64) (if_neg (by assumption)).symm, rfl⟩
  · (try simp only [Bool.not_eq_true', Bool.not_eq_false', Bool.not_eq_true, Bool.not_eq_false, decide_eq_true_eq, decide_eq_false_iff_not, List.length_map, List.length_range] at h2)
    refine a_skip ?_
    refine a_seq ?_
    refine a_region ?_
    refine aops_cons rfl (w_pure rfl (p_move rfl) ?_)
    refine aops_cons rfl (w_pure rfl (p_assign rfl) ?_)
    refine aops_nil ?_
    refine a_ret ?_
    refine ret_ok (hands1 rfl (.tmp rfl)) (.nil _) ?_
    first | exact ⟨congrArg (AV.int .i64) (if_pos (by assumption)).symm, rfl⟩ | exact ⟨congrArg (AV.int .i64) (if_neg (by assumption)).symm, rfl⟩

theorem co_spec_SendBytes (p : Port) (hn : SmallPort p) (n : Int) (hA : GoodBytes p n) : ACalls Try.prog 42 [.agg (ePort p), .int .i64 n] [] (fun r st => ∃ b1 b2 b3, r = .tup [.own 1 b1 0 (sentP p n).length, .agg [.own 1 b2 0 (sendP p n).rx.length, .own 1 b3 0 (sendP p n).tx.length, .int .i64 (sendP p n).depth, .bool (sendP p n).flag], .bool true] ∧ st = [(b1, .arr 3 1 ((sentP p n).map eInt)), (b2, .arr 3 1 ((sendP p n).rx.map eInt)), (b3, .arr 3 1 ((sendP p n).tx.map eInt))]) := by
  have hn1 : p.rx.length ≤ 1048576 := hn.1
  have hn2 : p.tx.length ≤ 1048576 := hn.2
  refine a_enter Try.func42 rfl rfl (fun w0 M0 => ?_)
  refine a_seq ?_
  refine a_region ?_
  refine aops_cons rfl (w_box_v rfl rfl rfl ?_)
  refine aops_cons rfl (w_pure rfl (p_assign rfl) ?_)
  refine aops_cons rfl (w_alloc rfl z_41 fun b1 => ?_)
  refine aops_cons rfl (w_pure rfl (p_assign rfl) ?_)
  refine aops_nil ?_
  refine a_seq ?_
  refine a_seq ?_
  refine a_region ?_
  refine aops_cons rfl (w_pure rfl (p_load_v_all ag_41 rfl (by rfl) noX) ?_)
  refine aops_cons rfl (w_callR rfl rfl rfl cl_60 (c_spec_l16Port _ ‹_›) ?_)
  refine aops_cons rfl (w_pure rfl (p_not rfl) ?_)
  refine aops_cons rfl (w_pure rfl (p_move rfl) ?_)
  first | refine aops_split_d 11 rfl (fun h1 => ?_) (fun h2 => ?_) | refine aops_split 11 rfl (fun h1 => ?_) (fun h2 => ?_)
  · (try simp only [Bool.not_eq_true', Bool.not_eq_false', Bool.not_eq_true, Bool.not_eq_false, decide_eq_true_eq, decide_eq_false_iff_not, List.length_map, List.length_range] at h1)
    refine g_pass' rfl rfl rfl rfl rfl ?_
    refine g_pass' rfl rfl rfl rfl rfl ?_
    refine g_pass' rfl rfl rfl rfl rfl ?_
    refine aops_cons rfl (w_pure rfl (p_pick_t rfl rfl) ?_)
    refine aops_nil ?_
    refine a_cond_t rfl ?_
    refine a_seq ?_
    refine a_region ?_
    refine aops_cons rfl (w_lit_vM eInt [] rfl el_36 rfl rfl rfl rfl rfl ?_)
    refine aops_cons rfl (w_pure rfl (p_build (cells := [_, _, _, _]) z_41 pl_41 rfl rfl) ?_)
    refine aops_cons rfl (w_pure rfl (p_assign rfl) ?_)
    refine aops_cons rfl (w_store (cells' := [_, _, _, _]) rfl rfl rfl (by repeat (first | exact Pick.here _ _ _ | apply Pick.next)) cn_41 (by rfl) (by rfl) (by rfl) trivial ?_)
    refine aops_cons rfl (w_pure rfl (p_assign rfl) ?_)
    refine aops_nil ?_
    refine a_ret ?_
    refine ret_ok (hands3 rfl (.tmp rfl) (.cell ag_41 rfl (by repeat (first | exact Pick.here _ _ _ | apply Pick.next)) (by rfl)) (.tmp rfl)) (.nil _) ?_
    first | exact ⟨_, _, _, rfl, rfl⟩ | exact absurd hA.1 (by assumption) | (exfalso; have h1 := hA.2; omega) | exact absurd hA.2 (by assumption)
  · (try simp only [Bool.not_eq_true', Bool.not_eq_false', Bool.not_eq_true, Bool.not_eq_false, decide_eq_true_eq, decide_eq_false_iff_not, List.length_map, List.length_range] at h2)
    refine aops_guard_t rfl rfl rfl (w_pure rfl (p_move rfl) ?_)
    refine aops_guard_t rfl rfl rfl (w_callR rfl rfl rfl cl_58 (c_spec_l1In ..) ?_)
    refine aops_guard_t rfl rfl rfl (w_pure rfl (p_not rfl) ?_)
    refine aops_cons rfl (w_pure rfl (p_pick_f rfl rfl) ?_)
    refine aops_nil ?_
    first | refine a_cond_d rfl (fun h3 => ?_) (fun h4 => ?_) | refine a_cond_n rfl (fun h3 => ?_) (fun h4 => ?_) | refine a_cond_nb rfl (fun h3 => ?_) (fun h4 => ?_) | refine a_cond rfl (fun h3 => ?_) (fun h4 => ?_)
    · (try simp only [Bool.not_eq_true', Bool.not_eq_false', Bool.not_eq_true, Bool.not_eq_false, decide_eq_true_eq, decide_eq_false_iff_not, List.length_map, List.length_range] at h3)
      refine a_seq ?_
      refine a_region ?_
      refine aops_cons rfl (w_lit_vM eInt [] rfl el_36 rfl rfl rfl rfl rfl ?_)
      refine aops_cons rfl (w_pure rfl (p_build (cells := [_, _, _, _]) z_41 pl_41 rfl rfl) ?_)
      refine aops_cons rfl (w_pure rfl (p_assign rfl) ?_)
      refine aops_cons rfl (w_store (cells' := [_, _, _, _]) rfl rfl rfl (by repeat (first | exact Pick.here _ _ _ | apply Pick.next)) cn_41 (by rfl) (by rfl) (by rfl) trivial ?_)
      refine aops_cons rfl (w_pure rfl (p_assign rfl) ?_)
      refine aops_nil ?_
      refine a_ret ?_
      refine ret_ok (hands3 rfl (.tmp rfl) (.cell ag_41 rfl (by repeat (first | exact Pick.here _ _ _ | apply Pick.next)) (by rfl)) (.tmp rfl)) (.nil _) ?_
      first | exact ⟨_, _, _, rfl, rfl⟩ | exact absurd hA.1 (by assumption) | (exfalso; have h1 := hA.2; omega) | exact absurd hA.2 (by assumption)
    · (try simp only [Bool.not_eq_true', Bool.not_eq_false', Bool.not_eq_true, Bool.not_eq_false, decide_eq_true_eq, decide_eq_false_iff_not, List.length_map, List.length_range] at h4)
      refine a_skip ?_
      refine a_seq ?_
      refine a_region ?_
      refine aops_cons rfl (w_pure rfl (p_move rfl) ?_)
      refine aops_cons rfl (w_pure rfl (p_field_v fo_41_1 rfl) ?_)
      refine aops_cons rfl (w_pure rfl (p_load_v ag_36 rfl (by rfl) noX) ?_)
      refine aops_cons rfl (w_pure rfl (p_len sl_36 rfl rfl) ?_)
      refine aops_cons rfl (w_callR rfl rfl rfl cl_72 (c_spec_l1Least _ _) ?_)
      refine aops_cons rfl (w_pure rfl (p_assign rfl) ?_)
      refine aops_nil ?_
      refine a_seq ?_
      refine a_draw [b1] (by kernel_rfl) ?_
      show ADraw _ _ _ _ _ _ 16 _ _ _ _
      refine d_take 0 rfl (by kernel_rfl) (by kernel_rfl) (by kernel_rfl) rfl (p_field_v fo_41_1 rfl) ?_
      refine d_load 1 rfl (by kernel_rfl) (by kernel_rfl) (by kernel_rfl) rfl (p_load_v ag_36 rfl (by rfl) (by simp [keys])) ?_
      refine d_take 2 rfl (by kernel_rfl) (by kernel_rfl) (by kernel_rfl) rfl (p_move rfl) ?_
      refine d_take 3 rfl (by kernel_rfl) (by kernel_rfl) (by kernel_rfl) rfl (p_slice_sl 0 (kP p n) es_36 rfl rfl (hi_some rfl (by simp only [List.length_map]; unfold kP; split <;> omega)) (Nat.zero_le _) (by rw [List.length_map]; (try unfold kP); (try unfold kL); omega) (lenAll _ _ (fun _ => rfl)) (show ((p.tx.map eInt).take (kP p n)).drop 0 = (p.tx.take (kP p n)).map eInt by rw [List.drop_zero, List.map_take])) ?_
      refine d_load 5 rfl (by kernel_rfl) (by kernel_rfl) (by kernel_rfl) rfl (p_load_v_all ag_41 rfl (by rfl) (by simp [keys])) ?_
      refine d_take 6 rfl (by kernel_rfl) (by kernel_rfl) (by kernel_rfl) rfl (p_field_v fo_41_0 rfl) ?_
      refine d_load 7 rfl (by kernel_rfl) (by kernel_rfl) (by kernel_rfl) rfl (p_load_v ag_36 rfl (by rfl) (by simp [keys])) ?_
      refine d_take 8 rfl (by kernel_rfl) (by kernel_rfl) (by kernel_rfl) rfl (p_field_v fo_41_1 rfl) ?_
      refine d_load 9 rfl (by kernel_rfl) (by kernel_rfl) (by kernel_rfl) rfl (p_load_v ag_36 rfl (by rfl) (by simp [keys])) ?_
      refine d_take 10 rfl (by kernel_rfl) (by kernel_rfl) (by kernel_rfl) rfl (p_move rfl) ?_
      refine d_take 11 rfl (by kernel_rfl) (by kernel_rfl) (by kernel_rfl) rfl (p_slice_sl (kP p n) _ es_36 rfl (lo_some rfl (by simp only [List.length_map]; unfold kP; split <;> omega)) rfl (by rw [List.length_map]; (try unfold kP); (try unfold kL); omega) (Nat.le_refl _) (lenAll _ _ (fun _ => rfl)) (show ((p.tx.map eInt).take (p.tx.map eInt).length).drop (kP p n) = (p.tx.drop (kP p n)).map eInt by rw [List.take_length, List.map_drop])) ?_
      refine draw_all [4] (by kernel_rfl) (by simp) ?_
      refine all_cons rfl rfl ?_ ?_
      · skip
        refine w_call rfl rfl rfl cl_70 ((co_spec_l1Own _ (by first | omega | (simp only [List.length_append, List.length_cons, List.length_nil, List.length_take, List.length_drop]; omega) | (have q1 := IsPort.rx ‹IsPort p›; have q2 := IsPort.tx ‹IsPort p›; simp only [List.length_append, List.length_cons, List.length_nil, List.length_take, List.length_drop]; omega) | (have q1 := IsPort.rx ‹IsPort a›; have q2 := IsPort.rx ‹IsPort b›; simp only [kL, List.length_append, List.length_cons, List.length_nil, List.length_take, List.length_drop]; omega))).mono fun _ _ h => h.len) ?_
        rintro _ _ ⟨b2, rfl, rfl⟩
        refine draw_all [12] (by kernel_rfl) (by simp) ?_
        refine all_cons rfl rfl ?_ ?_
        · skip
          refine w_call rfl rfl rfl cl_67 (co_spec_l16With _ _ _ (by first | omega | (simp only [List.length_append, List.length_cons, List.length_nil, List.length_take, List.length_drop]; omega) | (have q1 := IsPort.rx ‹IsPort p›; have q2 := IsPort.tx ‹IsPort p›; simp only [List.length_append, List.length_cons, List.length_nil, List.length_take, List.length_drop]; omega) | (have q1 := IsPort.rx ‹IsPort a›; have q2 := IsPort.rx ‹IsPort b›; simp only [kL, List.length_append, List.length_cons, List.length_nil, List.length_take, List.length_drop]; omega)) (by first | omega | (simp only [List.length_append, List.length_cons, List.length_nil, List.length_take, List.length_drop]; omega) | (have q1 := IsPort.rx ‹IsPort p›; have q2 := IsPort.tx ‹IsPort p›; simp only [List.length_append, List.length_cons, List.length_nil, List.length_take, List.length_drop]; omega) | (have q1 := IsPort.rx ‹IsPort a›; have q2 := IsPort.rx ‹IsPort b›; simp only [kL, List.length_append, List.length_cons, List.length_nil, List.length_take, List.length_drop]; omega))) ?_
          rintro _ _ ⟨b3, b4, rfl, rfl⟩
          refine d_take 13 rfl (by kernel_rfl) (by kernel_rfl) (by kernel_rfl) rfl (p_assign rfl) ?_
          refine draw_all [14] (by kernel_rfl) (by simp) ?_
          refine all_cons rfl rfl ?_ ?_
          · skip
            refine w_store (cells' := [_, _, _, _]) rfl rfl rfl (by repeat (first | exact Pick.here _ _ _ | apply Pick.next)) cn_41 (by rfl) (by rfl) (by rfl) (by first | (refine .inl ?_; simp; done) | (refine .inr ?_; simp [keys]; done)) ?_
            refine d_take 15 rfl (by kernel_rfl) (by kernel_rfl) (by kernel_rfl) rfl (p_assign rfl) ?_
            refine draw_done (by kernel_rfl) ?_
            refine a_ret ?_
            refine ret_ok (hands3 rfl (.tmp rfl) (.cell ag_41 rfl (by repeat (first | exact Pick.here _ _ _ | apply Pick.next)) (by rfl)) (.tmp rfl)) (st' := [(b2, _), (b3, _), (b4, _)]) (.cons (by repeat (first | exact Pick.here _ _ _ | apply Pick.next)) (.cons (by repeat (first | exact Pick.here _ _ _ | apply Pick.next)) (.cons (by repeat (first | exact Pick.here _ _ _ | apply Pick.next)) (.nil _)))) ?_
            first | exact ⟨_, _, _, rfl, rfl⟩ | exact absurd hA.1 (by assumption) | (exfalso; have h1 := hA.2; omega) | exact absurd hA.2 (by assumption)
          exact all_nil
        exact all_nil
      exact all_nil

theorem cy_spec_SendBytes (p : Port) (hn : SmallPort p) (n : Int) (hA : GoodBytes p n) : ACalls Try.prog 42 [.agg (ePort p), .int .i64 n] [] (Ret (.tup [.sl ((sentP p n).map eInt), .agg (ePort (sendP p n)), .bool true])) :=
  (co_spec_SendBytes p hn n hA).freeze (by rintro _ _ ⟨_, _, _, rfl, rfl⟩; exact (.tup (.cons (.own (by repeat (first | exact List.Mem.head _ | apply List.Mem.tail)) (List.length_map _)) (.cons (.agg (.cons (.own (by repeat (first | exact List.Mem.head _ | apply List.Mem.tail)) (List.length_map _)) (.cons (.own (by repeat (first | exact List.Mem.head _ | apply List.Mem.tail)) (List.length_map _)) (.cons (.refl _) (.cons (.refl _) .nil))))) (.cons (.refl _) .nil)))))

theorem cn_spec_SendBytes (p : Port) (hn : SmallPort p) (n : Int) (hA : ¬ GoodBytes p n) : ACalls Try.prog 42 [.agg (ePort p), .int .i64 n] [] (Ret (.tup [.sl ([] : List (List AV)), .agg [.nil, .nil, .int .i64 0, .bool false], .bool false])) := by
  have hn1 : p.rx.length ≤ 1048576 := hn.1
  have hn2 : p.tx.length ≤ 1048576 := hn.2
  refine a_enter Try.func42 rfl rfl (fun w0 M0 => ?_)
  refine a_seq ?_
  refine a_region ?_
  refine aops_cons rfl (w_box_v rfl rfl rfl ?_)
  refine aops_cons rfl (w_pure rfl (p_assign rfl) ?_)
  refine aops_cons rfl (w_alloc rfl z_41 fun b1 => ?_)
  refine aops_cons rfl (w_pure rfl (p_assign rfl) ?_)
  refine aops_nil ?_
  refine a_seq ?_
  refine a_seq ?_
  refine a_region ?_
  refine aops_cons rfl (w_pure rfl (p_load_v_all ag_41 rfl (by rfl) noX) ?_)
  refine aops_cons rfl (w_callR rfl rfl rfl cl_60 (c_spec_l16Port _ ‹_›) ?_)
  refine aops_cons rfl (w_pure rfl (p_not rfl) ?_)
  refine aops_cons rfl (w_pure rfl (p_move rfl) ?_)
  first | refine aops_split_d 11 rfl (fun h1 => ?_) (fun h2 => ?_) | refine aops_split 11 rfl (fun h1 => ?_) (fun h2 => ?_)
  · (try simp only [Bool.not_eq_true', Bool.not_eq_false', Bool.not_eq_true, Bool.not_eq_false, decide_eq_true_eq, decide_eq_false_iff_not, List.length_map, List.length_range] at h1)
    refine g_pass' rfl rfl rfl rfl rfl ?_
    refine g_pass' rfl rfl rfl rfl rfl ?_
    refine g_pass' rfl rfl rfl rfl rfl ?_
    refine aops_cons rfl (w_pure rfl (p_pick_t rfl rfl) ?_)
    refine aops_nil ?_
    refine a_cond_t rfl ?_
    refine a_seq ?_
    refine a_region ?_
    refine aops_cons rfl (w_lit_vM eInt [] rfl el_36 rfl rfl rfl rfl rfl ?_)
    refine aops_cons rfl (w_pure rfl (p_build (cells := [_, _, _, _]) z_41 pl_41 rfl rfl) ?_)
    refine aops_cons rfl (w_pure rfl (p_assign rfl) ?_)
    refine aops_cons rfl (w_store (cells' := [_, _, _, _]) rfl rfl rfl (by repeat (first | exact Pick.here _ _ _ | apply Pick.next)) cn_41 (by rfl) (by rfl) (by rfl) trivial ?_)
    refine aops_cons rfl (w_pure rfl (p_assign rfl) ?_)
    refine aops_nil ?_
    refine a_ret ?_
    refine ret_ok (hands3 rfl (.tmp rfl) (.cell ag_41 rfl (by repeat (first | exact Pick.here _ _ _ | apply Pick.next)) (by rfl)) (.tmp rfl)) (.nil _) ?_
    first | exact ⟨rfl, rfl⟩ | exact absurd (show GoodBytes p n from ⟨by assumption, by omega, by omega⟩) hA | exact absurd (show GoodBytes p n from ⟨by assumption, by omega⟩) hA | exact absurd (show GoodBytes p n from ⟨by assumption, by assumption⟩) hA
  · (try simp only [Bool.not_eq_true', Bool.not_eq_false', Bool.not_eq_true, Bool.not_eq_false, decide_eq_true_eq, decide_eq_false_iff_not, List.length_map, List.length_range] at h2)
    refine aops_guard_t rfl rfl rfl (w_pure rfl (p_move rfl) ?_)
    refine aops_guard_t rfl rfl rfl (w_callR rfl rfl rfl cl_58 (c_spec_l1In ..) ?_)
    refine aops_guard_t rfl rfl rfl (w_pure rfl (p_not rfl) ?_)
    refine aops_cons rfl (w_pure rfl (p_pick_f rfl rfl) ?_)
    refine aops_nil ?_
    first | refine a_cond_d rfl (fun h3 => ?_) (fun h4 => ?_) | refine a_cond_n rfl (fun h3 => ?_) (fun h4 => ?_) | refine a_cond_nb rfl (fun h3 => ?_) (fun h4 => ?_) | refine a_cond rfl (fun h3 => ?_) (fun h4 => ?_)
    · (try simp only [Bool.not_eq_true', Bool.not_eq_false', Bool.not_eq_true, Bool.not_eq_false, decide_eq_true_eq, decide_eq_false_iff_not, List.length_map, List.length_range] at h3)
      refine a_seq ?_
      refine a_region ?_
      refine aops_cons rfl (w_lit_vM eInt [] rfl el_36 rfl rfl rfl rfl rfl ?_)
      refine aops_cons rfl (w_pure rfl (p_build (cells := [_, _, _, _]) z_41 pl_41 rfl rfl) ?_)
      refine aops_cons rfl (w_pure rfl (p_assign rfl) ?_)
      refine aops_cons rfl (w_store (cells' := [_, _, _, _]) rfl rfl rfl (by repeat (first | exact Pick.here _ _ _ | apply Pick.next)) cn_41 (by rfl) (by rfl) (by rfl) trivial ?_)
      refine aops_cons rfl (w_pure rfl (p_assign rfl) ?_)
      refine aops_nil ?_
      refine a_ret ?_
      refine ret_ok (hands3 rfl (.tmp rfl) (.cell ag_41 rfl (by repeat (first | exact Pick.here _ _ _ | apply Pick.next)) (by rfl)) (.tmp rfl)) (.nil _) ?_
      first | exact ⟨rfl, rfl⟩ | exact absurd (show GoodBytes p n from ⟨by assumption, by omega, by omega⟩) hA | exact absurd (show GoodBytes p n from ⟨by assumption, by omega⟩) hA | exact absurd (show GoodBytes p n from ⟨by assumption, by assumption⟩) hA
    · (try simp only [Bool.not_eq_true', Bool.not_eq_false', Bool.not_eq_true, Bool.not_eq_false, decide_eq_true_eq, decide_eq_false_iff_not, List.length_map, List.length_range] at h4)
      refine a_skip ?_
      refine a_seq ?_
      refine a_region ?_
      refine aops_cons rfl (w_pure rfl (p_move rfl) ?_)
      refine aops_cons rfl (w_pure rfl (p_field_v fo_41_1 rfl) ?_)
      refine aops_cons rfl (w_pure rfl (p_load_v ag_36 rfl (by rfl) noX) ?_)
      refine aops_cons rfl (w_pure rfl (p_len sl_36 rfl rfl) ?_)
      refine aops_cons rfl (w_callR rfl rfl rfl cl_72 (c_spec_l1Least _ _) ?_)
      refine aops_cons rfl (w_pure rfl (p_assign rfl) ?_)
      refine aops_nil ?_
      refine a_seq ?_
      refine a_draw [b1] (by kernel_rfl) ?_
      show ADraw _ _ _ _ _ _ 16 _ _ _ _
      refine d_take 0 rfl (by kernel_rfl) (by kernel_rfl) (by kernel_rfl) rfl (p_field_v fo_41_1 rfl) ?_
      refine d_load 1 rfl (by kernel_rfl) (by kernel_rfl) (by kernel_rfl) rfl (p_load_v ag_36 rfl (by rfl) (by simp [keys])) ?_
      refine d_take 2 rfl (by kernel_rfl) (by kernel_rfl) (by kernel_rfl) rfl (p_move rfl) ?_
      refine d_take 3 rfl (by kernel_rfl) (by kernel_rfl) (by kernel_rfl) rfl (p_slice_sl 0 (kP p n) es_36 rfl rfl (hi_some rfl (by simp only [List.length_map]; unfold kP; split <;> omega)) (Nat.zero_le _) (by rw [List.length_map]; (try unfold kP); (try unfold kL); omega) (lenAll _ _ (fun _ => rfl)) (show ((p.tx.map eInt).take (kP p n)).drop 0 = (p.tx.take (kP p n)).map eInt by rw [List.drop_zero, List.map_take])) ?_
      refine d_load 5 rfl (by kernel_rfl) (by kernel_rfl) (by kernel_rfl) rfl (p_load_v_all ag_41 rfl (by rfl) (by simp [keys])) ?_
      refine d_take 6 rfl (by kernel_rfl) (by kernel_rfl) (by kernel_rfl) rfl (p_field_v fo_41_0 rfl) ?_
      refine d_load 7 rfl (by kernel_rfl) (by kernel_rfl) (by kernel_rfl) rfl (p_load_v ag_36 rfl (by rfl) (by simp [keys])) ?_
      refine d_take 8 rfl (by kernel_rfl) (by kernel_rfl) (by kernel_rfl) rfl (p_field_v fo_41_1 rfl) ?_
      refine d_load 9 rfl (by kernel_rfl) (by kernel_rfl) (by kernel_rfl) rfl (p_load_v ag_36 rfl (by rfl) (by simp [keys])) ?_
      refine d_take 10 rfl (by kernel_rfl) (by kernel_rfl) (by kernel_rfl) rfl (p_move rfl) ?_
      refine d_take 11 rfl (by kernel_rfl) (by kernel_rfl) (by kernel_rfl) rfl (p_slice_sl (kP p n) _ es_36 rfl (lo_some rfl (by simp only [List.length_map]; unfold kP; split <;> omega)) rfl (by rw [List.length_map]; (try unfold kP); (try unfold kL); omega) (Nat.le_refl _) (lenAll _ _ (fun _ => rfl)) (show ((p.tx.map eInt).take (p.tx.map eInt).length).drop (kP p n) = (p.tx.drop (kP p n)).map eInt by rw [List.take_length, List.map_drop])) ?_
      refine draw_all [4] (by kernel_rfl) (by simp) ?_
      refine all_cons rfl rfl ?_ ?_
      · skip
        refine w_call rfl rfl rfl cl_70 ((co_spec_l1Own _ (by first | omega | (simp only [List.length_append, List.length_cons, List.length_nil, List.length_take, List.length_drop]; omega) | (have q1 := IsPort.rx ‹IsPort p›; have q2 := IsPort.tx ‹IsPort p›; simp only [List.length_append, List.length_cons, List.length_nil, List.length_take, List.length_drop]; omega) | (have q1 := IsPort.rx ‹IsPort a›; have q2 := IsPort.rx ‹IsPort b›; simp only [kL, List.length_append, List.length_cons, List.length_nil, List.length_take, List.length_drop]; omega))).mono fun _ _ h => h.len) ?_
        rintro _ _ ⟨b2, rfl, rfl⟩
        refine draw_all [12] (by kernel_rfl) (by simp) ?_
        refine all_cons rfl rfl ?_ ?_
        · skip
          refine w_call rfl rfl rfl cl_67 (co_spec_l16With _ _ _ (by first | omega | (simp only [List.length_append, List.length_cons, List.length_nil, List.length_take, List.length_drop]; omega) | (have q1 := IsPort.rx ‹IsPort p›; have q2 := IsPort.tx ‹IsPort p›; simp only [List.length_append, List.length_cons, List.length_nil, List.length_take, List.length_drop]; omega) | (have q1 := IsPort.rx ‹IsPort a›; have q2 := IsPort.rx ‹IsPort b›; simp only [kL, List.length_append, List.length_cons, List.length_nil, List.length_take, List.length_drop]; omega)) (by first | omega | (simp only [List.length_append, List.length_cons, List.length_nil, List.length_take, List.length_drop]; omega) | (have q1 := IsPort.rx ‹IsPort p›; have q2 := IsPort.tx ‹IsPort p›; simp only [List.length_append, List.length_cons, List.length_nil, List.length_take, List.length_drop]; omega) | (have q1 := IsPort.rx ‹IsPort a›; have q2 := IsPort.rx ‹IsPort b›; simp only [kL, List.length_append, List.length_cons, List.length_nil, List.length_take, List.length_drop]; omega))) ?_
          rintro _ _ ⟨b3, b4, rfl, rfl⟩
          refine d_take 13 rfl (by kernel_rfl) (by kernel_rfl) (by kernel_rfl) rfl (p_assign rfl) ?_
          refine draw_all [14] (by kernel_rfl) (by simp) ?_
          refine all_cons rfl rfl ?_ ?_
          · skip
            refine w_store (cells' := [_, _, _, _]) rfl rfl rfl (by repeat (first | exact Pick.here _ _ _ | apply Pick.next)) cn_41 (by rfl) (by rfl) (by rfl) (by first | (refine .inl ?_; simp; done) | (refine .inr ?_; simp [keys]; done)) ?_
            refine d_take 15 rfl (by kernel_rfl) (by kernel_rfl) (by kernel_rfl) rfl (p_assign rfl) ?_
            refine draw_done (by kernel_rfl) ?_
            refine a_ret ?_
            refine ret_ok (hands3 rfl (.tmp rfl) (.cell ag_41 rfl (by repeat (first | exact Pick.here _ _ _ | apply Pick.next)) (by rfl)) (.tmp rfl)) (st' := [(b2, _), (b3, _), (b4, _)]) (.cons (by repeat (first | exact Pick.here _ _ _ | apply Pick.next)) (.cons (by repeat (first | exact Pick.here _ _ _ | apply Pick.next)) (.cons (by repeat (first | exact Pick.here _ _ _ | apply Pick.next)) (.nil _)))) ?_
            first | exact ⟨rfl, rfl⟩ | exact absurd (show GoodBytes p n from ⟨by assumption, by omega, by omega⟩) hA | exact absurd (show GoodBytes p n from ⟨by assumption, by omega⟩) hA | exact absurd (show GoodBytes p n from ⟨by assumption, by assumption⟩) hA
          exact all_nil
        exact all_nil
      exact all_nil

theorem cy_impl_SendBytes (p : Port) (hn : SmallPort p) (n : Int) (hA : GoodBytes p n) : ACalls Try.prog 43 [.agg (ePort p), .int .i64 n] [] (fun r st => ∃ b1 b2 b3, r = .tup [.own 1 b1 0 (sentP p n).length, .agg [.own 1 b2 0 (sendP p n).rx.length, .own 1 b3 0 (sendP p n).tx.length, .int .i64 (sendP p n).depth, .bool (sendP p n).flag], .bool true] ∧ st = [(b1, .arr 3 1 ((sentP p n).map eInt)), (b2, .arr 3 1 ((sendP p n).rx.map eInt)), (b3, .arr 3 1 ((sendP p n).tx.map eInt))]) := by
  have hn1 : p.rx.length ≤ 1048576 := hn.1
  have hn2 : p.tx.length ≤ 1048576 := hn.2
  refine a_enter Try.func43 rfl rfl (fun w0 M0 => ?_)
  refine a_seq ?_
  refine a_region ?_
  refine aops_cons rfl (w_box_v rfl rfl rfl ?_)
  refine aops_cons rfl (w_pure rfl (p_assign rfl) ?_)
  refine aops_cons rfl (w_alloc rfl z_41 fun b1 => ?_)
  refine aops_cons rfl (w_pure rfl (p_assign rfl) ?_)
  refine aops_nil ?_
  refine a_seq ?_
  refine a_seq ?_
  refine a_region ?_
  refine aops_cons rfl (w_pure rfl (p_load_v_all ag_41 rfl (by rfl) noX) ?_)
  refine aops_cons rfl (w_callR rfl rfl rfl cl_28 (c_impl_IsPort _ ‹_›) ?_)
  refine aops_cons rfl (w_pure rfl (p_not rfl) ?_)
  refine aops_cons rfl (w_pure rfl (p_move rfl) ?_)
  first | refine aops_split_d 10 rfl (fun h1 => ?_) (fun h2 => ?_) | refine aops_split 10 rfl (fun h1 => ?_) (fun h2 => ?_)
  · (try simp only [Bool.not_eq_true', Bool.not_eq_false', Bool.not_eq_true, Bool.not_eq_false, decide_eq_true_eq, decide_eq_false_iff_not, List.length_map, List.length_range] at h1)
    refine g_pass' rfl rfl rfl rfl rfl ?_
    refine g_pass' rfl rfl rfl rfl rfl ?_
    refine g_pass' rfl rfl rfl rfl rfl ?_
    refine aops_cons rfl (w_pure rfl (p_pick_t rfl rfl) ?_)
    refine aops_nil ?_
    refine a_cond_t rfl ?_
    refine a_seq ?_
    refine a_region ?_
    refine aops_cons rfl (w_pure rfl (p_build (cells := [_, _, _, _]) z_41 pl_41 rfl rfl) ?_)
    refine aops_cons rfl (w_pure rfl (p_assign rfl) ?_)
    refine aops_cons rfl (w_store (cells' := [_, _, _, _]) rfl rfl rfl (by repeat (first | exact Pick.here _ _ _ | apply Pick.next)) cn_41 (by rfl) (by rfl) (by rfl) trivial ?_)
    refine aops_cons rfl (w_pure rfl (p_assign rfl) ?_)
    refine aops_nil ?_
    refine a_ret ?_
    refine ret_ok (hands3 rfl (.tmp rfl) (.cell ag_41 rfl (by repeat (first | exact Pick.here _ _ _ | apply Pick.next)) (by rfl)) (.tmp rfl)) (.nil _) ?_
    first | exact ⟨_, _, _, rfl, rfl⟩ | exact absurd hA.1 (by assumption) | (exfalso; have h1 := hA.2; omega) | exact absurd hA.2 (by assumption)
  · (try simp only [Bool.not_eq_true', Bool.not_eq_false', Bool.not_eq_true, Bool.not_eq_false, decide_eq_true_eq, decide_eq_false_iff_not, List.length_map, List.length_range] at h2)
    refine aops_guard_t rfl rfl rfl (w_pure rfl (p_move rfl) ?_)
    refine aops_guard_t rfl rfl rfl (w_callR rfl rfl rfl cl_57 (c_impl_inside ..) ?_)
    refine aops_guard_t rfl rfl rfl (w_pure rfl (p_not rfl) ?_)
    refine aops_cons rfl (w_pure rfl (p_pick_f rfl rfl) ?_)
    refine aops_nil ?_
    first | refine a_cond_d rfl (fun h3 => ?_) (fun h4 => ?_) | refine a_cond_n rfl (fun h3 => ?_) (fun h4 => ?_) | refine a_cond_nb rfl (fun h3 => ?_) (fun h4 => ?_) | refine a_cond rfl (fun h3 => ?_) (fun h4 => ?_)
    · (try simp only [Bool.not_eq_true', Bool.not_eq_false', Bool.not_eq_true, Bool.not_eq_false, decide_eq_true_eq, decide_eq_false_iff_not, List.length_map, List.length_range] at h3)
      refine a_seq ?_
      refine a_region ?_
      refine aops_cons rfl (w_pure rfl (p_build (cells := [_, _, _, _]) z_41 pl_41 rfl rfl) ?_)
      refine aops_cons rfl (w_pure rfl (p_assign rfl) ?_)
      refine aops_cons rfl (w_store (cells' := [_, _, _, _]) rfl rfl rfl (by repeat (first | exact Pick.here _ _ _ | apply Pick.next)) cn_41 (by rfl) (by rfl) (by rfl) trivial ?_)
      refine aops_cons rfl (w_pure rfl (p_assign rfl) ?_)
      refine aops_nil ?_
      refine a_ret ?_
      refine ret_ok (hands3 rfl (.tmp rfl) (.cell ag_41 rfl (by repeat (first | exact Pick.here _ _ _ | apply Pick.next)) (by rfl)) (.tmp rfl)) (.nil _) ?_
      first | exact ⟨_, _, _, rfl, rfl⟩ | exact absurd hA.1 (by assumption) | (exfalso; have h1 := hA.2; omega) | exact absurd hA.2 (by assumption)
    · (try simp only [Bool.not_eq_true', Bool.not_eq_false', Bool.not_eq_true, Bool.not_eq_false, decide_eq_true_eq, decide_eq_false_iff_not, List.length_map, List.length_range] at h4)
      refine a_skip ?_
      refine a_seq ?_
      refine a_region ?_
      refine aops_cons rfl (w_pure rfl (p_move rfl) ?_)
      refine aops_cons rfl (w_pure rfl (p_field_v fo_41_1 rfl) ?_)
      refine aops_cons rfl (w_pure rfl (p_load_v ag_36 rfl (by rfl) noX) ?_)
      refine aops_cons rfl (w_pure rfl (p_len sl_36 rfl rfl) ?_)
      refine aops_cons rfl (w_pure rfl (p_min2 rfl rfl) ?_)
      refine aops_cons rfl (w_pure rfl (p_assign rfl) ?_)
      refine aops_nil ?_
      refine a_seq ?_
      refine a_draw [b1] (by kernel_rfl) ?_
      show ADraw _ _ _ _ _ _ 18 _ _ _ _
      refine d_take 0 rfl (by kernel_rfl) (by kernel_rfl) (by kernel_rfl) rfl (p_field_v fo_41_1 rfl) ?_
      refine d_load 1 rfl (by kernel_rfl) (by kernel_rfl) (by kernel_rfl) rfl (p_load_v ag_36 rfl (by rfl) (by simp [keys])) ?_
      refine d_take 2 rfl (by kernel_rfl) (by kernel_rfl) (by kernel_rfl) rfl (p_move rfl) ?_
      refine d_take 3 rfl (by kernel_rfl) (by kernel_rfl) (by kernel_rfl) rfl (p_slice_sl 0 (kP p n) es_36 rfl rfl (hi_some rfl (by simp only [List.length_map]; unfold kP; omega)) (Nat.zero_le _) (by rw [List.length_map]; (try unfold kP); (try unfold kL); omega) (lenAll _ _ (fun _ => rfl)) (show ((p.tx.map eInt).take (kP p n)).drop 0 = (p.tx.take (kP p n)).map eInt by rw [List.drop_zero, List.map_take])) ?_
      refine d_load 5 rfl (by kernel_rfl) (by kernel_rfl) (by kernel_rfl) rfl (p_load_v_all ag_41 rfl (by rfl) (by simp [keys])) ?_
      refine d_take 6 rfl (by kernel_rfl) (by kernel_rfl) (by kernel_rfl) rfl (p_field_v fo_41_0 rfl) ?_
      refine d_load 7 rfl (by kernel_rfl) (by kernel_rfl) (by kernel_rfl) rfl (p_load_v ag_36 rfl (by rfl) (by simp [keys])) ?_
      refine d_take 9 rfl (by kernel_rfl) (by kernel_rfl) (by kernel_rfl) rfl (p_field_v fo_41_1 rfl) ?_
      refine d_load 10 rfl (by kernel_rfl) (by kernel_rfl) (by kernel_rfl) rfl (p_load_v ag_36 rfl (by rfl) (by simp [keys])) ?_
      refine d_take 11 rfl (by kernel_rfl) (by kernel_rfl) (by kernel_rfl) rfl (p_move rfl) ?_
      refine d_take 12 rfl (by kernel_rfl) (by kernel_rfl) (by kernel_rfl) rfl (p_slice_sl (kP p n) _ es_36 rfl (lo_some rfl (by simp only [List.length_map]; unfold kP; omega)) rfl (by rw [List.length_map]; (try unfold kP); (try unfold kL); omega) (Nat.le_refl _) (lenAll _ _ (fun _ => rfl)) (show ((p.tx.map eInt).take (p.tx.map eInt).length).drop (kP p n) = (p.tx.drop (kP p n)).map eInt by rw [List.take_length, List.map_drop])) ?_
      refine draw_all [4] (by kernel_rfl) (by simp) ?_
      refine all_cons rfl rfl ?_ ?_
      · skip
        refine w_call rfl rfl rfl cl_69 ((co_impl_copyInts _ (by first | omega | (simp only [List.length_append, List.length_cons, List.length_nil, List.length_take, List.length_drop]; omega) | (have q1 := IsPort.rx ‹IsPort p›; have q2 := IsPort.tx ‹IsPort p›; simp only [List.length_append, List.length_cons, List.length_nil, List.length_take, List.length_drop]; omega) | (have q1 := IsPort.rx ‹IsPort a›; have q2 := IsPort.rx ‹IsPort b›; simp only [kL, List.length_append, List.length_cons, List.length_nil, List.length_take, List.length_drop]; omega))).mono fun _ _ h => h.len) ?_
        rintro _ _ ⟨b2, rfl, rfl⟩
        refine draw_all [8] (by kernel_rfl) (by simp) ?_
        refine all_cons rfl rfl ?_ ?_
        · skip
          refine w_call rfl rfl rfl cl_69 ((co_impl_copyInts _ (by first | omega | (simp only [List.length_append, List.length_cons, List.length_nil, List.length_take, List.length_drop]; omega) | (have q1 := IsPort.rx ‹IsPort p›; have q2 := IsPort.tx ‹IsPort p›; simp only [List.length_append, List.length_cons, List.length_nil, List.length_take, List.length_drop]; omega) | (have q1 := IsPort.rx ‹IsPort a›; have q2 := IsPort.rx ‹IsPort b›; simp only [kL, List.length_append, List.length_cons, List.length_nil, List.length_take, List.length_drop]; omega))).mono fun _ _ h => h.len) ?_
          rintro _ _ ⟨b3, rfl, rfl⟩
          refine draw_all [13] (by kernel_rfl) (by simp) ?_
          refine all_cons rfl rfl ?_ ?_
          · skip
            refine w_call rfl rfl rfl cl_69 ((co_impl_copyInts _ (by first | omega | (simp only [List.length_append, List.length_cons, List.length_nil, List.length_take, List.length_drop]; omega) | (have q1 := IsPort.rx ‹IsPort p›; have q2 := IsPort.tx ‹IsPort p›; simp only [List.length_append, List.length_cons, List.length_nil, List.length_take, List.length_drop]; omega) | (have q1 := IsPort.rx ‹IsPort a›; have q2 := IsPort.rx ‹IsPort b›; simp only [kL, List.length_append, List.length_cons, List.length_nil, List.length_take, List.length_drop]; omega))).mono fun _ _ h => h.len) ?_
            rintro _ _ ⟨b4, rfl, rfl⟩
            refine draw_all [14] (by kernel_rfl) (by simp) ?_
            refine all_cons rfl rfl ?_ ?_
            · skip
              refine w_callR rfl rfl rfl cl_68 (c_impl_portWith _ _ _ _ _) ?_
              refine d_take 15 rfl (by kernel_rfl) (by kernel_rfl) (by kernel_rfl) rfl (p_assign rfl) ?_
              refine draw_all [16] (by kernel_rfl) (by simp) ?_
              refine all_cons rfl rfl ?_ ?_
              · skip
                refine w_store (cells' := [_, _, _, _]) rfl rfl rfl (by repeat (first | exact Pick.here _ _ _ | apply Pick.next)) cn_41 (by rfl) (by rfl) (by rfl) (by first | (refine .inl ?_; simp; done) | (refine .inr ?_; simp [keys]; done)) ?_
                refine d_take 17 rfl (by kernel_rfl) (by kernel_rfl) (by kernel_rfl) rfl (p_assign rfl) ?_
                refine draw_done (by kernel_rfl) ?_
                refine a_ret ?_
                refine ret_ok (hands3 rfl (.tmp rfl) (.cell ag_41 rfl (by repeat (first | exact Pick.here _ _ _ | apply Pick.next)) (by rfl)) (.tmp rfl)) (st' := [(b2, _), (b3, _), (b4, _)]) (.cons (by repeat (first | exact Pick.here _ _ _ | apply Pick.next)) (.cons (by repeat (first | exact Pick.here _ _ _ | apply Pick.next)) (.cons (by repeat (first | exact Pick.here _ _ _ | apply Pick.next)) (.nil _)))) ?_
                first | exact ⟨_, _, _, rfl, rfl⟩ | exact absurd hA.1 (by assumption) | (exfalso; have h1 := hA.2; omega) | exact absurd hA.2 (by assumption)
              exact all_nil
            exact all_nil
          exact all_nil
        exact all_nil
      exact all_nil

theorem cf_impl_SendBytes (p : Port) (hn : SmallPort p) (n : Int) (hA : GoodBytes p n) : ACalls Try.prog 43 [.agg (ePort p), .int .i64 n] [] (Ret (.tup [.sl ((sentP p n).map eInt), .agg (ePort (sendP p n)), .bool true])) :=
  (cy_impl_SendBytes p hn n hA).freeze (by rintro _ _ ⟨_, _, _, rfl, rfl⟩; exact (.tup (.cons (.own (by repeat (first | exact List.Mem.head _ | apply List.Mem.tail)) (List.length_map _)) (.cons (.agg (.cons (.own (by repeat (first | exact List.Mem.head _ | apply List.Mem.tail)) (List.length_map _)) (.cons (.own (by repeat (first | exact List.Mem.head _ | apply List.Mem.tail)) (List.length_map _)) (.cons (.refl _) (.cons (.refl _) .nil))))) (.cons (.refl _) .nil)))))

theorem cn_impl_SendBytes (p : Port) (hn : SmallPort p) (n : Int) (hA : ¬ GoodBytes p n) : ACalls Try.prog 43 [.agg (ePort p), .int .i64 n] [] (Ret (.tup [.nil, .agg [.nil, .nil, .int .i64 0, .bool false], .bool false])) := by
  have hn1 : p.rx.length ≤ 1048576 := hn.1
  have hn2 : p.tx.length ≤ 1048576 := hn.2
  refine a_enter Try.func43 rfl rfl (fun w0 M0 => ?_)
  refine a_seq ?_
  refine a_region ?_
  refine aops_cons rfl (w_box_v rfl rfl rfl ?_)
  refine aops_cons rfl (w_pure rfl (p_assign rfl) ?_)
  refine aops_cons rfl (w_alloc rfl z_41 fun b1 => ?_)
  refine aops_cons rfl (w_pure rfl (p_assign rfl) ?_)
  refine aops_nil ?_
  refine a_seq ?_
  refine a_seq ?_
  refine a_region ?_
  refine aops_cons rfl (w_pure rfl (p_load_v_all ag_41 rfl (by rfl) noX) ?_)
  refine aops_cons rfl (w_callR rfl rfl rfl cl_28 (c_impl_IsPort _ ‹_›) ?_)
  refine aops_cons rfl (w_pure rfl (p_not rfl) ?_)
  refine aops_cons rfl (w_pure rfl (p_move rfl) ?_)
  first | refine aops_split_d 10 rfl (fun h1 => ?_) (fun h2 => ?_) | refine aops_split 10 rfl (fun h1 => ?_) (fun h2 => ?_)
  · (try simp only [Bool.not_eq_true', Bool.not_eq_false', Bool.not_eq_true, Bool.not_eq_false, decide_eq_true_eq, decide_eq_false_iff_not, List.length_map, List.length_range] at h1)
    refine g_pass' rfl rfl rfl rfl rfl ?_
    refine g_pass' rfl rfl rfl rfl rfl ?_
    refine g_pass' rfl rfl rfl rfl rfl ?_
    refine aops_cons rfl (w_pure rfl (p_pick_t rfl rfl) ?_)
    refine aops_nil ?_
    refine a_cond_t rfl ?_
    refine a_seq ?_
    refine a_region ?_
    refine aops_cons rfl (w_pure rfl (p_build (cells := [_, _, _, _]) z_41 pl_41 rfl rfl) ?_)
    refine aops_cons rfl (w_pure rfl (p_assign rfl) ?_)
    refine aops_cons rfl (w_store (cells' := [_, _, _, _]) rfl rfl rfl (by repeat (first | exact Pick.here _ _ _ | apply Pick.next)) cn_41 (by rfl) (by rfl) (by rfl) trivial ?_)
    refine aops_cons rfl (w_pure rfl (p_assign rfl) ?_)
    refine aops_nil ?_
    refine a_ret ?_
    refine ret_ok (hands3 rfl (.tmp rfl) (.cell ag_41 rfl (by repeat (first | exact Pick.here _ _ _ | apply Pick.next)) (by rfl)) (.tmp rfl)) (.nil _) ?_
    first | exact ⟨rfl, rfl⟩ | exact absurd (show GoodBytes p n from ⟨by assumption, by omega, by omega⟩) hA | exact absurd (show GoodBytes p n from ⟨by assumption, by omega⟩) hA | exact absurd (show GoodBytes p n from ⟨by assumption, by assumption⟩) hA
  · (try simp only [Bool.not_eq_true', Bool.not_eq_false', Bool.not_eq_true, Bool.not_eq_false, decide_eq_true_eq, decide_eq_false_iff_not, List.length_map, List.length_range] at h2)
    refine aops_guard_t rfl rfl rfl (w_pure rfl (p_move rfl) ?_)
    refine aops_guard_t rfl rfl rfl (w_callR rfl rfl rfl cl_57 (c_impl_inside ..) ?_)
    refine aops_guard_t rfl rfl rfl (w_pure rfl (p_not rfl) ?_)
    refine aops_cons rfl (w_pure rfl (p_pick_f rfl rfl) ?_)
    refine aops_nil ?_
    first | refine a_cond_d rfl (fun h3 => ?_) (fun h4 => ?_) | refine a_cond_n rfl (fun h3 => ?_) (fun h4 => ?_) | refine a_cond_nb rfl (fun h3 => ?_) (fun h4 => ?_) | refine a_cond rfl (fun h3 => ?_) (fun h4 => ?_)
    · (try simp only [Bool.not_eq_true', Bool.not_eq_false', Bool.not_eq_true, Bool.not_eq_false, decide_eq_true_eq, decide_eq_false_iff_not, List.length_map, List.length_range] at h3)
      refine a_seq ?_
      refine a_region ?_
      refine aops_cons rfl (w_pure rfl (p_build (cells := [_, _, _, _]) z_41 pl_41 rfl rfl) ?_)
      refine aops_cons rfl (w_pure rfl (p_assign rfl) ?_)
      refine aops_cons rfl (w_store (cells' := [_, _, _, _]) rfl rfl rfl (by repeat (first | exact Pick.here _ _ _ | apply Pick.next)) cn_41 (by rfl) (by rfl) (by rfl) trivial ?_)
      refine aops_cons rfl (w_pure rfl (p_assign rfl) ?_)
      refine aops_nil ?_
      refine a_ret ?_
      refine ret_ok (hands3 rfl (.tmp rfl) (.cell ag_41 rfl (by repeat (first | exact Pick.here _ _ _ | apply Pick.next)) (by rfl)) (.tmp rfl)) (.nil _) ?_
      first | exact ⟨rfl, rfl⟩ | exact absurd (show GoodBytes p n from ⟨by assumption, by omega, by omega⟩) hA | exact absurd (show GoodBytes p n from ⟨by assumption, by omega⟩) hA | exact absurd (show GoodBytes p n from ⟨by assumption, by assumption⟩) hA
    · (try simp only [Bool.not_eq_true', Bool.not_eq_false', Bool.not_eq_true, Bool.not_eq_false, decide_eq_true_eq, decide_eq_false_iff_not, List.length_map, List.length_range] at h4)
      refine a_skip ?_
      refine a_seq ?_
      refine a_region ?_
      refine aops_cons rfl (w_pure rfl (p_move rfl) ?_)
      refine aops_cons rfl (w_pure rfl (p_field_v fo_41_1 rfl) ?_)
      refine aops_cons rfl (w_pure rfl (p_load_v ag_36 rfl (by rfl) noX) ?_)
      refine aops_cons rfl (w_pure rfl (p_len sl_36 rfl rfl) ?_)
      refine aops_cons rfl (w_pure rfl (p_min2 rfl rfl) ?_)
      refine aops_cons rfl (w_pure rfl (p_assign rfl) ?_)
      refine aops_nil ?_
      refine a_seq ?_
      refine a_draw [b1] (by kernel_rfl) ?_
      show ADraw _ _ _ _ _ _ 18 _ _ _ _
      refine d_take 0 rfl (by kernel_rfl) (by kernel_rfl) (by kernel_rfl) rfl (p_field_v fo_41_1 rfl) ?_
      refine d_load 1 rfl (by kernel_rfl) (by kernel_rfl) (by kernel_rfl) rfl (p_load_v ag_36 rfl (by rfl) (by simp [keys])) ?_
      refine d_take 2 rfl (by kernel_rfl) (by kernel_rfl) (by kernel_rfl) rfl (p_move rfl) ?_
      refine d_take 3 rfl (by kernel_rfl) (by kernel_rfl) (by kernel_rfl) rfl (p_slice_sl 0 (kP p n) es_36 rfl rfl (hi_some rfl (by simp only [List.length_map]; unfold kP; omega)) (Nat.zero_le _) (by rw [List.length_map]; (try unfold kP); (try unfold kL); omega) (lenAll _ _ (fun _ => rfl)) (show ((p.tx.map eInt).take (kP p n)).drop 0 = (p.tx.take (kP p n)).map eInt by rw [List.drop_zero, List.map_take])) ?_
      refine d_load 5 rfl (by kernel_rfl) (by kernel_rfl) (by kernel_rfl) rfl (p_load_v_all ag_41 rfl (by rfl) (by simp [keys])) ?_
      refine d_take 6 rfl (by kernel_rfl) (by kernel_rfl) (by kernel_rfl) rfl (p_field_v fo_41_0 rfl) ?_
      refine d_load 7 rfl (by kernel_rfl) (by kernel_rfl) (by kernel_rfl) rfl (p_load_v ag_36 rfl (by rfl) (by simp [keys])) ?_
      refine d_take 9 rfl (by kernel_rfl) (by kernel_rfl) (by kernel_rfl) rfl (p_field_v fo_41_1 rfl) ?_
      refine d_load 10 rfl (by kernel_rfl) (by kernel_rfl) (by kernel_rfl) rfl (p_load_v ag_36 rfl (by rfl) (by simp [keys])) ?_
      refine d_take 11 rfl (by kernel_rfl) (by kernel_rfl) (by kernel_rfl) rfl (p_move rfl) ?_
      refine d_take 12 rfl (by kernel_rfl) (by kernel_rfl) (by kernel_rfl) rfl (p_slice_sl (kP p n) _ es_36 rfl (lo_some rfl (by simp only [List.length_map]; unfold kP; omega)) rfl (by rw [List.length_map]; (try unfold kP); (try unfold kL); omega) (Nat.le_refl _) (lenAll _ _ (fun _ => rfl)) (show ((p.tx.map eInt).take (p.tx.map eInt).length).drop (kP p n) = (p.tx.drop (kP p n)).map eInt by rw [List.take_length, List.map_drop])) ?_
      refine draw_all [4] (by kernel_rfl) (by simp) ?_
      refine all_cons rfl rfl ?_ ?_
      · skip
        refine w_call rfl rfl rfl cl_69 ((co_impl_copyInts _ (by first | omega | (simp only [List.length_append, List.length_cons, List.length_nil, List.length_take, List.length_drop]; omega) | (have q1 := IsPort.rx ‹IsPort p›; have q2 := IsPort.tx ‹IsPort p›; simp only [List.length_append, List.length_cons, List.length_nil, List.length_take, List.length_drop]; omega) | (have q1 := IsPort.rx ‹IsPort a›; have q2 := IsPort.rx ‹IsPort b›; simp only [kL, List.length_append, List.length_cons, List.length_nil, List.length_take, List.length_drop]; omega))).mono fun _ _ h => h.len) ?_
        rintro _ _ ⟨b2, rfl, rfl⟩
        refine draw_all [8] (by kernel_rfl) (by simp) ?_
        refine all_cons rfl rfl ?_ ?_
        · skip
          refine w_call rfl rfl rfl cl_69 ((co_impl_copyInts _ (by first | omega | (simp only [List.length_append, List.length_cons, List.length_nil, List.length_take, List.length_drop]; omega) | (have q1 := IsPort.rx ‹IsPort p›; have q2 := IsPort.tx ‹IsPort p›; simp only [List.length_append, List.length_cons, List.length_nil, List.length_take, List.length_drop]; omega) | (have q1 := IsPort.rx ‹IsPort a›; have q2 := IsPort.rx ‹IsPort b›; simp only [kL, List.length_append, List.length_cons, List.length_nil, List.length_take, List.length_drop]; omega))).mono fun _ _ h => h.len) ?_
          rintro _ _ ⟨b3, rfl, rfl⟩
          refine draw_all [13] (by kernel_rfl) (by simp) ?_
          refine all_cons rfl rfl ?_ ?_
          · skip
            refine w_call rfl rfl rfl cl_69 ((co_impl_copyInts _ (by first | omega | (simp only [List.length_append, List.length_cons, List.length_nil, List.length_take, List.length_drop]; omega) | (have q1 := IsPort.rx ‹IsPort p›; have q2 := IsPort.tx ‹IsPort p›; simp only [List.length_append, List.length_cons, List.length_nil, List.length_take, List.length_drop]; omega) | (have q1 := IsPort.rx ‹IsPort a›; have q2 := IsPort.rx ‹IsPort b›; simp only [kL, List.length_append, List.length_cons, List.length_nil, List.length_take, List.length_drop]; omega))).mono fun _ _ h => h.len) ?_
            rintro _ _ ⟨b4, rfl, rfl⟩
            refine draw_all [14] (by kernel_rfl) (by simp) ?_
            refine all_cons rfl rfl ?_ ?_
            · skip
              refine w_callR rfl rfl rfl cl_68 (c_impl_portWith _ _ _ _ _) ?_
              refine d_take 15 rfl (by kernel_rfl) (by kernel_rfl) (by kernel_rfl) rfl (p_assign rfl) ?_
              refine draw_all [16] (by kernel_rfl) (by simp) ?_
              refine all_cons rfl rfl ?_ ?_
              · skip
                refine w_store (cells' := [_, _, _, _]) rfl rfl rfl (by repeat (first | exact Pick.here _ _ _ | apply Pick.next)) cn_41 (by rfl) (by rfl) (by rfl) (by first | (refine .inl ?_; simp; done) | (refine .inr ?_; simp [keys]; done)) ?_
                refine d_take 17 rfl (by kernel_rfl) (by kernel_rfl) (by kernel_rfl) rfl (p_assign rfl) ?_
                refine draw_done (by kernel_rfl) ?_
                refine a_ret ?_
                refine ret_ok (hands3 rfl (.tmp rfl) (.cell ag_41 rfl (by repeat (first | exact Pick.here _ _ _ | apply Pick.next)) (by rfl)) (.tmp rfl)) (st' := [(b2, _), (b3, _), (b4, _)]) (.cons (by repeat (first | exact Pick.here _ _ _ | apply Pick.next)) (.cons (by repeat (first | exact Pick.here _ _ _ | apply Pick.next)) (.cons (by repeat (first | exact Pick.here _ _ _ | apply Pick.next)) (.nil _)))) ?_
                first | exact ⟨rfl, rfl⟩ | exact absurd (show GoodBytes p n from ⟨by assumption, by omega, by omega⟩) hA | exact absurd (show GoodBytes p n from ⟨by assumption, by omega⟩) hA | exact absurd (show GoodBytes p n from ⟨by assumption, by assumption⟩) hA
              exact all_nil
            exact all_nil
          exact all_nil
        exact all_nil
      exact all_nil

set_option maxHeartbeats 2000000 in
theorem c_laws_FnExactSendBytes (p : Port) (_hc0 : okPort p) (n : Int) (_hc1 : InI n) : ACalls Try.prog 12 [.agg (ePort p), .int .i64 n] [] (Ret (.bool true)) := by
  have hm0 : p.rx.length ≤ 9223372036854775807 ∧ p.tx.length ≤ 9223372036854775807 := ⟨_hc0.1.2, _hc0.2.1.2⟩
  have hq0 : szPort p 1048576 ≤ 1048576 := szPort_ub (Int.le_refl _)
  by_cases hA : GoodBytes p n
  all_goals refine a_enter Try.func12 rfl rfl (fun w0 M0 => ?_)
  · skip
    refine a_seq ?_
    refine a_region ?_
    refine aops_cons rfl (w_box_v rfl rfl rfl ?_)
    refine aops_cons rfl (w_pure rfl (p_assign rfl) ?_)
    refine aops_nil ?_
    refine a_seq ?_
    refine a_region ?_
    refine aops_cons rfl (w_pure rfl (p_assign rfl) ?_)
    refine aops_nil ?_
    refine a_seq ?_
    refine a_region ?_
    refine aops_cons rfl (w_pure rfl (p_load_v_all ag_38 rfl (by rfl) noX) ?_)
    refine aops_cons rfl (w_pure rfl (p_move rfl) ?_)
    refine aops_cons rfl (w_callR rfl rfl rfl cl_25 (c_laws_szPort _ (by assumption) _ (by omega) (by omega)) ?_)
    refine aops_cons rfl (w_pure rfl (p_assign rfl) ?_)
    refine aops_nil ?_
    refine a_seq ?_
    refine a_seq ?_
    refine a_region ?_
    refine aops_cons rfl (w_pure rfl (p_move rfl) ?_)
    refine aops_cons rfl (w_pure rfl (p_lss rfl rfl) ?_)
    refine aops_nil ?_
    first | refine a_cond_d rfl (fun h1 => ?_) (fun h2 => ?_) | refine a_cond_n rfl (fun h1 => ?_) (fun h2 => ?_) | refine a_cond_nb rfl (fun h1 => ?_) (fun h2 => ?_) | refine a_cond rfl (fun h1 => ?_) (fun h2 => ?_)
    · (try simp only [Bool.not_eq_true', Bool.not_eq_false', Bool.not_eq_true, Bool.not_eq_false, decide_eq_true_eq, decide_eq_false_iff_not, List.length_map, List.length_range] at h1)
      refine a_seq ?_
      refine a_region ?_
      refine aops_cons rfl (w_pure rfl (p_assign rfl) ?_)
      refine aops_nil ?_
      refine a_ret ?_
      refine ret_ok (hands1 rfl (.tmp rfl)) (.nil _) ?_
      first | exact ⟨rfl, rfl⟩ | (exfalso; omega)
    · (try simp only [Bool.not_eq_true', Bool.not_eq_false', Bool.not_eq_true, Bool.not_eq_false, decide_eq_true_eq, decide_eq_false_iff_not, List.length_map, List.length_range] at h2)
      refine a_skip ?_
      refine a_seq ?_
      have hl0 : SmallPort p := szPort_le (left := 1048576) (by omega) (by omega) ‹_›; have hz0_ := hl0; simp only [SmallPort] at hz0_; obtain ⟨hz0_0, hz0_1⟩ := hz0_; have hr0 : (sentP p n).length ≤ 1048576 := (small_sent hA); have hr1 : SmallPort (sendP p n) := (small_send hA); have hy1_ := hr1; simp only [SmallPort] at hy1_; obtain ⟨hy1_0, hy1_1⟩ := hy1_
      refine a_region ?_
      refine aops_cons rfl (w_pure rfl (p_load_v_all ag_38 rfl (by rfl) noX) ?_)
      refine aops_cons rfl (w_callR rfl rfl rfl cl_27 (c_laws_toPort p hl0) ?_)
      refine aops_cons rfl (w_pure rfl (p_move rfl) ?_)
      refine aops_cons rfl (w_callR rfl rfl rfl cl_42 (cy_spec_SendBytes p hl0 n hA) ?_)
      refine aops_cons rfl (w_pure rfl (p_move rfl) ?_)
      refine aops_cons rfl (w_pure rfl (p_extract rfl rfl) ?_)
      refine aops_cons rfl (w_pure rfl (p_extract rfl rfl) ?_)
      refine aops_cons rfl (w_pure rfl (p_extract rfl rfl) ?_)
      refine aops_cons rfl (w_alloc rfl z_41 fun b1 => ?_)
      refine aops_cons rfl (w_pure rfl (p_assign rfl) ?_)
      refine aops_cons rfl (w_store (cells' := [_, _, _, _]) rfl rfl rfl (by repeat (first | exact Pick.here _ _ _ | apply Pick.next)) cn_41 (by rfl) (by rfl) (by rfl) trivial ?_)
      refine aops_cons rfl (w_pure rfl (p_assign rfl) ?_)
      refine aops_nil ?_
      refine a_seq ?_
      refine a_region ?_
      refine aops_cons rfl (w_pure rfl (p_load_v_all ag_38 rfl (by rfl) noX) ?_)
      refine aops_cons rfl (w_call rfl rfl rfl cl_27 (co_laws_toPort p hl0) ?_)
      rintro _ _ ⟨b2, b3, rfl, rfl⟩
      refine aops_cons rfl (w_alloc rfl z_41 fun b4 => ?_)
      refine aops_cons rfl (w_store (cells' := [_, _, _, _]) rfl rfl rfl (by repeat (first | exact Pick.here _ _ _ | apply Pick.next)) cn_41 (by rfl) (by rfl) (by rfl) trivial ?_)
      refine aops_nil ?_
      refine a_seq ?_
      refine a_region ?_
      refine aops_cons rfl (w_pure rfl (p_load_box_all ag_41 rfl (by repeat (first | exact Pick.here _ _ _ | apply Pick.next)) (by rfl) noX) ?_)
      refine aops_cons rfl (w_pure rfl (p_move rfl) ?_)
      refine aops_cons rfl (w_callL rfl rfl rfl cl_43 (.cons (.agg (.cons (.own (by repeat (first | exact List.Mem.head _ | apply List.Mem.tail)) (by first | (simp; done) | (simp [mkL]; done))) (.cons (.own (by repeat (first | exact List.Mem.head _ | apply List.Mem.tail)) (by first | (simp; done) | (simp [mkL]; done))) (.cons (.refl _) (.cons (.refl _) .nil))))) (.cons (.refl _) .nil)) (cy_impl_SendBytes p hl0 n hA) ?_)
      rintro _ _ ⟨b5, b6, b7, rfl, rfl⟩
      refine ⟨(closed_tup (all_cons' (closed_own _ _ _ _) (all_cons' (closed_agg (all_cons' (closed_own _ _ _ _) (all_cons' (closed_own _ _ _ _) (all_cons' (closed_int _ _) (all_cons' (closed_bool _) all_nil'))))) (all_cons' (closed_bool _) all_nil')))), (closedS_cons (closedAll _ _ _ _ cl_eInt) (closedS_cons (closedAll _ _ _ _ cl_eInt) (closedS_cons (closedAll _ _ _ _ cl_eInt) closedS_nil))), ?_⟩
      refine aops_cons rfl (w_pure rfl (p_move rfl) ?_)
      refine aops_cons rfl (w_pure rfl (p_extract rfl rfl) ?_)
      refine aops_cons rfl (w_pure rfl (p_extract rfl rfl) ?_)
      refine aops_cons rfl (w_pure rfl (p_extract rfl rfl) ?_)
      refine aops_cons rfl (w_alloc rfl z_41 fun b8 => ?_)
      refine aops_cons rfl (w_pure rfl (p_assign rfl) ?_)
      refine aops_cons rfl (w_store (cells' := [_, _, _, _]) rfl rfl rfl (by repeat (first | exact Pick.here _ _ _ | apply Pick.next)) cn_41 (by rfl) (by rfl) (by rfl) trivial ?_)
      refine aops_cons rfl (w_pure rfl (p_assign rfl) ?_)
      refine aops_nil ?_
      refine a_seq ?_
      refine a_seq ?_
      refine a_region ?_
      refine aops_cons rfl (w_pure rfl (p_move rfl) ?_)
      refine aops_cons rfl (w_pure rfl (p_move rfl) ?_)
      refine aops_cons rfl (w_callLR rfl rfl rfl cl_44 (.cons (.own (by repeat (first | exact List.Mem.head _ | apply List.Mem.tail)) (by first | (simp; done) | (simp [mkL]; done))) (.cons (.refl _) .nil)) (c_laws_eqIntS (sentP p n) (small_sent hA)) (closed_bool _) ?_)
      refine aops_cons rfl (w_pure rfl (p_not rfl) ?_)
      refine aops_cons rfl (w_pure rfl (p_move rfl) ?_)
      refine aops_guard_t rfl rfl rfl (w_pure rfl (p_load_box_all ag_41 rfl (by repeat (first | exact Pick.here _ _ _ | apply Pick.next)) (by rfl) noX) ?_)
      refine aops_guard_t rfl rfl rfl (w_pure rfl (p_load_box_all ag_41 rfl (by repeat (first | exact Pick.here _ _ _ | apply Pick.next)) (by rfl) noX) ?_)
      refine aops_guard_t rfl rfl rfl (w_callLR rfl rfl rfl cl_29 (.cons (.agg (.cons (.own (by repeat (first | exact List.Mem.head _ | apply List.Mem.tail)) (by first | (simp; done) | (simp [mkL]; done))) (.cons (.own (by repeat (first | exact List.Mem.head _ | apply List.Mem.tail)) (by first | (simp; done) | (simp [mkL]; done))) (.cons (.refl _) (.cons (.refl _) .nil))))) (.cons (.refl _) .nil)) (c_laws_eqPort (sendP p n) (small_send hA)) (closed_bool _) ?_)
      refine aops_guard_t rfl rfl rfl (w_pure rfl (p_not rfl) ?_)
      refine aops_cons rfl (w_pure rfl (p_pick_f rfl rfl) ?_)
      refine aops_cons rfl (w_pure rfl (p_move rfl) ?_)
      refine aops_guard_t rfl rfl rfl (w_pure rfl (p_move rfl) ?_)
      refine aops_guard_t rfl rfl rfl (w_pure rfl (p_move rfl) ?_)
      refine aops_guard_t rfl rfl rfl (w_pure rfl (p_neq_bsame um_4 rfl rfl) ?_)
      refine aops_cons rfl (w_pure rfl (p_pick_f rfl rfl) ?_)
      refine aops_nil ?_
      refine a_cond_f rfl ?_
      refine a_skip ?_
      refine a_seq ?_
      refine a_seq ?_
      refine a_draw [] (by kernel_rfl) ?_
      show ADraw _ _ _ _ _ _ 5 _ _ _ _
      refine d_load 0 rfl (by kernel_rfl) (by kernel_rfl) (by kernel_rfl) rfl (p_load_box_all ag_41 rfl (by repeat (first | exact Pick.here _ _ _ | apply Pick.next)) (by rfl) noX) ?_
      refine d_load 1 rfl (by kernel_rfl) (by kernel_rfl) (by kernel_rfl) rfl (p_load_v_all ag_38 rfl (by rfl) noX) ?_
      refine draw_all [2] (by kernel_rfl) (by simp) ?_
      refine all_cons rfl rfl ?_ ?_
      · skip
        refine w_callR rfl rfl rfl cl_27 (c_laws_toPort p hl0) ?_
        refine draw_all [3] (by kernel_rfl) (by simp) ?_
        refine all_cons rfl rfl ?_ ?_
        · skip
          refine w_callLR rfl rfl rfl cl_29 (.cons (.agg (.cons (.own (by repeat (first | exact List.Mem.head _ | apply List.Mem.tail)) (by first | (simp; done) | (simp [mkL]; done))) (.cons (.own (by repeat (first | exact List.Mem.head _ | apply List.Mem.tail)) (by first | (simp; done) | (simp [mkL]; done))) (.cons (.refl _) (.cons (.refl _) .nil))))) (.cons (.refl _) .nil)) (c_laws_eqPort p hl0) (closed_bool _) ?_
          refine d_take 4 rfl (by kernel_rfl) (by kernel_rfl) (by kernel_rfl) rfl (p_not rfl) ?_
          refine draw_done (by kernel_rfl) ?_
          refine a_cond_f rfl ?_
          refine a_skip ?_
          refine a_seq ?_
          refine a_region ?_
          refine aops_cons rfl (w_pure rfl (p_assign rfl) ?_)
          refine aops_nil ?_
          refine a_seq ?_
          refine a_region ?_
          refine aops_cons rfl (w_pure rfl (p_load_box_all ag_41 rfl (by repeat (first | exact Pick.here _ _ _ | apply Pick.next)) (by rfl) noX) ?_)
          refine aops_cons rfl (w_pure rfl (p_move rfl) ?_)
          refine aops_cons rfl (w_callM rfl rfl rfl cl_36 (.cons (by repeat (first | exact Pick.here _ _ _ | apply Pick.next)) (.cons (by repeat (first | exact Pick.here _ _ _ | apply Pick.next)) (.nil _))) (.cons (.refl _) (.cons (.refl _) .nil)) (c_laws_markPort _ _ p hl0 _ (by first | omega | (simp; done) | (simp; omega)) (by first | omega | (simp; done) | (simp; omega))) trivial ?_)
          rintro _ _ ⟨rfl, rfl⟩
          refine ⟨(closed_int _ _), (closedS_cons (closedAll _ _ _ _ cl_eInt) (closedS_cons (closedAll _ _ _ _ cl_eInt) closedS_nil)), ?_⟩
          refine aops_cons rfl (w_pure rfl (p_assign rfl) ?_)
          refine aops_nil ?_
          refine a_seq ?_
          refine a_seq ?_
          refine a_region ?_
          refine aops_cons rfl (w_pure rfl (p_move rfl) ?_)
          refine aops_cons rfl (w_pure rfl (p_lss rfl rfl) ?_)
          refine aops_cons rfl (w_pure rfl (p_move rfl) ?_)
          first | refine aops_split_d 66 rfl (fun h3 => ?_) (fun h4 => ?_) | refine aops_split 66 rfl (fun h3 => ?_) (fun h4 => ?_)
          · (try simp only [Bool.not_eq_true', Bool.not_eq_false', Bool.not_eq_true, Bool.not_eq_false, decide_eq_true_eq, decide_eq_false_iff_not, List.length_map, List.length_range] at h3)
            refine g_pass' rfl rfl rfl rfl rfl ?_
            refine g_pass' rfl rfl rfl rfl rfl ?_
            refine g_pass' rfl rfl rfl rfl rfl ?_
            refine g_pass' rfl rfl rfl rfl rfl ?_
            refine aops_cons rfl (w_pure rfl (p_pick_t rfl rfl) ?_)
            refine aops_cons rfl (w_pure rfl (p_move rfl) ?_)
            refine g_pass' rfl rfl rfl rfl rfl ?_
            refine g_pass' rfl rfl rfl rfl rfl ?_
            refine g_pass' rfl rfl rfl rfl rfl ?_
            refine g_pass' rfl rfl rfl rfl rfl ?_
            refine aops_cons rfl (w_pure rfl (p_pick_t rfl rfl) ?_)
            refine aops_cons rfl (w_pure rfl (p_move rfl) ?_)
            refine g_pass' rfl rfl rfl rfl rfl ?_
            refine g_pass' rfl rfl rfl rfl rfl ?_
            refine g_pass' rfl rfl rfl rfl rfl ?_
            refine aops_cons rfl (w_pure rfl (p_pick_t rfl rfl) ?_)
            refine aops_nil ?_
            refine a_cond_t rfl ?_
            refine a_seq ?_
            refine a_region ?_
            refine aops_cons rfl (w_pure rfl (p_assign rfl) ?_)
            refine aops_nil ?_
            refine a_ret ?_
            refine ret_ok (hands1 rfl (.tmp rfl)) (.nil _) ?_
            first | exact ⟨rfl, rfl⟩ | (exfalso; omega)
          · (try simp only [Bool.not_eq_true', Bool.not_eq_false', Bool.not_eq_true, Bool.not_eq_false, decide_eq_true_eq, decide_eq_false_iff_not, List.length_map, List.length_range] at h4)
            refine aops_guard_t rfl rfl rfl (w_pure rfl (p_move rfl) ?_)
            refine aops_guard_t rfl rfl rfl (w_pure rfl (p_move rfl) ?_)
            refine aops_guard_t rfl rfl rfl (w_callLR rfl rfl rfl cl_44 (.cons (.own (by repeat (first | exact List.Mem.head _ | apply List.Mem.tail)) (by first | (simp; done) | (simp [mkL]; done))) (.cons (.refl _) .nil)) (c_laws_eqIntS (sentP p n) (small_sent hA)) (closed_bool _) ?_)
            refine aops_guard_t rfl rfl rfl (w_pure rfl (p_not rfl) ?_)
            refine aops_cons rfl (w_pure rfl (p_pick_f rfl rfl) ?_)
            refine aops_cons rfl (w_pure rfl (p_move rfl) ?_)
            refine aops_guard_t rfl rfl rfl (w_pure rfl (p_load_box_all ag_41 rfl (by repeat (first | exact Pick.here _ _ _ | apply Pick.next)) (by rfl) noX) ?_)
            refine aops_guard_t rfl rfl rfl (w_pure rfl (p_load_box_all ag_41 rfl (by repeat (first | exact Pick.here _ _ _ | apply Pick.next)) (by rfl) noX) ?_)
            refine aops_guard_t rfl rfl rfl (w_callLR rfl rfl rfl cl_29 (.cons (.agg (.cons (.own (by repeat (first | exact List.Mem.head _ | apply List.Mem.tail)) (by first | (simp; done) | (simp [mkL]; done))) (.cons (.own (by repeat (first | exact List.Mem.head _ | apply List.Mem.tail)) (by first | (simp; done) | (simp [mkL]; done))) (.cons (.refl _) (.cons (.refl _) .nil))))) (.cons (.refl _) .nil)) (c_laws_eqPort (sendP p n) (small_send hA)) (closed_bool _) ?_)
            refine aops_guard_t rfl rfl rfl (w_pure rfl (p_not rfl) ?_)
            refine aops_cons rfl (w_pure rfl (p_pick_f rfl rfl) ?_)
            refine aops_cons rfl (w_pure rfl (p_move rfl) ?_)
            refine aops_guard_t rfl rfl rfl (w_pure rfl (p_move rfl) ?_)
            refine aops_guard_t rfl rfl rfl (w_pure rfl (p_move rfl) ?_)
            refine aops_guard_t rfl rfl rfl (w_pure rfl (p_neq_bsame um_4 rfl rfl) ?_)
            refine aops_cons rfl (w_pure rfl (p_pick_f rfl rfl) ?_)
            refine aops_nil ?_
            refine a_cond_f rfl ?_
            refine a_skip ?_
            refine a_seq ?_
            refine a_region ?_
            refine aops_cons rfl (w_pure rfl (p_assign rfl) ?_)
            refine aops_nil ?_
            refine a_seq ?_
            refine a_region ?_
            refine aops_cons rfl (w_pure rfl (p_move rfl) ?_)
            refine aops_cons rfl (w_pure rfl (p_move rfl) ?_)
            refine aops_cons rfl (w_callM rfl rfl rfl cl_45 (.cons (by repeat (first | exact Pick.here _ _ _ | apply Pick.next)) (.nil _)) (.cons (.refl _) (.cons (.refl _) .nil)) (c_laws_markIntS _ (sentP p n) (small_sent hA) _ (by first | omega | (simp; done) | (simp; omega)) (by first | omega | (simp; done) | (simp; omega))) trivial ?_)
            rintro _ _ ⟨rfl, rfl⟩
            refine ⟨(closed_int _ _), (closedS_cons (closedAll _ _ _ _ cl_eInt) closedS_nil), ?_⟩
            refine aops_cons rfl (w_pure rfl (p_assign rfl) ?_)
            refine aops_nil ?_
            refine a_seq ?_
            refine a_region ?_
            refine aops_cons rfl (w_pure rfl (p_load_box_all ag_41 rfl (by repeat (first | exact Pick.here _ _ _ | apply Pick.next)) (by rfl) noX) ?_)
            refine aops_cons rfl (w_pure rfl (p_move rfl) ?_)
            refine aops_cons rfl (w_callM rfl rfl rfl cl_36 (.cons (by repeat (first | exact Pick.here _ _ _ | apply Pick.next)) (.cons (by repeat (first | exact Pick.here _ _ _ | apply Pick.next)) (.nil _))) (.cons (.refl _) (.cons (.refl _) .nil)) (c_laws_markPort _ _ (sendP p n) (small_send hA) _ (by first | omega | (simp; done) | (simp; omega)) (by first | omega | (simp; done) | (simp; omega))) trivial ?_)
            rintro _ _ ⟨rfl, rfl⟩
            refine ⟨(closed_int _ _), (closedS_cons (closedAll _ _ _ _ cl_eInt) (closedS_cons (closedAll _ _ _ _ cl_eInt) closedS_nil)), ?_⟩
            refine aops_cons rfl (w_pure rfl (p_assign rfl) ?_)
            refine aops_nil ?_
            refine a_seq ?_
            refine a_region ?_
            refine aops_cons rfl (w_pure rfl (p_assign rfl) ?_)
            refine aops_nil ?_
            refine a_seq ?_
            refine a_region ?_
            refine aops_cons rfl (w_pure rfl (p_move rfl) ?_)
            refine aops_cons rfl (w_pure rfl (p_move rfl) ?_)
            refine aops_cons rfl (w_callLR rfl rfl rfl cl_46 (.cons (.own (by repeat (first | exact List.Mem.head _ | apply List.Mem.tail)) (by first | (simp; done) | (simp [mkL]; done))) (.cons (.refl _) .nil)) (c_laws_heldIntS (sentP p n).length (small_sent hA) _ (by first | omega | (simp; done) | (simp; omega)) (by first | omega | (simp; done) | (simp; omega))) (closed_int _ _) ?_)
            refine aops_cons rfl (w_pure rfl (p_assign rfl) ?_)
            refine aops_nil ?_
            refine a_seq ?_
            refine a_seq ?_
            refine a_region ?_
            refine aops_cons rfl (w_pure rfl (p_move rfl) ?_)
            refine aops_cons rfl (w_pure rfl (p_lss rfl rfl) ?_)
            refine aops_nil ?_
            first | refine a_cond_d rfl (fun h5 => ?_) (fun h6 => ?_) | refine a_cond_n rfl (fun h5 => ?_) (fun h6 => ?_) | refine a_cond_nb rfl (fun h5 => ?_) (fun h6 => ?_) | refine a_cond rfl (fun h5 => ?_) (fun h6 => ?_)
            · (try simp only [Bool.not_eq_true', Bool.not_eq_false', Bool.not_eq_true, Bool.not_eq_false, decide_eq_true_eq, decide_eq_false_iff_not, List.length_map, List.length_range] at h5)
              refine a_seq ?_
              refine a_region ?_
              refine aops_cons rfl (w_pure rfl (p_assign rfl) ?_)
              refine aops_nil ?_
              refine a_ret ?_
              refine ret_ok (hands1 rfl (.tmp rfl)) (.nil _) ?_
              first | exact ⟨rfl, rfl⟩ | (exfalso; omega)
            · (try simp only [Bool.not_eq_true', Bool.not_eq_false', Bool.not_eq_true, Bool.not_eq_false, decide_eq_true_eq, decide_eq_false_iff_not, List.length_map, List.length_range] at h6)
              refine a_skip ?_
              refine a_seq ?_
              refine a_region ?_
              refine aops_cons rfl (w_pure rfl (p_load_box_all ag_41 rfl (by repeat (first | exact Pick.here _ _ _ | apply Pick.next)) (by rfl) noX) ?_)
              refine aops_cons rfl (w_pure rfl (p_move rfl) ?_)
              refine aops_cons rfl (w_callLR rfl rfl rfl cl_37 (.cons (.agg (.cons (.own (by repeat (first | exact List.Mem.head _ | apply List.Mem.tail)) (by first | (simp; done) | (simp [mkL]; done))) (.cons (.own (by repeat (first | exact List.Mem.head _ | apply List.Mem.tail)) (by first | (simp; done) | (simp [mkL]; done))) (.cons (.refl _) (.cons (.refl _) .nil))))) (.cons (.refl _) .nil)) (c_laws_heldPort (sendP p n) (small_send hA) _ (by first | omega | (simp; done) | (simp; omega)) (by first | omega | (simp; done) | (simp; omega))) (closed_int _ _) ?_)
              refine aops_cons rfl (w_pure rfl (p_assign rfl) ?_)
              refine aops_nil ?_
              refine a_seq ?_
              refine a_seq ?_
              refine a_region ?_
              refine aops_cons rfl (w_pure rfl (p_move rfl) ?_)
              refine aops_cons rfl (w_pure rfl (p_lss rfl rfl) ?_)
              refine aops_nil ?_
              first | refine a_cond_d rfl (fun h7 => ?_) (fun h8 => ?_) | refine a_cond_n rfl (fun h7 => ?_) (fun h8 => ?_) | refine a_cond_nb rfl (fun h7 => ?_) (fun h8 => ?_) | refine a_cond rfl (fun h7 => ?_) (fun h8 => ?_)
              · (try simp only [Bool.not_eq_true', Bool.not_eq_false', Bool.not_eq_true, Bool.not_eq_false, decide_eq_true_eq, decide_eq_false_iff_not, List.length_map, List.length_range] at h7)
                refine a_seq ?_
                refine a_region ?_
                refine aops_cons rfl (w_pure rfl (p_assign rfl) ?_)
                refine aops_nil ?_
                refine a_ret ?_
                refine ret_ok (hands1 rfl (.tmp rfl)) (.nil _) ?_
                first | exact ⟨rfl, rfl⟩ | (exfalso; omega)
              · (try simp only [Bool.not_eq_true', Bool.not_eq_false', Bool.not_eq_true, Bool.not_eq_false, decide_eq_true_eq, decide_eq_false_iff_not, List.length_map, List.length_range] at h8)
                refine a_skip ?_
                refine a_seq ?_
                refine a_seq ?_
                refine a_region ?_
                refine aops_cons rfl (w_pure rfl (p_move rfl) ?_)
                refine aops_cons rfl (w_pure rfl (p_move rfl) ?_)
                refine aops_cons rfl (w_pure rfl (p_neq_same rfl rfl) ?_)
                refine aops_nil ?_
                refine a_cond_f rfl ?_
                refine a_skip ?_
                refine a_seq ?_
                refine a_region ?_
                refine aops_cons rfl (w_pure rfl (p_load_v_all ag_38 rfl (by rfl) noX) ?_)
                refine aops_cons rfl (w_callR rfl rfl rfl cl_27 (c_laws_toPort p hl0) ?_)
                refine aops_cons rfl (w_pure rfl (p_move rfl) ?_)
                refine aops_cons rfl (w_callR rfl rfl rfl cl_43 (cf_impl_SendBytes p hl0 n hA) ?_)
                refine aops_cons rfl (w_pure rfl (p_move rfl) ?_)
                refine aops_cons rfl (w_pure rfl (p_extract rfl rfl) ?_)
                refine aops_cons rfl (w_pure rfl (p_extract rfl rfl) ?_)
                refine aops_cons rfl (w_pure rfl (p_extract rfl rfl) ?_)
                refine aops_cons rfl (w_alloc rfl z_41 fun b9 => ?_)
                refine aops_cons rfl (w_pure rfl (p_assign rfl) ?_)
                refine aops_cons rfl (w_store (cells' := [_, _, _, _]) rfl rfl rfl (by repeat (first | exact Pick.here _ _ _ | apply Pick.next)) cn_41 (by rfl) (by rfl) (by rfl) trivial ?_)
                refine aops_cons rfl (w_pure rfl (p_assign rfl) ?_)
                refine aops_nil ?_
                refine a_seq ?_
                refine a_seq ?_
                refine a_region ?_
                refine aops_cons rfl (w_pure rfl (p_move rfl) ?_)
                refine aops_cons rfl (w_pure rfl (p_move rfl) ?_)
                refine aops_cons rfl (w_callLR rfl rfl rfl cl_44 (.cons (.refl _) (.cons (.refl _) .nil)) (c_laws_eqIntS (sentP p n) (small_sent hA)) (closed_bool _) ?_)
                refine aops_cons rfl (w_pure rfl (p_not rfl) ?_)
                refine aops_cons rfl (w_pure rfl (p_move rfl) ?_)
                refine aops_guard_t rfl rfl rfl (w_pure rfl (p_load_box_all ag_41 rfl (by repeat (first | exact Pick.here _ _ _ | apply Pick.next)) (by rfl) noX) ?_)
                refine aops_guard_t rfl rfl rfl (w_pure rfl (p_load_box_all ag_41 rfl (by repeat (first | exact Pick.here _ _ _ | apply Pick.next)) (by rfl) noX) ?_)
                refine aops_guard_t rfl rfl rfl (w_callLR rfl rfl rfl cl_29 (.cons (.refl _) (.cons (.refl _) .nil)) (c_laws_eqPort (sendP p n) (small_send hA)) (closed_bool _) ?_)
                refine aops_guard_t rfl rfl rfl (w_pure rfl (p_not rfl) ?_)
                refine aops_cons rfl (w_pure rfl (p_pick_f rfl rfl) ?_)
                refine aops_cons rfl (w_pure rfl (p_move rfl) ?_)
                refine aops_guard_t rfl rfl rfl (w_pure rfl (p_move rfl) ?_)
                refine aops_guard_t rfl rfl rfl (w_pure rfl (p_move rfl) ?_)
                refine aops_guard_t rfl rfl rfl (w_pure rfl (p_neq_bsame um_4 rfl rfl) ?_)
                refine aops_cons rfl (w_pure rfl (p_pick_f rfl rfl) ?_)
                refine aops_nil ?_
                refine a_cond_f rfl ?_
                refine a_skip ?_
                refine a_seq ?_
                refine a_region ?_
                refine aops_cons rfl (w_pure rfl (p_assign rfl) ?_)
                refine aops_nil ?_
                refine a_seq ?_
                refine a_region ?_
                refine aops_cons rfl (w_pure rfl (p_move rfl) ?_)
                refine aops_cons rfl (w_pure rfl (p_move rfl) ?_)
                refine aops_cons rfl (w_callLR rfl rfl rfl cl_46 (.cons (.own (by repeat (first | exact List.Mem.head _ | apply List.Mem.tail)) (by first | (simp; done) | (simp [mkL]; done))) (.cons (.refl _) .nil)) (c_laws_heldIntS (sentP p n).length (small_sent hA) _ (by first | omega | (simp; done) | (simp; omega)) (by first | omega | (simp; done) | (simp; omega))) (closed_int _ _) ?_)
                refine aops_cons rfl (w_pure rfl (p_assign rfl) ?_)
                refine aops_nil ?_
                refine a_seq ?_
                refine a_seq ?_
                refine a_region ?_
                refine aops_cons rfl (w_pure rfl (p_move rfl) ?_)
                refine aops_cons rfl (w_pure rfl (p_lss rfl rfl) ?_)
                refine aops_nil ?_
                first | refine a_cond_d rfl (fun h9 => ?_) (fun h10 => ?_) | refine a_cond_n rfl (fun h9 => ?_) (fun h10 => ?_) | refine a_cond_nb rfl (fun h9 => ?_) (fun h10 => ?_) | refine a_cond rfl (fun h9 => ?_) (fun h10 => ?_)
                · (try simp only [Bool.not_eq_true', Bool.not_eq_false', Bool.not_eq_true, Bool.not_eq_false, decide_eq_true_eq, decide_eq_false_iff_not, List.length_map, List.length_range] at h9)
                  refine a_seq ?_
                  refine a_region ?_
                  refine aops_cons rfl (w_pure rfl (p_assign rfl) ?_)
                  refine aops_nil ?_
                  refine a_ret ?_
                  refine ret_ok (hands1 rfl (.tmp rfl)) (.nil _) ?_
                  first | exact ⟨rfl, rfl⟩ | (exfalso; omega)
                · (try simp only [Bool.not_eq_true', Bool.not_eq_false', Bool.not_eq_true, Bool.not_eq_false, decide_eq_true_eq, decide_eq_false_iff_not, List.length_map, List.length_range] at h10)
                  refine a_skip ?_
                  refine a_seq ?_
                  refine a_region ?_
                  refine aops_cons rfl (w_pure rfl (p_load_box_all ag_41 rfl (by repeat (first | exact Pick.here _ _ _ | apply Pick.next)) (by rfl) noX) ?_)
                  refine aops_cons rfl (w_pure rfl (p_move rfl) ?_)
                  refine aops_cons rfl (w_callLR rfl rfl rfl cl_37 (.cons (.agg (.cons (.own (by repeat (first | exact List.Mem.head _ | apply List.Mem.tail)) (by first | (simp; done) | (simp [mkL]; done))) (.cons (.own (by repeat (first | exact List.Mem.head _ | apply List.Mem.tail)) (by first | (simp; done) | (simp [mkL]; done))) (.cons (.refl _) (.cons (.refl _) .nil))))) (.cons (.refl _) .nil)) (c_laws_heldPort (sendP p n) (small_send hA) _ (by first | omega | (simp; done) | (simp; omega)) (by first | omega | (simp; done) | (simp; omega))) (closed_int _ _) ?_)
                  refine aops_cons rfl (w_pure rfl (p_assign rfl) ?_)
                  refine aops_nil ?_
                  refine a_seq ?_
                  refine a_seq ?_
                  refine a_region ?_
                  refine aops_cons rfl (w_pure rfl (p_move rfl) ?_)
                  refine aops_cons rfl (w_pure rfl (p_lss rfl rfl) ?_)
                  refine aops_nil ?_
                  first | refine a_cond_d rfl (fun h11 => ?_) (fun h12 => ?_) | refine a_cond_n rfl (fun h11 => ?_) (fun h12 => ?_) | refine a_cond_nb rfl (fun h11 => ?_) (fun h12 => ?_) | refine a_cond rfl (fun h11 => ?_) (fun h12 => ?_)
                  · (try simp only [Bool.not_eq_true', Bool.not_eq_false', Bool.not_eq_true, Bool.not_eq_false, decide_eq_true_eq, decide_eq_false_iff_not, List.length_map, List.length_range] at h11)
                    refine a_seq ?_
                    refine a_region ?_
                    refine aops_cons rfl (w_pure rfl (p_assign rfl) ?_)
                    refine aops_nil ?_
                    refine a_ret ?_
                    refine ret_ok (hands1 rfl (.tmp rfl)) (.nil _) ?_
                    first | exact ⟨rfl, rfl⟩ | (exfalso; omega)
                  · (try simp only [Bool.not_eq_true', Bool.not_eq_false', Bool.not_eq_true, Bool.not_eq_false, decide_eq_true_eq, decide_eq_false_iff_not, List.length_map, List.length_range] at h12)
                    refine a_skip ?_
                    refine a_seq ?_
                    refine a_seq ?_
                    refine a_region ?_
                    refine aops_cons rfl (w_pure rfl (p_move rfl) ?_)
                    refine aops_cons rfl (w_pure rfl (p_move rfl) ?_)
                    refine aops_cons rfl (w_pure rfl (p_neq_same rfl rfl) ?_)
                    refine aops_nil ?_
                    refine a_cond_f rfl ?_
                    refine a_skip ?_
                    refine a_seq ?_
                    refine a_region ?_
                    refine aops_cons rfl (w_pure rfl (p_assign rfl) ?_)
                    refine aops_nil ?_
                    refine a_ret ?_
                    refine ret_ok (hands1 rfl (.tmp rfl)) (.nil _) ?_
                    first | exact ⟨rfl, rfl⟩ | (exfalso; omega)
        exact all_nil
      exact all_nil
  · skip
    refine a_seq ?_
    refine a_region ?_
    refine aops_cons rfl (w_box_v rfl rfl rfl ?_)
    refine aops_cons rfl (w_pure rfl (p_assign rfl) ?_)
    refine aops_nil ?_
    refine a_seq ?_
    refine a_region ?_
    refine aops_cons rfl (w_pure rfl (p_assign rfl) ?_)
    refine aops_nil ?_
    refine a_seq ?_
    refine a_region ?_
    refine aops_cons rfl (w_pure rfl (p_load_v_all ag_38 rfl (by rfl) noX) ?_)
    refine aops_cons rfl (w_pure rfl (p_move rfl) ?_)
    refine aops_cons rfl (w_callR rfl rfl rfl cl_25 (c_laws_szPort _ (by assumption) _ (by omega) (by omega)) ?_)
    refine aops_cons rfl (w_pure rfl (p_assign rfl) ?_)
    refine aops_nil ?_
    refine a_seq ?_
    refine a_seq ?_
    refine a_region ?_
    refine aops_cons rfl (w_pure rfl (p_move rfl) ?_)
    refine aops_cons rfl (w_pure rfl (p_lss rfl rfl) ?_)
    refine aops_nil ?_
    first | refine a_cond_d rfl (fun h1 => ?_) (fun h2 => ?_) | refine a_cond_n rfl (fun h1 => ?_) (fun h2 => ?_) | refine a_cond_nb rfl (fun h1 => ?_) (fun h2 => ?_) | refine a_cond rfl (fun h1 => ?_) (fun h2 => ?_)
    · (try simp only [Bool.not_eq_true', Bool.not_eq_false', Bool.not_eq_true, Bool.not_eq_false, decide_eq_true_eq, decide_eq_false_iff_not, List.length_map, List.length_range] at h1)
      refine a_seq ?_
      refine a_region ?_
      refine aops_cons rfl (w_pure rfl (p_assign rfl) ?_)
      refine aops_nil ?_
      refine a_ret ?_
      refine ret_ok (hands1 rfl (.tmp rfl)) (.nil _) ?_
      first | exact ⟨rfl, rfl⟩ | (exfalso; omega)
    · (try simp only [Bool.not_eq_true', Bool.not_eq_false', Bool.not_eq_true, Bool.not_eq_false, decide_eq_true_eq, decide_eq_false_iff_not, List.length_map, List.length_range] at h2)
      refine a_skip ?_
      refine a_seq ?_
      have hl0 : SmallPort p := szPort_le (left := 1048576) (by omega) (by omega) ‹_›; have hz0_ := hl0; simp only [SmallPort] at hz0_; obtain ⟨hz0_0, hz0_1⟩ := hz0_
      refine a_region ?_
      refine aops_cons rfl (w_pure rfl (p_load_v_all ag_38 rfl (by rfl) noX) ?_)
      refine aops_cons rfl (w_callR rfl rfl rfl cl_27 (c_laws_toPort p hl0) ?_)
      refine aops_cons rfl (w_pure rfl (p_move rfl) ?_)
      refine aops_cons rfl (w_callR rfl rfl rfl cl_42 (cn_spec_SendBytes p hl0 n hA) ?_)
      refine aops_cons rfl (w_pure rfl (p_move rfl) ?_)
      refine aops_cons rfl (w_pure rfl (p_extract rfl rfl) ?_)
      refine aops_cons rfl (w_pure rfl (p_extract rfl rfl) ?_)
      refine aops_cons rfl (w_pure rfl (p_extract rfl rfl) ?_)
      refine aops_cons rfl (w_alloc rfl z_41 fun b1 => ?_)
      refine aops_cons rfl (w_pure rfl (p_assign rfl) ?_)
      refine aops_cons rfl (w_store (cells' := [_, _, _, _]) rfl rfl rfl (by repeat (first | exact Pick.here _ _ _ | apply Pick.next)) cn_41 (by rfl) (by rfl) (by rfl) trivial ?_)
      refine aops_cons rfl (w_pure rfl (p_assign rfl) ?_)
      refine aops_nil ?_
      refine a_seq ?_
      refine a_region ?_
      refine aops_cons rfl (w_pure rfl (p_load_v_all ag_38 rfl (by rfl) noX) ?_)
      refine aops_cons rfl (w_call rfl rfl rfl cl_27 (co_laws_toPort p hl0) ?_)
      rintro _ _ ⟨b2, b3, rfl, rfl⟩
      refine aops_cons rfl (w_alloc rfl z_41 fun b4 => ?_)
      refine aops_cons rfl (w_store (cells' := [_, _, _, _]) rfl rfl rfl (by repeat (first | exact Pick.here _ _ _ | apply Pick.next)) cn_41 (by rfl) (by rfl) (by rfl) trivial ?_)
      refine aops_nil ?_
      refine a_seq ?_
      refine a_region ?_
      refine aops_cons rfl (w_pure rfl (p_load_box_all ag_41 rfl (by repeat (first | exact Pick.here _ _ _ | apply Pick.next)) (by rfl) noX) ?_)
      refine aops_cons rfl (w_pure rfl (p_move rfl) ?_)
      refine aops_cons rfl (w_callLR rfl rfl rfl cl_43 (.cons (.agg (.cons (.own (by repeat (first | exact List.Mem.head _ | apply List.Mem.tail)) (by first | (simp; done) | (simp [mkL]; done))) (.cons (.own (by repeat (first | exact List.Mem.head _ | apply List.Mem.tail)) (by first | (simp; done) | (simp [mkL]; done))) (.cons (.refl _) (.cons (.refl _) .nil))))) (.cons (.refl _) .nil)) (cn_impl_SendBytes p hl0 n hA) (closed_tup (all_cons' closed_nil (all_cons' (closed_agg (all_cons' closed_nil (all_cons' closed_nil (all_cons' (closed_int _ _) (all_cons' (closed_bool _) all_nil'))))) (all_cons' (closed_bool _) all_nil')))) ?_)
      refine aops_cons rfl (w_pure rfl (p_move rfl) ?_)
      refine aops_cons rfl (w_pure rfl (p_extract rfl rfl) ?_)
      refine aops_cons rfl (w_pure rfl (p_extract rfl rfl) ?_)
      refine aops_cons rfl (w_pure rfl (p_extract rfl rfl) ?_)
      refine aops_cons rfl (w_alloc rfl z_41 fun b5 => ?_)
      refine aops_cons rfl (w_pure rfl (p_assign rfl) ?_)
      refine aops_cons rfl (w_store (cells' := [_, _, _, _]) rfl rfl rfl (by repeat (first | exact Pick.here _ _ _ | apply Pick.next)) cn_41 (by rfl) (by rfl) (by rfl) trivial ?_)
      refine aops_cons rfl (w_pure rfl (p_assign rfl) ?_)
      refine aops_nil ?_
      refine a_seq ?_
      refine a_seq ?_
      refine a_region ?_
      refine aops_cons rfl (w_pure rfl (p_move rfl) ?_)
      refine aops_cons rfl (w_pure rfl (p_move rfl) ?_)
      refine aops_cons rfl (w_callLR rfl rfl rfl cl_44 (.cons .nil (.cons (.refl _) .nil)) (c_laws_eqIntS ([] : List Int) (by first | decide | (simp; done) | exact ⟨by decide, by decide⟩)) (closed_bool _) ?_)
      refine aops_cons rfl (w_pure rfl (p_not rfl) ?_)
      refine aops_cons rfl (w_pure rfl (p_move rfl) ?_)
      refine aops_guard_t rfl rfl rfl (w_pure rfl (p_load_box_all ag_41 rfl (by repeat (first | exact Pick.here _ _ _ | apply Pick.next)) (by rfl) noX) ?_)
      refine aops_guard_t rfl rfl rfl (w_pure rfl (p_load_box_all ag_41 rfl (by repeat (first | exact Pick.here _ _ _ | apply Pick.next)) (by rfl) noX) ?_)
      refine aops_guard_t rfl rfl rfl (w_callLR rfl rfl rfl cl_29 (.cons (.agg (.cons .nil (.cons .nil (.cons (.refl _) (.cons (.refl _) .nil))))) (.cons (.agg (.cons .nil (.cons .nil (.cons (.refl _) (.cons (.refl _) .nil))))) .nil)) (c_laws_eqPort (⟨[], [], 0, false⟩ : Port) (by first | decide | (simp; done) | exact ⟨by decide, by decide⟩)) (closed_bool _) ?_)
      refine aops_guard_t rfl rfl rfl (w_pure rfl (p_not rfl) ?_)
      refine aops_cons rfl (w_pure rfl (p_pick_f rfl rfl) ?_)
      refine aops_cons rfl (w_pure rfl (p_move rfl) ?_)
      refine aops_guard_t rfl rfl rfl (w_pure rfl (p_move rfl) ?_)
      refine aops_guard_t rfl rfl rfl (w_pure rfl (p_move rfl) ?_)
      refine aops_guard_t rfl rfl rfl (w_pure rfl (p_neq_bsame um_4 rfl rfl) ?_)
      refine aops_cons rfl (w_pure rfl (p_pick_f rfl rfl) ?_)
      refine aops_nil ?_
      refine a_cond_f rfl ?_
      refine a_skip ?_
      refine a_seq ?_
      refine a_seq ?_
      refine a_draw [] (by kernel_rfl) ?_
      show ADraw _ _ _ _ _ _ 5 _ _ _ _
      refine d_load 0 rfl (by kernel_rfl) (by kernel_rfl) (by kernel_rfl) rfl (p_load_box_all ag_41 rfl (by repeat (first | exact Pick.here _ _ _ | apply Pick.next)) (by rfl) noX) ?_
      refine d_load 1 rfl (by kernel_rfl) (by kernel_rfl) (by kernel_rfl) rfl (p_load_v_all ag_38 rfl (by rfl) noX) ?_
      refine draw_all [2] (by kernel_rfl) (by simp) ?_
      refine all_cons rfl rfl ?_ ?_
      · skip
        refine w_callR rfl rfl rfl cl_27 (c_laws_toPort p hl0) ?_
        refine draw_all [3] (by kernel_rfl) (by simp) ?_
        refine all_cons rfl rfl ?_ ?_
        · skip
          refine w_callLR rfl rfl rfl cl_29 (.cons (.agg (.cons (.own (by repeat (first | exact List.Mem.head _ | apply List.Mem.tail)) (by first | (simp; done) | (simp [mkL]; done))) (.cons (.own (by repeat (first | exact List.Mem.head _ | apply List.Mem.tail)) (by first | (simp; done) | (simp [mkL]; done))) (.cons (.refl _) (.cons (.refl _) .nil))))) (.cons (.refl _) .nil)) (c_laws_eqPort p hl0) (closed_bool _) ?_
          refine d_take 4 rfl (by kernel_rfl) (by kernel_rfl) (by kernel_rfl) rfl (p_not rfl) ?_
          refine draw_done (by kernel_rfl) ?_
          refine a_cond_f rfl ?_
          refine a_skip ?_
          refine a_seq ?_
          refine a_region ?_
          refine aops_cons rfl (w_pure rfl (p_assign rfl) ?_)
          refine aops_nil ?_
          refine a_seq ?_
          refine a_region ?_
          refine aops_cons rfl (w_pure rfl (p_load_box_all ag_41 rfl (by repeat (first | exact Pick.here _ _ _ | apply Pick.next)) (by rfl) noX) ?_)
          refine aops_cons rfl (w_pure rfl (p_move rfl) ?_)
          refine aops_cons rfl (w_callM rfl rfl rfl cl_36 (.cons (by repeat (first | exact Pick.here _ _ _ | apply Pick.next)) (.cons (by repeat (first | exact Pick.here _ _ _ | apply Pick.next)) (.nil _))) (.cons (.refl _) (.cons (.refl _) .nil)) (c_laws_markPort _ _ p hl0 _ (by first | omega | (simp; done) | (simp; omega)) (by first | omega | (simp; done) | (simp; omega))) trivial ?_)
          rintro _ _ ⟨rfl, rfl⟩
          refine ⟨(closed_int _ _), (closedS_cons (closedAll _ _ _ _ cl_eInt) (closedS_cons (closedAll _ _ _ _ cl_eInt) closedS_nil)), ?_⟩
          refine aops_cons rfl (w_pure rfl (p_assign rfl) ?_)
          refine aops_nil ?_
          refine a_seq ?_
          refine a_seq ?_
          refine a_region ?_
          refine aops_cons rfl (w_pure rfl (p_move rfl) ?_)
          refine aops_cons rfl (w_pure rfl (p_lss rfl rfl) ?_)
          refine aops_cons rfl (w_pure rfl (p_move rfl) ?_)
          first | refine aops_split_d 66 rfl (fun h3 => ?_) (fun h4 => ?_) | refine aops_split 66 rfl (fun h3 => ?_) (fun h4 => ?_)
          · (try simp only [Bool.not_eq_true', Bool.not_eq_false', Bool.not_eq_true, Bool.not_eq_false, decide_eq_true_eq, decide_eq_false_iff_not, List.length_map, List.length_range] at h3)
            refine g_pass' rfl rfl rfl rfl rfl ?_
            refine g_pass' rfl rfl rfl rfl rfl ?_
            refine g_pass' rfl rfl rfl rfl rfl ?_
            refine g_pass' rfl rfl rfl rfl rfl ?_
            refine aops_cons rfl (w_pure rfl (p_pick_t rfl rfl) ?_)
            refine aops_cons rfl (w_pure rfl (p_move rfl) ?_)
            refine g_pass' rfl rfl rfl rfl rfl ?_
            refine g_pass' rfl rfl rfl rfl rfl ?_
            refine g_pass' rfl rfl rfl rfl rfl ?_
            refine g_pass' rfl rfl rfl rfl rfl ?_
            refine aops_cons rfl (w_pure rfl (p_pick_t rfl rfl) ?_)
            refine aops_cons rfl (w_pure rfl (p_move rfl) ?_)
            refine g_pass' rfl rfl rfl rfl rfl ?_
            refine g_pass' rfl rfl rfl rfl rfl ?_
            refine g_pass' rfl rfl rfl rfl rfl ?_
            refine aops_cons rfl (w_pure rfl (p_pick_t rfl rfl) ?_)
            refine aops_nil ?_
            refine a_cond_t rfl ?_
            refine a_seq ?_
            refine a_region ?_
            refine aops_cons rfl (w_pure rfl (p_assign rfl) ?_)
            refine aops_nil ?_
            refine a_ret ?_
            refine ret_ok (hands1 rfl (.tmp rfl)) (.nil _) ?_
            first | exact ⟨rfl, rfl⟩ | (exfalso; omega)
          · (try simp only [Bool.not_eq_true', Bool.not_eq_false', Bool.not_eq_true, Bool.not_eq_false, decide_eq_true_eq, decide_eq_false_iff_not, List.length_map, List.length_range] at h4)
            refine aops_guard_t rfl rfl rfl (w_pure rfl (p_move rfl) ?_)
            refine aops_guard_t rfl rfl rfl (w_pure rfl (p_move rfl) ?_)
            refine aops_guard_t rfl rfl rfl (w_callLR rfl rfl rfl cl_44 (.cons .nil (.cons (.refl _) .nil)) (c_laws_eqIntS ([] : List Int) (by first | decide | (simp; done) | exact ⟨by decide, by decide⟩)) (closed_bool _) ?_)
            refine aops_guard_t rfl rfl rfl (w_pure rfl (p_not rfl) ?_)
            refine aops_cons rfl (w_pure rfl (p_pick_f rfl rfl) ?_)
            refine aops_cons rfl (w_pure rfl (p_move rfl) ?_)
            refine aops_guard_t rfl rfl rfl (w_pure rfl (p_load_box_all ag_41 rfl (by repeat (first | exact Pick.here _ _ _ | apply Pick.next)) (by rfl) noX) ?_)
            refine aops_guard_t rfl rfl rfl (w_pure rfl (p_load_box_all ag_41 rfl (by repeat (first | exact Pick.here _ _ _ | apply Pick.next)) (by rfl) noX) ?_)
            refine aops_guard_t rfl rfl rfl (w_callLR rfl rfl rfl cl_29 (.cons (.agg (.cons .nil (.cons .nil (.cons (.refl _) (.cons (.refl _) .nil))))) (.cons (.agg (.cons .nil (.cons .nil (.cons (.refl _) (.cons (.refl _) .nil))))) .nil)) (c_laws_eqPort (⟨[], [], 0, false⟩ : Port) (by first | decide | (simp; done) | exact ⟨by decide, by decide⟩)) (closed_bool _) ?_)
            refine aops_guard_t rfl rfl rfl (w_pure rfl (p_not rfl) ?_)
            refine aops_cons rfl (w_pure rfl (p_pick_f rfl rfl) ?_)
            refine aops_cons rfl (w_pure rfl (p_move rfl) ?_)
            refine aops_guard_t rfl rfl rfl (w_pure rfl (p_move rfl) ?_)
            refine aops_guard_t rfl rfl rfl (w_pure rfl (p_move rfl) ?_)
            refine aops_guard_t rfl rfl rfl (w_pure rfl (p_neq_bsame um_4 rfl rfl) ?_)
            refine aops_cons rfl (w_pure rfl (p_pick_f rfl rfl) ?_)
            refine aops_nil ?_
            refine a_cond_f rfl ?_
            refine a_skip ?_
            refine a_seq ?_
            refine a_region ?_
            refine aops_cons rfl (w_pure rfl (p_assign rfl) ?_)
            refine aops_nil ?_
            refine a_seq ?_
            refine a_region ?_
            refine aops_cons rfl (w_pure rfl (p_move rfl) ?_)
            refine aops_cons rfl (w_pure rfl (p_move rfl) ?_)
            refine aops_cons rfl (w_callR rfl rfl rfl cl_45 (cn_laws_markIntS ..) ?_)
            refine aops_cons rfl (w_pure rfl (p_assign rfl) ?_)
            refine aops_nil ?_
            refine a_seq ?_
            refine a_region ?_
            refine aops_cons rfl (w_pure rfl (p_load_box_all ag_41 rfl (by repeat (first | exact Pick.here _ _ _ | apply Pick.next)) (by rfl) noX) ?_)
            refine aops_cons rfl (w_pure rfl (p_move rfl) ?_)
            refine aops_cons rfl (w_callR rfl rfl rfl cl_36 (cn_laws_markPort ..) ?_)
            refine aops_cons rfl (w_pure rfl (p_assign rfl) ?_)
            refine aops_nil ?_
            refine a_seq ?_
            refine a_region ?_
            refine aops_cons rfl (w_pure rfl (p_assign rfl) ?_)
            refine aops_nil ?_
            refine a_seq ?_
            refine a_region ?_
            refine aops_cons rfl (w_pure rfl (p_move rfl) ?_)
            refine aops_cons rfl (w_pure rfl (p_move rfl) ?_)
            refine aops_cons rfl (w_callLR rfl rfl rfl cl_46 (.cons .nil (.cons (.refl _) .nil)) (c_laws_heldIntS 0 (by decide) _ (by first | omega | (simp; done) | (simp; omega)) (by first | omega | (simp; done) | (simp; omega))) (closed_int _ _) ?_)
            refine aops_cons rfl (w_pure rfl (p_assign rfl) ?_)
            refine aops_nil ?_
            refine a_seq ?_
            refine a_seq ?_
            refine a_region ?_
            refine aops_cons rfl (w_pure rfl (p_move rfl) ?_)
            refine aops_cons rfl (w_pure rfl (p_lss rfl rfl) ?_)
            refine aops_nil ?_
            first | refine a_cond_d rfl (fun h5 => ?_) (fun h6 => ?_) | refine a_cond_n rfl (fun h5 => ?_) (fun h6 => ?_) | refine a_cond_nb rfl (fun h5 => ?_) (fun h6 => ?_) | refine a_cond rfl (fun h5 => ?_) (fun h6 => ?_)
            · (try simp only [Bool.not_eq_true', Bool.not_eq_false', Bool.not_eq_true, Bool.not_eq_false, decide_eq_true_eq, decide_eq_false_iff_not, List.length_map, List.length_range] at h5)
              refine a_seq ?_
              refine a_region ?_
              refine aops_cons rfl (w_pure rfl (p_assign rfl) ?_)
              refine aops_nil ?_
              refine a_ret ?_
              refine ret_ok (hands1 rfl (.tmp rfl)) (.nil _) ?_
              first | exact ⟨rfl, rfl⟩ | (exfalso; omega)
            · (try simp only [Bool.not_eq_true', Bool.not_eq_false', Bool.not_eq_true, Bool.not_eq_false, decide_eq_true_eq, decide_eq_false_iff_not, List.length_map, List.length_range] at h6)
              refine a_skip ?_
              refine a_seq ?_
              refine a_region ?_
              refine aops_cons rfl (w_pure rfl (p_load_box_all ag_41 rfl (by repeat (first | exact Pick.here _ _ _ | apply Pick.next)) (by rfl) noX) ?_)
              refine aops_cons rfl (w_pure rfl (p_move rfl) ?_)
              refine aops_cons rfl (w_callLR rfl rfl rfl cl_37 (.cons (.agg (.cons .nil (.cons .nil (.cons (.refl _) (.cons (.refl _) .nil))))) (.cons (.refl _) .nil)) (c_laws_heldPort (⟨[], [], 0, false⟩ : Port) (by first | decide | (simp; done) | exact ⟨by decide, by decide⟩) _ (by first | omega | (simp; done) | (simp; omega)) (by first | omega | (simp; done) | (simp; omega))) (closed_int _ _) ?_)
              refine aops_cons rfl (w_pure rfl (p_assign rfl) ?_)
              refine aops_nil ?_
              refine a_seq ?_
              refine a_seq ?_
              refine a_region ?_
              refine aops_cons rfl (w_pure rfl (p_move rfl) ?_)
              refine aops_cons rfl (w_pure rfl (p_lss rfl rfl) ?_)
              refine aops_nil ?_
              first | refine a_cond_d rfl (fun h7 => ?_) (fun h8 => ?_) | refine a_cond_n rfl (fun h7 => ?_) (fun h8 => ?_) | refine a_cond_nb rfl (fun h7 => ?_) (fun h8 => ?_) | refine a_cond rfl (fun h7 => ?_) (fun h8 => ?_)
              · (try simp only [Bool.not_eq_true', Bool.not_eq_false', Bool.not_eq_true, Bool.not_eq_false, decide_eq_true_eq, decide_eq_false_iff_not, List.length_map, List.length_range] at h7)
                refine a_seq ?_
                refine a_region ?_
                refine aops_cons rfl (w_pure rfl (p_assign rfl) ?_)
                refine aops_nil ?_
                refine a_ret ?_
                refine ret_ok (hands1 rfl (.tmp rfl)) (.nil _) ?_
                first | exact ⟨rfl, rfl⟩ | (exfalso; omega)
              · (try simp only [Bool.not_eq_true', Bool.not_eq_false', Bool.not_eq_true, Bool.not_eq_false, decide_eq_true_eq, decide_eq_false_iff_not, List.length_map, List.length_range] at h8)
                refine a_skip ?_
                refine a_seq ?_
                refine a_seq ?_
                refine a_region ?_
                refine aops_cons rfl (w_pure rfl (p_move rfl) ?_)
                refine aops_cons rfl (w_pure rfl (p_move rfl) ?_)
                refine aops_cons rfl (w_pure rfl (p_neq_same rfl rfl) ?_)
                refine aops_nil ?_
                refine a_cond_f rfl ?_
                refine a_skip ?_
                refine a_seq ?_
                refine a_region ?_
                refine aops_cons rfl (w_pure rfl (p_load_v_all ag_38 rfl (by rfl) noX) ?_)
                refine aops_cons rfl (w_callR rfl rfl rfl cl_27 (c_laws_toPort p hl0) ?_)
                refine aops_cons rfl (w_pure rfl (p_move rfl) ?_)
                refine aops_cons rfl (w_callR rfl rfl rfl cl_43 (cn_impl_SendBytes p hl0 n hA) ?_)
                refine aops_cons rfl (w_pure rfl (p_move rfl) ?_)
                refine aops_cons rfl (w_pure rfl (p_extract rfl rfl) ?_)
                refine aops_cons rfl (w_pure rfl (p_extract rfl rfl) ?_)
                refine aops_cons rfl (w_pure rfl (p_extract rfl rfl) ?_)
                refine aops_cons rfl (w_alloc rfl z_41 fun b6 => ?_)
                refine aops_cons rfl (w_pure rfl (p_assign rfl) ?_)
                refine aops_cons rfl (w_store (cells' := [_, _, _, _]) rfl rfl rfl (by repeat (first | exact Pick.here _ _ _ | apply Pick.next)) cn_41 (by rfl) (by rfl) (by rfl) trivial ?_)
                refine aops_cons rfl (w_pure rfl (p_assign rfl) ?_)
                refine aops_nil ?_
                refine a_seq ?_
                refine a_seq ?_
                refine a_region ?_
                refine aops_cons rfl (w_pure rfl (p_move rfl) ?_)
                refine aops_cons rfl (w_pure rfl (p_move rfl) ?_)
                refine aops_cons rfl (w_callLR rfl rfl rfl cl_44 (.cons .nil (.cons (.refl _) .nil)) (c_laws_eqIntS ([] : List Int) (by first | decide | (simp; done) | exact ⟨by decide, by decide⟩)) (closed_bool _) ?_)
                refine aops_cons rfl (w_pure rfl (p_not rfl) ?_)
                refine aops_cons rfl (w_pure rfl (p_move rfl) ?_)
                refine aops_guard_t rfl rfl rfl (w_pure rfl (p_load_box_all ag_41 rfl (by repeat (first | exact Pick.here _ _ _ | apply Pick.next)) (by rfl) noX) ?_)
                refine aops_guard_t rfl rfl rfl (w_pure rfl (p_load_box_all ag_41 rfl (by repeat (first | exact Pick.here _ _ _ | apply Pick.next)) (by rfl) noX) ?_)
                refine aops_guard_t rfl rfl rfl (w_callLR rfl rfl rfl cl_29 (.cons (.agg (.cons .nil (.cons .nil (.cons (.refl _) (.cons (.refl _) .nil))))) (.cons (.agg (.cons .nil (.cons .nil (.cons (.refl _) (.cons (.refl _) .nil))))) .nil)) (c_laws_eqPort (⟨[], [], 0, false⟩ : Port) (by first | decide | (simp; done) | exact ⟨by decide, by decide⟩)) (closed_bool _) ?_)
                refine aops_guard_t rfl rfl rfl (w_pure rfl (p_not rfl) ?_)
                refine aops_cons rfl (w_pure rfl (p_pick_f rfl rfl) ?_)
                refine aops_cons rfl (w_pure rfl (p_move rfl) ?_)
                refine aops_guard_t rfl rfl rfl (w_pure rfl (p_move rfl) ?_)
                refine aops_guard_t rfl rfl rfl (w_pure rfl (p_move rfl) ?_)
                refine aops_guard_t rfl rfl rfl (w_pure rfl (p_neq_bsame um_4 rfl rfl) ?_)
                refine aops_cons rfl (w_pure rfl (p_pick_f rfl rfl) ?_)
                refine aops_nil ?_
                refine a_cond_f rfl ?_
                refine a_skip ?_
                refine a_seq ?_
                refine a_region ?_
                refine aops_cons rfl (w_pure rfl (p_assign rfl) ?_)
                refine aops_nil ?_
                refine a_seq ?_
                refine a_region ?_
                refine aops_cons rfl (w_pure rfl (p_move rfl) ?_)
                refine aops_cons rfl (w_pure rfl (p_move rfl) ?_)
                refine aops_cons rfl (w_callLR rfl rfl rfl cl_46 (.cons .nil (.cons (.refl _) .nil)) (c_laws_heldIntS 0 (by decide) _ (by first | omega | (simp; done) | (simp; omega)) (by first | omega | (simp; done) | (simp; omega))) (closed_int _ _) ?_)
                refine aops_cons rfl (w_pure rfl (p_assign rfl) ?_)
                refine aops_nil ?_
                refine a_seq ?_
                refine a_seq ?_
                refine a_region ?_
                refine aops_cons rfl (w_pure rfl (p_move rfl) ?_)
                refine aops_cons rfl (w_pure rfl (p_lss rfl rfl) ?_)
                refine aops_nil ?_
                first | refine a_cond_d rfl (fun h9 => ?_) (fun h10 => ?_) | refine a_cond_n rfl (fun h9 => ?_) (fun h10 => ?_) | refine a_cond_nb rfl (fun h9 => ?_) (fun h10 => ?_) | refine a_cond rfl (fun h9 => ?_) (fun h10 => ?_)
                · (try simp only [Bool.not_eq_true', Bool.not_eq_false', Bool.not_eq_true, Bool.not_eq_false, decide_eq_true_eq, decide_eq_false_iff_not, List.length_map, List.length_range] at h9)
                  refine a_seq ?_
                  refine a_region ?_
                  refine aops_cons rfl (w_pure rfl (p_assign rfl) ?_)
                  refine aops_nil ?_
                  refine a_ret ?_
                  refine ret_ok (hands1 rfl (.tmp rfl)) (.nil _) ?_
                  first | exact ⟨rfl, rfl⟩ | (exfalso; omega)
                · (try simp only [Bool.not_eq_true', Bool.not_eq_false', Bool.not_eq_true, Bool.not_eq_false, decide_eq_true_eq, decide_eq_false_iff_not, List.length_map, List.length_range] at h10)
                  refine a_skip ?_
                  refine a_seq ?_
                  refine a_region ?_
                  refine aops_cons rfl (w_pure rfl (p_load_box_all ag_41 rfl (by repeat (first | exact Pick.here _ _ _ | apply Pick.next)) (by rfl) noX) ?_)
                  refine aops_cons rfl (w_pure rfl (p_move rfl) ?_)
                  refine aops_cons rfl (w_callLR rfl rfl rfl cl_37 (.cons (.agg (.cons .nil (.cons .nil (.cons (.refl _) (.cons (.refl _) .nil))))) (.cons (.refl _) .nil)) (c_laws_heldPort (⟨[], [], 0, false⟩ : Port) (by first | decide | (simp; done) | exact ⟨by decide, by decide⟩) _ (by first | omega | (simp; done) | (simp; omega)) (by first | omega | (simp; done) | (simp; omega))) (closed_int _ _) ?_)
                  refine aops_cons rfl (w_pure rfl (p_assign rfl) ?_)
                  refine aops_nil ?_
                  refine a_seq ?_
                  refine a_seq ?_
                  refine a_region ?_
                  refine aops_cons rfl (w_pure rfl (p_move rfl) ?_)
                  refine aops_cons rfl (w_pure rfl (p_lss rfl rfl) ?_)
                  refine aops_nil ?_
                  first | refine a_cond_d rfl (fun h11 => ?_) (fun h12 => ?_) | refine a_cond_n rfl (fun h11 => ?_) (fun h12 => ?_) | refine a_cond_nb rfl (fun h11 => ?_) (fun h12 => ?_) | refine a_cond rfl (fun h11 => ?_) (fun h12 => ?_)
                  · (try simp only [Bool.not_eq_true', Bool.not_eq_false', Bool.not_eq_true, Bool.not_eq_false, decide_eq_true_eq, decide_eq_false_iff_not, List.length_map, List.length_range] at h11)
                    refine a_seq ?_
                    refine a_region ?_
                    refine aops_cons rfl (w_pure rfl (p_assign rfl) ?_)
                    refine aops_nil ?_
                    refine a_ret ?_
                    refine ret_ok (hands1 rfl (.tmp rfl)) (.nil _) ?_
                    first | exact ⟨rfl, rfl⟩ | (exfalso; omega)
                  · (try simp only [Bool.not_eq_true', Bool.not_eq_false', Bool.not_eq_true, Bool.not_eq_false, decide_eq_true_eq, decide_eq_false_iff_not, List.length_map, List.length_range] at h12)
                    refine a_skip ?_
                    refine a_seq ?_
                    refine a_seq ?_
                    refine a_region ?_
                    refine aops_cons rfl (w_pure rfl (p_move rfl) ?_)
                    refine aops_cons rfl (w_pure rfl (p_move rfl) ?_)
                    refine aops_cons rfl (w_pure rfl (p_neq_same rfl rfl) ?_)
                    refine aops_nil ?_
                    refine a_cond_f rfl ?_
                    refine a_skip ?_
                    refine a_seq ?_
                    refine a_region ?_
                    refine aops_cons rfl (w_pure rfl (p_assign rfl) ?_)
                    refine aops_nil ?_
                    refine a_ret ?_
                    refine ret_ok (hands1 rfl (.tmp rfl)) (.nil _) ?_
                    first | exact ⟨rfl, rfl⟩ | (exfalso; omega)
        exact all_nil
      exact all_nil

theorem co_spec_LoopPorts (a b : Port) (hn : SmallPort a) (hm : SmallPort b) (hA : GoodLoop a b) : ACalls Try.prog 47 [.agg (ePort a), .agg (ePort b)] [] (fun r st => ∃ b1 b2 b3 b4, r = .tup [.agg [.own 1 b1 0 (loopP a b).rx.length, .own 1 b2 0 (loopP a b).tx.length, .int .i64 (loopP a b).depth, .bool (loopP a b).flag], .agg [.own 1 b3 0 (loopP b a).rx.length, .own 1 b4 0 (loopP b a).tx.length, .int .i64 (loopP b a).depth, .bool (loopP b a).flag], .bool true] ∧ st = [(b1, .arr 3 1 ((loopP a b).rx.map eInt)), (b2, .arr 3 1 ((loopP a b).tx.map eInt)), (b3, .arr 3 1 ((loopP b a).rx.map eInt)), (b4, .arr 3 1 ((loopP b a).tx.map eInt))]) := by
  have hn1 : a.rx.length ≤ 1048576 := hn.1
  have hn2 : a.tx.length ≤ 1048576 := hn.2
  have hm1 : b.rx.length ≤ 1048576 := hm.1
  have hm2 : b.tx.length ≤ 1048576 := hm.2
  refine a_enter Try.func47 rfl rfl (fun w0 M0 => ?_)
  refine a_seq ?_
  refine a_region ?_
  refine aops_cons rfl (w_box_v rfl rfl rfl ?_)
  refine aops_cons rfl (w_box_v rfl rfl rfl ?_)
  refine aops_cons rfl (w_alloc rfl z_41 fun b1 => ?_)
  refine aops_cons rfl (w_alloc rfl z_41 fun b2 => ?_)
  refine aops_cons rfl (w_pure rfl (p_assign rfl) ?_)
  refine aops_nil ?_
  refine a_seq ?_
  refine a_seq ?_
  refine a_region ?_
  refine aops_cons rfl (w_pure rfl (p_load_v_all ag_41 rfl (by rfl) noX) ?_)
  refine aops_cons rfl (w_callR rfl rfl rfl cl_60 (c_spec_l16Port _ ‹_›) ?_)
  refine aops_cons rfl (w_pure rfl (p_not rfl) ?_)
  refine aops_cons rfl (w_pure rfl (p_move rfl) ?_)
  first | refine aops_split_d 14 rfl (fun h1 => ?_) (fun h2 => ?_) | refine aops_split 14 rfl (fun h1 => ?_) (fun h2 => ?_)
  · (try simp only [Bool.not_eq_true', Bool.not_eq_false', Bool.not_eq_true, Bool.not_eq_false, decide_eq_true_eq, decide_eq_false_iff_not, List.length_map, List.length_range] at h1)
    refine g_pass' rfl rfl rfl rfl rfl ?_
    refine g_pass' rfl rfl rfl rfl rfl ?_
    refine g_pass' rfl rfl rfl rfl rfl ?_
    refine aops_cons rfl (w_pure rfl (p_pick_t rfl rfl) ?_)
    refine aops_nil ?_
    refine a_cond_t rfl ?_
    refine a_seq ?_
    refine a_region ?_
    refine aops_cons rfl (w_pure rfl (p_build (cells := [_, _, _, _]) z_41 pl_41 rfl rfl) ?_)
    refine aops_cons rfl (w_pure rfl (p_build (cells := [_, _, _, _]) z_41 pl_41 rfl rfl) ?_)
    refine aops_cons rfl (w_store (cells' := [_, _, _, _]) rfl rfl rfl (by repeat (first | exact Pick.here _ _ _ | apply Pick.next)) cn_41 (by rfl) (by rfl) (by rfl) trivial ?_)
    refine aops_cons rfl (w_store (cells' := [_, _, _, _]) rfl rfl rfl (by repeat (first | exact Pick.here _ _ _ | apply Pick.next)) cn_41 (by rfl) (by rfl) (by rfl) trivial ?_)
    refine aops_cons rfl (w_pure rfl (p_assign rfl) ?_)
    refine aops_nil ?_
    refine a_ret ?_
    refine ret_ok (hands3 rfl (.cell ag_41 rfl (by repeat (first | exact Pick.here _ _ _ | apply Pick.next)) (by rfl)) (.cell ag_41 rfl (by repeat (first | exact Pick.here _ _ _ | apply Pick.next)) (by rfl)) (.tmp rfl)) (.nil _) ?_
    first | exact ⟨_, _, _, _, rfl, rfl⟩ | exact absurd hA.1 (by assumption) | exact absurd hA.2 (by assumption)
  · (try simp only [Bool.not_eq_true', Bool.not_eq_false', Bool.not_eq_true, Bool.not_eq_false, decide_eq_true_eq, decide_eq_false_iff_not, List.length_map, List.length_range] at h2)
    refine aops_guard_t rfl rfl rfl (w_pure rfl (p_load_v_all ag_41 rfl (by rfl) noX) ?_)
    refine aops_guard_t rfl rfl rfl (w_callR rfl rfl rfl cl_60 (c_spec_l16Port _ ‹_›) ?_)
    refine aops_guard_t rfl rfl rfl (w_pure rfl (p_not rfl) ?_)
    refine aops_cons rfl (w_pure rfl (p_pick_f rfl rfl) ?_)
    refine aops_nil ?_
    first | refine a_cond_d rfl (fun h3 => ?_) (fun h4 => ?_) | refine a_cond_n rfl (fun h3 => ?_) (fun h4 => ?_) | refine a_cond_nb rfl (fun h3 => ?_) (fun h4 => ?_) | refine a_cond rfl (fun h3 => ?_) (fun h4 => ?_)
    · (try simp only [Bool.not_eq_true', Bool.not_eq_false', Bool.not_eq_true, Bool.not_eq_false, decide_eq_true_eq, decide_eq_false_iff_not, List.length_map, List.length_range] at h3)
      refine a_seq ?_
      refine a_region ?_
      refine aops_cons rfl (w_pure rfl (p_build (cells := [_, _, _, _]) z_41 pl_41 rfl rfl) ?_)
      refine aops_cons rfl (w_pure rfl (p_build (cells := [_, _, _, _]) z_41 pl_41 rfl rfl) ?_)
      refine aops_cons rfl (w_store (cells' := [_, _, _, _]) rfl rfl rfl (by repeat (first | exact Pick.here _ _ _ | apply Pick.next)) cn_41 (by rfl) (by rfl) (by rfl) trivial ?_)
      refine aops_cons rfl (w_store (cells' := [_, _, _, _]) rfl rfl rfl (by repeat (first | exact Pick.here _ _ _ | apply Pick.next)) cn_41 (by rfl) (by rfl) (by rfl) trivial ?_)
      refine aops_cons rfl (w_pure rfl (p_assign rfl) ?_)
      refine aops_nil ?_
      refine a_ret ?_
      refine ret_ok (hands3 rfl (.cell ag_41 rfl (by repeat (first | exact Pick.here _ _ _ | apply Pick.next)) (by rfl)) (.cell ag_41 rfl (by repeat (first | exact Pick.here _ _ _ | apply Pick.next)) (by rfl)) (.tmp rfl)) (.nil _) ?_
      first | exact ⟨_, _, _, _, rfl, rfl⟩ | exact absurd hA.1 (by assumption) | exact absurd hA.2 (by assumption)
    · (try simp only [Bool.not_eq_true', Bool.not_eq_false', Bool.not_eq_true, Bool.not_eq_false, decide_eq_true_eq, decide_eq_false_iff_not, List.length_map, List.length_range] at h4)
      refine a_skip ?_
      refine a_seq ?_
      refine a_region ?_
      refine aops_cons rfl (w_pure rfl (p_field_v fo_41_1 rfl) ?_)
      refine aops_cons rfl (w_pure rfl (p_load_v ag_36 rfl (by rfl) noX) ?_)
      refine aops_cons rfl (w_pure rfl (p_len sl_36 rfl rfl) ?_)
      refine aops_cons rfl (w_pure rfl (p_field_v fo_41_0 rfl) ?_)
      refine aops_cons rfl (w_pure rfl (p_load_v ag_36 rfl (by rfl) noX) ?_)
      refine aops_cons rfl (w_pure rfl (p_len sl_36 rfl rfl) ?_)
      refine aops_cons rfl (w_pure rfl (p_sub' rfl rfl ⟨by simp only [List.length_map]; omega, by simp only [List.length_map]; omega⟩) ?_)
      refine aops_cons rfl (w_callR rfl rfl rfl cl_72 (c_spec_l1Least _ _) ?_)
      refine aops_cons rfl (w_pure rfl (p_assign rfl) ?_)
      refine aops_nil ?_
      refine a_seq ?_
      refine a_region ?_
      refine aops_cons rfl (w_pure rfl (p_field_v fo_41_1 rfl) ?_)
      refine aops_cons rfl (w_pure rfl (p_load_v ag_36 rfl (by rfl) noX) ?_)
      refine aops_cons rfl (w_pure rfl (p_len sl_36 rfl rfl) ?_)
      refine aops_cons rfl (w_pure rfl (p_field_v fo_41_0 rfl) ?_)
      refine aops_cons rfl (w_pure rfl (p_load_v ag_36 rfl (by rfl) noX) ?_)
      refine aops_cons rfl (w_pure rfl (p_len sl_36 rfl rfl) ?_)
      refine aops_cons rfl (w_pure rfl (p_sub' rfl rfl ⟨by simp only [List.length_map]; omega, by simp only [List.length_map]; omega⟩) ?_)
      refine aops_cons rfl (w_callR rfl rfl rfl cl_72 (c_spec_l1Least _ _) ?_)
      refine aops_cons rfl (w_pure rfl (p_assign rfl) ?_)
      refine aops_nil ?_
      refine a_seq_join (ι := Nat × Nat × Nat) (fun ⟨q1, x1, y1⟩ => True) (fun ⟨q1, x1, y1⟩ => [(9, .ptr q1 0)]) (fun ⟨q1, x1, y1⟩ => [(q1, .box [.own 1 x1 0 (a.rx ++ b.tx.take (kL b a)).length, .own 1 y1 0 (a.tx.drop (kL a b)).length, .int .i64 a.depth, .bool (decide (a.depth ≤ ((a.rx ++ b.tx.take (kL b a)).length : Int)))]), (x1, .arr 3 1 ((a.rx ++ b.tx.take (kL b a)).map eInt)), (y1, .arr 3 1 ((a.tx.drop (kL a b)).map eInt))]) (old := []) (by repeat (first | exact Picks.nil _ | exact Pick.here _ _ _ | apply Pick.next | apply Picks.cons)) ?_ ?_
      · skip
        refine a_draw [] (by kernel_rfl) ?_
        show ADraw _ _ _ _ _ _ 16 _ _ _ _
        refine d_load 0 rfl (by kernel_rfl) (by kernel_rfl) (by kernel_rfl) rfl (p_load_v_all ag_41 rfl (by rfl) noX) ?_
        refine d_take 1 rfl (by kernel_rfl) (by kernel_rfl) (by kernel_rfl) rfl (p_field_v fo_41_0 rfl) ?_
        refine d_load 2 rfl (by kernel_rfl) (by kernel_rfl) (by kernel_rfl) rfl (p_load_v ag_36 rfl (by rfl) noX) ?_
        refine d_take 4 rfl (by kernel_rfl) (by kernel_rfl) (by kernel_rfl) rfl (p_field_v fo_41_1 rfl) ?_
        refine d_load 5 rfl (by kernel_rfl) (by kernel_rfl) (by kernel_rfl) rfl (p_load_v ag_36 rfl (by rfl) noX) ?_
        refine d_take 6 rfl (by kernel_rfl) (by kernel_rfl) (by kernel_rfl) rfl (p_move rfl) ?_
        refine d_take 7 rfl (by kernel_rfl) (by kernel_rfl) (by kernel_rfl) rfl (p_slice_sl 0 (kL b a) es_36 rfl rfl (hi_some rfl (by simp only [List.length_map]; unfold kL; have h16a := (IsPort.rx ‹IsPort a›); have h16b := (IsPort.rx ‹IsPort b›); split <;> omega)) (Nat.zero_le _) (by rw [List.length_map]; (try unfold kP); (try unfold kL); omega) (lenAll _ _ (fun _ => rfl)) (show ((b.tx.map eInt).take (kL b a)).drop 0 = (b.tx.take (kL b a)).map eInt by rw [List.drop_zero, List.map_take])) ?_
        refine d_take 9 rfl (by kernel_rfl) (by kernel_rfl) (by kernel_rfl) rfl (p_field_v fo_41_1 rfl) ?_
        refine d_load 10 rfl (by kernel_rfl) (by kernel_rfl) (by kernel_rfl) rfl (p_load_v ag_36 rfl (by rfl) noX) ?_
        refine d_take 11 rfl (by kernel_rfl) (by kernel_rfl) (by kernel_rfl) rfl (p_move rfl) ?_
        refine d_take 12 rfl (by kernel_rfl) (by kernel_rfl) (by kernel_rfl) rfl (p_slice_sl (kL a b) _ es_36 rfl (lo_some rfl (by simp only [List.length_map]; unfold kL; have h16a := (IsPort.rx ‹IsPort a›); have h16b := (IsPort.rx ‹IsPort b›); split <;> omega)) rfl (by rw [List.length_map]; (try unfold kP); (try unfold kL); omega) (Nat.le_refl _) (lenAll _ _ (fun _ => rfl)) (show ((a.tx.map eInt).take (a.tx.map eInt).length).drop (kL a b) = (a.tx.drop (kL a b)).map eInt by rw [List.take_length, List.map_drop])) ?_
        refine draw_all [3, 14] (by kernel_rfl) (by simp) ?_
        refine all_cons rfl rfl ?_ ?_
        · skip
          refine w_call rfl rfl rfl cl_70 ((co_spec_l1Own _ (by first | omega | (simp only [List.length_append, List.length_cons, List.length_nil, List.length_take, List.length_drop]; omega) | (have q1 := IsPort.rx ‹IsPort p›; have q2 := IsPort.tx ‹IsPort p›; simp only [List.length_append, List.length_cons, List.length_nil, List.length_take, List.length_drop]; omega) | (have q1 := IsPort.rx ‹IsPort a›; have q2 := IsPort.rx ‹IsPort b›; simp only [kL, List.length_append, List.length_cons, List.length_nil, List.length_take, List.length_drop]; omega))).mono fun _ _ h => h.len) ?_
          rintro _ _ ⟨b3, rfl, rfl⟩
          refine draw_all [8, 14] (by kernel_rfl) (by simp) ?_
          refine all_cons rfl rfl ?_ ?_
          · skip
            refine w_appendM eInt rfl el_36 rfl rfl (by repeat (first | exact Pick.here _ _ _ | apply Pick.next)) rfl (.sl _) (fun _ => rfl) (fun _ => rfl) (by simp; omega) (by simp; omega) (by first | (refine .inl ?_; simp; done) | (refine .inr ?_; simp [keys]; done)) fun b4 => ?_
            refine draw_all [13, 14] (by kernel_rfl) (by simp) ?_
            refine all_cons rfl rfl ?_ ?_
            · skip
              refine w_callL rfl rfl rfl cl_67 (.cons (.refl _) (.cons (.own (by repeat (first | exact List.Mem.head _ | apply List.Mem.tail)) (by first | (simp; done) | (simp [mkL]; done))) (.cons (.refl _) .nil))) (co_spec_l16With _ _ _ (by first | omega | (simp only [List.length_append, List.length_cons, List.length_nil, List.length_take, List.length_drop]; omega) | (have q1 := IsPort.rx ‹IsPort p›; have q2 := IsPort.tx ‹IsPort p›; simp only [List.length_append, List.length_cons, List.length_nil, List.length_take, List.length_drop]; omega) | (have q1 := IsPort.rx ‹IsPort a›; have q2 := IsPort.rx ‹IsPort b›; simp only [kL, List.length_append, List.length_cons, List.length_nil, List.length_take, List.length_drop]; omega)) (by first | omega | (simp only [List.length_append, List.length_cons, List.length_nil, List.length_take, List.length_drop]; omega) | (have q1 := IsPort.rx ‹IsPort p›; have q2 := IsPort.tx ‹IsPort p›; simp only [List.length_append, List.length_cons, List.length_nil, List.length_take, List.length_drop]; omega) | (have q1 := IsPort.rx ‹IsPort a›; have q2 := IsPort.rx ‹IsPort b›; simp only [kL, List.length_append, List.length_cons, List.length_nil, List.length_take, List.length_drop]; omega))) ?_
              rintro _ _ ⟨b5, b6, rfl, rfl⟩
              refine ⟨(closed_agg (all_cons' (closed_own _ _ _ _) (all_cons' (closed_own _ _ _ _) (all_cons' (closed_int _ _) (all_cons' (closed_bool _) all_nil'))))), (closedS_cons (closedAll _ _ _ _ cl_eInt) (closedS_cons (closedAll _ _ _ _ cl_eInt) closedS_nil)), ?_⟩
              refine draw_all [14] (by kernel_rfl) (by simp) ?_
              refine all_cons rfl rfl ?_ ?_
              · skip
                refine w_alloc rfl z_41 fun b7 => ?_
                refine draw_all [15] (by kernel_rfl) (by simp) ?_
                refine all_cons rfl rfl ?_ ?_
                · skip
                  refine w_store (cells' := [_, _, _, _]) rfl rfl rfl (by repeat (first | exact Pick.here _ _ _ | apply Pick.next)) cn_41 (by rfl) (by rfl) (by rfl) (by first | (refine .inl ?_; simp; done) | (refine .inr ?_; simp [keys]; done)) ?_
                  refine draw_done (by kernel_rfl) ?_
                  exact ⟨⟨b7, b5, b6⟩, _, trivial, (by repeat (first | exact Knows.nil | refine Knows.cons (by rfl) ?_)), (by repeat (first | exact Back.refl _ _ | refine Back.cons (by rfl) ?_)), (by repeat (first | exact Picks.nil _ | exact Pick.here _ _ _ | apply Pick.next | apply Picks.cons))⟩
                exact all_nil
              exact all_nil
            refine all_cons rfl rfl ?_ ?_
            · skip
              refine w_alloc rfl z_41 fun b8 => ?_
              refine draw_all [13] (by kernel_rfl) (by simp) ?_
              refine all_cons rfl rfl ?_ ?_
              · skip
                refine w_callL rfl rfl rfl cl_67 (.cons (.refl _) (.cons (.own (by repeat (first | exact List.Mem.head _ | apply List.Mem.tail)) (by first | (simp; done) | (simp [mkL]; done))) (.cons (.refl _) .nil))) (co_spec_l16With _ _ _ (by first | omega | (simp only [List.length_append, List.length_cons, List.length_nil, List.length_take, List.length_drop]; omega) | (have q1 := IsPort.rx ‹IsPort p›; have q2 := IsPort.tx ‹IsPort p›; simp only [List.length_append, List.length_cons, List.length_nil, List.length_take, List.length_drop]; omega) | (have q1 := IsPort.rx ‹IsPort a›; have q2 := IsPort.rx ‹IsPort b›; simp only [kL, List.length_append, List.length_cons, List.length_nil, List.length_take, List.length_drop]; omega)) (by first | omega | (simp only [List.length_append, List.length_cons, List.length_nil, List.length_take, List.length_drop]; omega) | (have q1 := IsPort.rx ‹IsPort p›; have q2 := IsPort.tx ‹IsPort p›; simp only [List.length_append, List.length_cons, List.length_nil, List.length_take, List.length_drop]; omega) | (have q1 := IsPort.rx ‹IsPort a›; have q2 := IsPort.rx ‹IsPort b›; simp only [kL, List.length_append, List.length_cons, List.length_nil, List.length_take, List.length_drop]; omega))) ?_
                rintro _ _ ⟨b9, b10, rfl, rfl⟩
                refine ⟨(closed_agg (all_cons' (closed_own _ _ _ _) (all_cons' (closed_own _ _ _ _) (all_cons' (closed_int _ _) (all_cons' (closed_bool _) all_nil'))))), (closedS_cons (closedAll _ _ _ _ cl_eInt) (closedS_cons (closedAll _ _ _ _ cl_eInt) closedS_nil)), ?_⟩
                refine draw_all [15] (by kernel_rfl) (by simp) ?_
                refine all_cons rfl rfl ?_ ?_
                · skip
                  refine w_store (cells' := [_, _, _, _]) rfl rfl rfl (by repeat (first | exact Pick.here _ _ _ | apply Pick.next)) cn_41 (by rfl) (by rfl) (by rfl) (by first | (refine .inl ?_; simp; done) | (refine .inr ?_; simp [keys]; done)) ?_
                  refine draw_done (by kernel_rfl) ?_
                  exact ⟨⟨b8, b9, b10⟩, _, trivial, (by repeat (first | exact Knows.nil | refine Knows.cons (by rfl) ?_)), (by repeat (first | exact Back.refl _ _ | refine Back.cons (by rfl) ?_)), (by repeat (first | exact Picks.nil _ | exact Pick.here _ _ _ | apply Pick.next | apply Picks.cons))⟩
                exact all_nil
              exact all_nil
            exact all_nil
          refine all_cons rfl rfl ?_ ?_
          · skip
            refine w_alloc rfl z_41 fun b11 => ?_
            refine draw_all [8] (by kernel_rfl) (by simp) ?_
            refine all_cons rfl rfl ?_ ?_
            · skip
              refine w_appendM eInt rfl el_36 rfl rfl (by repeat (first | exact Pick.here _ _ _ | apply Pick.next)) rfl (.sl _) (fun _ => rfl) (fun _ => rfl) (by simp; omega) (by simp; omega) (by first | (refine .inl ?_; simp; done) | (refine .inr ?_; simp [keys]; done)) fun b12 => ?_
              refine draw_all [13] (by kernel_rfl) (by simp) ?_
              refine all_cons rfl rfl ?_ ?_
              · skip
                refine w_callL rfl rfl rfl cl_67 (.cons (.refl _) (.cons (.own (by repeat (first | exact List.Mem.head _ | apply List.Mem.tail)) (by first | (simp; done) | (simp [mkL]; done))) (.cons (.refl _) .nil))) (co_spec_l16With _ _ _ (by first | omega | (simp only [List.length_append, List.length_cons, List.length_nil, List.length_take, List.length_drop]; omega) | (have q1 := IsPort.rx ‹IsPort p›; have q2 := IsPort.tx ‹IsPort p›; simp only [List.length_append, List.length_cons, List.length_nil, List.length_take, List.length_drop]; omega) | (have q1 := IsPort.rx ‹IsPort a›; have q2 := IsPort.rx ‹IsPort b›; simp only [kL, List.length_append, List.length_cons, List.length_nil, List.length_take, List.length_drop]; omega)) (by first | omega | (simp only [List.length_append, List.length_cons, List.length_nil, List.length_take, List.length_drop]; omega) | (have q1 := IsPort.rx ‹IsPort p›; have q2 := IsPort.tx ‹IsPort p›; simp only [List.length_append, List.length_cons, List.length_nil, List.length_take, List.length_drop]; omega) | (have q1 := IsPort.rx ‹IsPort a›; have q2 := IsPort.rx ‹IsPort b›; simp only [kL, List.length_append, List.length_cons, List.length_nil, List.length_take, List.length_drop]; omega))) ?_
                rintro _ _ ⟨b13, b14, rfl, rfl⟩
                refine ⟨(closed_agg (all_cons' (closed_own _ _ _ _) (all_cons' (closed_own _ _ _ _) (all_cons' (closed_int _ _) (all_cons' (closed_bool _) all_nil'))))), (closedS_cons (closedAll _ _ _ _ cl_eInt) (closedS_cons (closedAll _ _ _ _ cl_eInt) closedS_nil)), ?_⟩
                refine draw_all [15] (by kernel_rfl) (by simp) ?_
                refine all_cons rfl rfl ?_ ?_
                · skip
                  refine w_store (cells' := [_, _, _, _]) rfl rfl rfl (by repeat (first | exact Pick.here _ _ _ | apply Pick.next)) cn_41 (by rfl) (by rfl) (by rfl) (by first | (refine .inl ?_; simp; done) | (refine .inr ?_; simp [keys]; done)) ?_
                  refine draw_done (by kernel_rfl) ?_
                  exact ⟨⟨b11, b13, b14⟩, _, trivial, (by repeat (first | exact Knows.nil | refine Knows.cons (by rfl) ?_)), (by repeat (first | exact Back.refl _ _ | refine Back.cons (by rfl) ?_)), (by repeat (first | exact Picks.nil _ | exact Pick.here _ _ _ | apply Pick.next | apply Picks.cons))⟩
                exact all_nil
              exact all_nil
            exact all_nil
          exact all_nil
        refine all_cons rfl rfl ?_ ?_
        · skip
          refine w_alloc rfl z_41 fun b15 => ?_
          refine draw_all [3] (by kernel_rfl) (by simp) ?_
          refine all_cons rfl rfl ?_ ?_
          · skip
            refine w_call rfl rfl rfl cl_70 ((co_spec_l1Own _ (by first | omega | (simp only [List.length_append, List.length_cons, List.length_nil, List.length_take, List.length_drop]; omega) | (have q1 := IsPort.rx ‹IsPort p›; have q2 := IsPort.tx ‹IsPort p›; simp only [List.length_append, List.length_cons, List.length_nil, List.length_take, List.length_drop]; omega) | (have q1 := IsPort.rx ‹IsPort a›; have q2 := IsPort.rx ‹IsPort b›; simp only [kL, List.length_append, List.length_cons, List.length_nil, List.length_take, List.length_drop]; omega))).mono fun _ _ h => h.len) ?_
            rintro _ _ ⟨b16, rfl, rfl⟩
            refine draw_all [8] (by kernel_rfl) (by simp) ?_
            refine all_cons rfl rfl ?_ ?_
            · skip
              refine w_appendM eInt rfl el_36 rfl rfl (by repeat (first | exact Pick.here _ _ _ | apply Pick.next)) rfl (.sl _) (fun _ => rfl) (fun _ => rfl) (by simp; omega) (by simp; omega) (by first | (refine .inl ?_; simp; done) | (refine .inr ?_; simp [keys]; done)) fun b17 => ?_
              refine draw_all [13] (by kernel_rfl) (by simp) ?_
              refine all_cons rfl rfl ?_ ?_
              · skip
                refine w_callL rfl rfl rfl cl_67 (.cons (.refl _) (.cons (.own (by repeat (first | exact List.Mem.head _ | apply List.Mem.tail)) (by first | (simp; done) | (simp [mkL]; done))) (.cons (.refl _) .nil))) (co_spec_l16With _ _ _ (by first | omega | (simp only [List.length_append, List.length_cons, List.length_nil, List.length_take, List.length_drop]; omega) | (have q1 := IsPort.rx ‹IsPort p›; have q2 := IsPort.tx ‹IsPort p›; simp only [List.length_append, List.length_cons, List.length_nil, List.length_take, List.length_drop]; omega) | (have q1 := IsPort.rx ‹IsPort a›; have q2 := IsPort.rx ‹IsPort b›; simp only [kL, List.length_append, List.length_cons, List.length_nil, List.length_take, List.length_drop]; omega)) (by first | omega | (simp only [List.length_append, List.length_cons, List.length_nil, List.length_take, List.length_drop]; omega) | (have q1 := IsPort.rx ‹IsPort p›; have q2 := IsPort.tx ‹IsPort p›; simp only [List.length_append, List.length_cons, List.length_nil, List.length_take, List.length_drop]; omega) | (have q1 := IsPort.rx ‹IsPort a›; have q2 := IsPort.rx ‹IsPort b›; simp only [kL, List.length_append, List.length_cons, List.length_nil, List.length_take, List.length_drop]; omega))) ?_
                rintro _ _ ⟨b18, b19, rfl, rfl⟩
                refine ⟨(closed_agg (all_cons' (closed_own _ _ _ _) (all_cons' (closed_own _ _ _ _) (all_cons' (closed_int _ _) (all_cons' (closed_bool _) all_nil'))))), (closedS_cons (closedAll _ _ _ _ cl_eInt) (closedS_cons (closedAll _ _ _ _ cl_eInt) closedS_nil)), ?_⟩
                refine draw_all [15] (by kernel_rfl) (by simp) ?_
                refine all_cons rfl rfl ?_ ?_
                · skip
                  refine w_store (cells' := [_, _, _, _]) rfl rfl rfl (by repeat (first | exact Pick.here _ _ _ | apply Pick.next)) cn_41 (by rfl) (by rfl) (by rfl) (by first | (refine .inl ?_; simp; done) | (refine .inr ?_; simp [keys]; done)) ?_
                  refine draw_done (by kernel_rfl) ?_
                  exact ⟨⟨b15, b18, b19⟩, _, trivial, (by repeat (first | exact Knows.nil | refine Knows.cons (by rfl) ?_)), (by repeat (first | exact Back.refl _ _ | refine Back.cons (by rfl) ?_)), (by repeat (first | exact Picks.nil _ | exact Pick.here _ _ _ | apply Pick.next | apply Picks.cons))⟩
                exact all_nil
              exact all_nil
            exact all_nil
          exact all_nil
        exact all_nil
      · rintro ⟨q1, x1, y1⟩ -
        refine a_seq_join (ι := Nat × Nat × Nat) (fun ⟨q2, x2, y2⟩ => True) (fun ⟨q2, x2, y2⟩ => [(10, .ptr q2 0)]) (fun ⟨q2, x2, y2⟩ => [(q2, .box [.own 1 x2 0 (b.rx ++ a.tx.take (kL a b)).length, .own 1 y2 0 (b.tx.drop (kL b a)).length, .int .i64 b.depth, .bool (decide (b.depth ≤ ((b.rx ++ a.tx.take (kL a b)).length : Int)))]), (x2, .arr 3 1 ((b.rx ++ a.tx.take (kL a b)).map eInt)), (y2, .arr 3 1 ((b.tx.drop (kL b a)).map eInt))]) (old := []) (by repeat (first | exact Picks.nil _ | exact Pick.here _ _ _ | apply Pick.next | apply Picks.cons)) ?_ ?_
        · skip
          refine a_draw [] (by kernel_rfl) ?_
          show ADraw _ _ _ _ _ _ 16 _ _ _ _
          refine d_load 0 rfl (by kernel_rfl) (by kernel_rfl) (by kernel_rfl) rfl (p_load_v_all ag_41 rfl (by rfl) noX) ?_
          refine d_take 1 rfl (by kernel_rfl) (by kernel_rfl) (by kernel_rfl) rfl (p_field_v fo_41_0 rfl) ?_
          refine d_load 2 rfl (by kernel_rfl) (by kernel_rfl) (by kernel_rfl) rfl (p_load_v ag_36 rfl (by rfl) noX) ?_
          refine d_take 4 rfl (by kernel_rfl) (by kernel_rfl) (by kernel_rfl) rfl (p_field_v fo_41_1 rfl) ?_
          refine d_load 5 rfl (by kernel_rfl) (by kernel_rfl) (by kernel_rfl) rfl (p_load_v ag_36 rfl (by rfl) noX) ?_
          refine d_take 6 rfl (by kernel_rfl) (by kernel_rfl) (by kernel_rfl) rfl (p_move rfl) ?_
          refine d_take 7 rfl (by kernel_rfl) (by kernel_rfl) (by kernel_rfl) rfl (p_slice_sl 0 (kL a b) es_36 rfl rfl (hi_some rfl (by simp only [List.length_map]; unfold kL; have h16a := (IsPort.rx ‹IsPort a›); have h16b := (IsPort.rx ‹IsPort b›); split <;> omega)) (Nat.zero_le _) (by rw [List.length_map]; (try unfold kP); (try unfold kL); omega) (lenAll _ _ (fun _ => rfl)) (show ((a.tx.map eInt).take (kL a b)).drop 0 = (a.tx.take (kL a b)).map eInt by rw [List.drop_zero, List.map_take])) ?_
          refine d_take 9 rfl (by kernel_rfl) (by kernel_rfl) (by kernel_rfl) rfl (p_field_v fo_41_1 rfl) ?_
          refine d_load 10 rfl (by kernel_rfl) (by kernel_rfl) (by kernel_rfl) rfl (p_load_v ag_36 rfl (by rfl) noX) ?_
          refine d_take 11 rfl (by kernel_rfl) (by kernel_rfl) (by kernel_rfl) rfl (p_move rfl) ?_
          refine d_take 12 rfl (by kernel_rfl) (by kernel_rfl) (by kernel_rfl) rfl (p_slice_sl (kL b a) _ es_36 rfl (lo_some rfl (by simp only [List.length_map]; unfold kL; have h16a := (IsPort.rx ‹IsPort a›); have h16b := (IsPort.rx ‹IsPort b›); split <;> omega)) rfl (by rw [List.length_map]; (try unfold kP); (try unfold kL); omega) (Nat.le_refl _) (lenAll _ _ (fun _ => rfl)) (show ((b.tx.map eInt).take (b.tx.map eInt).length).drop (kL b a) = (b.tx.drop (kL b a)).map eInt by rw [List.take_length, List.map_drop])) ?_
          refine draw_all [3, 14] (by kernel_rfl) (by simp) ?_
          refine all_cons rfl rfl ?_ ?_
          · skip
            refine w_call rfl rfl rfl cl_70 ((co_spec_l1Own _ (by first | omega | (simp only [List.length_append, List.length_cons, List.length_nil, List.length_take, List.length_drop]; omega) | (have q1 := IsPort.rx ‹IsPort p›; have q2 := IsPort.tx ‹IsPort p›; simp only [List.length_append, List.length_cons, List.length_nil, List.length_take, List.length_drop]; omega) | (have q1 := IsPort.rx ‹IsPort a›; have q2 := IsPort.rx ‹IsPort b›; simp only [kL, List.length_append, List.length_cons, List.length_nil, List.length_take, List.length_drop]; omega))).mono fun _ _ h => h.len) ?_
            rintro _ _ ⟨b20, rfl, rfl⟩
            refine draw_all [8, 14] (by kernel_rfl) (by simp) ?_
            refine all_cons rfl rfl ?_ ?_
            · skip
              refine w_appendM eInt rfl el_36 rfl rfl (by repeat (first | exact Pick.here _ _ _ | apply Pick.next)) rfl (.sl _) (fun _ => rfl) (fun _ => rfl) (by simp; omega) (by simp; omega) (by first | (refine .inl ?_; simp; done) | (refine .inr ?_; simp [keys]; done)) fun b21 => ?_
              refine draw_all [13, 14] (by kernel_rfl) (by simp) ?_
              refine all_cons rfl rfl ?_ ?_
              · skip
                refine w_callL rfl rfl rfl cl_67 (.cons (.refl _) (.cons (.own (by repeat (first | exact List.Mem.head _ | apply List.Mem.tail)) (by first | (simp; done) | (simp [mkL]; done))) (.cons (.refl _) .nil))) (co_spec_l16With _ _ _ (by first | omega | (simp only [List.length_append, List.length_cons, List.length_nil, List.length_take, List.length_drop]; omega) | (have q1 := IsPort.rx ‹IsPort p›; have q2 := IsPort.tx ‹IsPort p›; simp only [List.length_append, List.length_cons, List.length_nil, List.length_take, List.length_drop]; omega) | (have q1 := IsPort.rx ‹IsPort a›; have q2 := IsPort.rx ‹IsPort b›; simp only [kL, List.length_append, List.length_cons, List.length_nil, List.length_take, List.length_drop]; omega)) (by first | omega | (simp only [List.length_append, List.length_cons, List.length_nil, List.length_take, List.length_drop]; omega) | (have q1 := IsPort.rx ‹IsPort p›; have q2 := IsPort.tx ‹IsPort p›; simp only [List.length_append, List.length_cons, List.length_nil, List.length_take, List.length_drop]; omega) | (have q1 := IsPort.rx ‹IsPort a›; have q2 := IsPort.rx ‹IsPort b›; simp only [kL, List.length_append, List.length_cons, List.length_nil, List.length_take, List.length_drop]; omega))) ?_
                rintro _ _ ⟨b22, b23, rfl, rfl⟩
                refine ⟨(closed_agg (all_cons' (closed_own _ _ _ _) (all_cons' (closed_own _ _ _ _) (all_cons' (closed_int _ _) (all_cons' (closed_bool _) all_nil'))))), (closedS_cons (closedAll _ _ _ _ cl_eInt) (closedS_cons (closedAll _ _ _ _ cl_eInt) closedS_nil)), ?_⟩
                refine draw_all [14] (by kernel_rfl) (by simp) ?_
                refine all_cons rfl rfl ?_ ?_
                · skip
                  refine w_alloc rfl z_41 fun b24 => ?_
                  refine draw_all [15] (by kernel_rfl) (by simp) ?_
                  refine all_cons rfl rfl ?_ ?_
                  · skip
                    refine w_store (cells' := [_, _, _, _]) rfl rfl rfl (by repeat (first | exact Pick.here _ _ _ | apply Pick.next)) cn_41 (by rfl) (by rfl) (by rfl) (by first | (refine .inl ?_; simp; done) | (refine .inr ?_; simp [keys]; done)) ?_
                    refine draw_done (by kernel_rfl) ?_
                    exact ⟨⟨b24, b22, b23⟩, _, trivial, (by repeat (first | exact Knows.nil | refine Knows.cons (by rfl) ?_)), (by repeat (first | exact Back.refl _ _ | refine Back.cons (by rfl) ?_)), (by repeat (first | exact Picks.nil _ | exact Pick.here _ _ _ | apply Pick.next | apply Picks.cons))⟩
                  exact all_nil
                exact all_nil
              refine all_cons rfl rfl ?_ ?_
              · skip
                refine w_alloc rfl z_41 fun b25 => ?_
                refine draw_all [13] (by kernel_rfl) (by simp) ?_
                refine all_cons rfl rfl ?_ ?_
                · skip
                  refine w_callL rfl rfl rfl cl_67 (.cons (.refl _) (.cons (.own (by repeat (first | exact List.Mem.head _ | apply List.Mem.tail)) (by first | (simp; done) | (simp [mkL]; done))) (.cons (.refl _) .nil))) (co_spec_l16With _ _ _ (by first | omega | (simp only [List.length_append, List.length_cons, List.length_nil, List.length_take, List.length_drop]; omega) | (have q1 := IsPort.rx ‹IsPort p›; have q2 := IsPort.tx ‹IsPort p›; simp only [List.length_append, List.length_cons, List.length_nil, List.length_take, List.length_drop]; omega) | (have q1 := IsPort.rx ‹IsPort a›; have q2 := IsPort.rx ‹IsPort b›; simp only [kL, List.length_append, List.length_cons, List.length_nil, List.length_take, List.length_drop]; omega)) (by first | omega | (simp only [List.length_append, List.length_cons, List.length_nil, List.length_take, List.length_drop]; omega) | (have q1 := IsPort.rx ‹IsPort p›; have q2 := IsPort.tx ‹IsPort p›; simp only [List.length_append, List.length_cons, List.length_nil, List.length_take, List.length_drop]; omega) | (have q1 := IsPort.rx ‹IsPort a›; have q2 := IsPort.rx ‹IsPort b›; simp only [kL, List.length_append, List.length_cons, List.length_nil, List.length_take, List.length_drop]; omega))) ?_
                  rintro _ _ ⟨b26, b27, rfl, rfl⟩
                  refine ⟨(closed_agg (all_cons' (closed_own _ _ _ _) (all_cons' (closed_own _ _ _ _) (all_cons' (closed_int _ _) (all_cons' (closed_bool _) all_nil'))))), (closedS_cons (closedAll _ _ _ _ cl_eInt) (closedS_cons (closedAll _ _ _ _ cl_eInt) closedS_nil)), ?_⟩
                  refine draw_all [15] (by kernel_rfl) (by simp) ?_
                  refine all_cons rfl rfl ?_ ?_
                  · skip
                    refine w_store (cells' := [_, _, _, _]) rfl rfl rfl (by repeat (first | exact Pick.here _ _ _ | apply Pick.next)) cn_41 (by rfl) (by rfl) (by rfl) (by first | (refine .inl ?_; simp; done) | (refine .inr ?_; simp [keys]; done)) ?_
                    refine draw_done (by kernel_rfl) ?_
                    exact ⟨⟨b25, b26, b27⟩, _, trivial, (by repeat (first | exact Knows.nil | refine Knows.cons (by rfl) ?_)), (by repeat (first | exact Back.refl _ _ | refine Back.cons (by rfl) ?_)), (by repeat (first | exact Picks.nil _ | exact Pick.here _ _ _ | apply Pick.next | apply Picks.cons))⟩
                  exact all_nil
                exact all_nil
              exact all_nil
            refine all_cons rfl rfl ?_ ?_
            · skip
              refine w_alloc rfl z_41 fun b28 => ?_
              refine draw_all [8] (by kernel_rfl) (by simp) ?_
              refine all_cons rfl rfl ?_ ?_
              · skip
                refine w_appendM eInt rfl el_36 rfl rfl (by repeat (first | exact Pick.here _ _ _ | apply Pick.next)) rfl (.sl _) (fun _ => rfl) (fun _ => rfl) (by simp; omega) (by simp; omega) (by first | (refine .inl ?_; simp; done) | (refine .inr ?_; simp [keys]; done)) fun b29 => ?_
                refine draw_all [13] (by kernel_rfl) (by simp) ?_
                refine all_cons rfl rfl ?_ ?_
                · skip
                  refine w_callL rfl rfl rfl cl_67 (.cons (.refl _) (.cons (.own (by repeat (first | exact List.Mem.head _ | apply List.Mem.tail)) (by first | (simp; done) | (simp [mkL]; done))) (.cons (.refl _) .nil))) (co_spec_l16With _ _ _ (by first | omega | (simp only [List.length_append, List.length_cons, List.length_nil, List.length_take, List.length_drop]; omega) | (have q1 := IsPort.rx ‹IsPort p›; have q2 := IsPort.tx ‹IsPort p›; simp only [List.length_append, List.length_cons, List.length_nil, List.length_take, List.length_drop]; omega) | (have q1 := IsPort.rx ‹IsPort a›; have q2 := IsPort.rx ‹IsPort b›; simp only [kL, List.length_append, List.length_cons, List.length_nil, List.length_take, List.length_drop]; omega)) (by first | omega | (simp only [List.length_append, List.length_cons, List.length_nil, List.length_take, List.length_drop]; omega) | (have q1 := IsPort.rx ‹IsPort p›; have q2 := IsPort.tx ‹IsPort p›; simp only [List.length_append, List.length_cons, List.length_nil, List.length_take, List.length_drop]; omega) | (have q1 := IsPort.rx ‹IsPort a›; have q2 := IsPort.rx ‹IsPort b›; simp only [kL, List.length_append, List.length_cons, List.length_nil, List.length_take, List.length_drop]; omega))) ?_
                  rintro _ _ ⟨b30, b31, rfl, rfl⟩
                  refine ⟨(closed_agg (all_cons' (closed_own _ _ _ _) (all_cons' (closed_own _ _ _ _) (all_cons' (closed_int _ _) (all_cons' (closed_bool _) all_nil'))))), (closedS_cons (closedAll _ _ _ _ cl_eInt) (closedS_cons (closedAll _ _ _ _ cl_eInt) closedS_nil)), ?_⟩
                  refine draw_all [15] (by kernel_rfl) (by simp) ?_
                  refine all_cons rfl rfl ?_ ?_
                  · skip
                    refine w_store (cells' := [_, _, _, _]) rfl rfl rfl (by repeat (first | exact Pick.here _ _ _ | apply Pick.next)) cn_41 (by rfl) (by rfl) (by rfl) (by first | (refine .inl ?_; simp; done) | (refine .inr ?_; simp [keys]; done)) ?_
                    refine draw_done (by kernel_rfl) ?_
                    exact ⟨⟨b28, b30, b31⟩, _, trivial, (by repeat (first | exact Knows.nil | refine Knows.cons (by rfl) ?_)), (by repeat (first | exact Back.refl _ _ | refine Back.cons (by rfl) ?_)), (by repeat (first | exact Picks.nil _ | exact Pick.here _ _ _ | apply Pick.next | apply Picks.cons))⟩
                  exact all_nil
                exact all_nil
              exact all_nil
            exact all_nil
          refine all_cons rfl rfl ?_ ?_
          · skip
            refine w_alloc rfl z_41 fun b32 => ?_
            refine draw_all [3] (by kernel_rfl) (by simp) ?_
            refine all_cons rfl rfl ?_ ?_
            · skip
              refine w_call rfl rfl rfl cl_70 ((co_spec_l1Own _ (by first | omega | (simp only [List.length_append, List.length_cons, List.length_nil, List.length_take, List.length_drop]; omega) | (have q1 := IsPort.rx ‹IsPort p›; have q2 := IsPort.tx ‹IsPort p›; simp only [List.length_append, List.length_cons, List.length_nil, List.length_take, List.length_drop]; omega) | (have q1 := IsPort.rx ‹IsPort a›; have q2 := IsPort.rx ‹IsPort b›; simp only [kL, List.length_append, List.length_cons, List.length_nil, List.length_take, List.length_drop]; omega))).mono fun _ _ h => h.len) ?_
              rintro _ _ ⟨b33, rfl, rfl⟩
              refine draw_all [8] (by kernel_rfl) (by simp) ?_
              refine all_cons rfl rfl ?_ ?_
              · skip
                refine w_appendM eInt rfl el_36 rfl rfl (by repeat (first | exact Pick.here _ _ _ | apply Pick.next)) rfl (.sl _) (fun _ => rfl) (fun _ => rfl) (by simp; omega) (by simp; omega) (by first | (refine .inl ?_; simp; done) | (refine .inr ?_; simp [keys]; done)) fun b34 => ?_
                refine draw_all [13] (by kernel_rfl) (by simp) ?_
                refine all_cons rfl rfl ?_ ?_
                · skip
                  refine w_callL rfl rfl rfl cl_67 (.cons (.refl _) (.cons (.own (by repeat (first | exact List.Mem.head _ | apply List.Mem.tail)) (by first | (simp; done) | (simp [mkL]; done))) (.cons (.refl _) .nil))) (co_spec_l16With _ _ _ (by first | omega | (simp only [List.length_append, List.length_cons, List.length_nil, List.length_take, List.length_drop]; omega) | (have q1 := IsPort.rx ‹IsPort p›; have q2 := IsPort.tx ‹IsPort p›; simp only [List.length_append, List.length_cons, List.length_nil, List.length_take, List.length_drop]; omega) | (have q1 := IsPort.rx ‹IsPort a›; have q2 := IsPort.rx ‹IsPort b›; simp only [kL, List.length_append, List.length_cons, List.length_nil, List.length_take, List.length_drop]; omega)) (by first | omega | (simp only [List.length_append, List.length_cons, List.length_nil, List.length_take, List.length_drop]; omega) | (have q1 := IsPort.rx ‹IsPort p›; have q2 := IsPort.tx ‹IsPort p›; simp only [List.length_append, List.length_cons, List.length_nil, List.length_take, List.length_drop]; omega) | (have q1 := IsPort.rx ‹IsPort a›; have q2 := IsPort.rx ‹IsPort b›; simp only [kL, List.length_append, List.length_cons, List.length_nil, List.length_take, List.length_drop]; omega))) ?_
                  rintro _ _ ⟨b35, b36, rfl, rfl⟩
                  refine ⟨(closed_agg (all_cons' (closed_own _ _ _ _) (all_cons' (closed_own _ _ _ _) (all_cons' (closed_int _ _) (all_cons' (closed_bool _) all_nil'))))), (closedS_cons (closedAll _ _ _ _ cl_eInt) (closedS_cons (closedAll _ _ _ _ cl_eInt) closedS_nil)), ?_⟩
                  refine draw_all [15] (by kernel_rfl) (by simp) ?_
                  refine all_cons rfl rfl ?_ ?_
                  · skip
                    refine w_store (cells' := [_, _, _, _]) rfl rfl rfl (by repeat (first | exact Pick.here _ _ _ | apply Pick.next)) cn_41 (by rfl) (by rfl) (by rfl) (by first | (refine .inl ?_; simp; done) | (refine .inr ?_; simp [keys]; done)) ?_
                    refine draw_done (by kernel_rfl) ?_
                    exact ⟨⟨b32, b35, b36⟩, _, trivial, (by repeat (first | exact Knows.nil | refine Knows.cons (by rfl) ?_)), (by repeat (first | exact Back.refl _ _ | refine Back.cons (by rfl) ?_)), (by repeat (first | exact Picks.nil _ | exact Pick.here _ _ _ | apply Pick.next | apply Picks.cons))⟩
                  exact all_nil
                exact all_nil
              exact all_nil
            exact all_nil
          exact all_nil
        · rintro ⟨q2, x2, y2⟩ -
          refine a_seq ?_
          refine a_draw [b1, b2] (by kernel_rfl) ?_
          show ADraw _ _ _ _ _ _ 5 _ _ _ _
          refine d_load 0 rfl (by kernel_rfl) (by kernel_rfl) (by kernel_rfl) rfl (p_load_box_all ag_41 rfl (by repeat (first | exact Pick.here _ _ _ | apply Pick.next)) (by rfl) (by simp [keys])) ?_
          refine d_load 1 rfl (by kernel_rfl) (by kernel_rfl) (by kernel_rfl) rfl (p_load_box_all ag_41 rfl (by repeat (first | exact Pick.here _ _ _ | apply Pick.next)) (by rfl) (by simp [keys])) ?_
          refine draw_all [2] (by kernel_rfl) (by simp) ?_
          refine all_cons rfl rfl ?_ ?_
          · skip
            refine w_store (cells' := [_, _, _, _]) rfl rfl rfl (by repeat (first | exact Pick.here _ _ _ | apply Pick.next)) cn_41 (by rfl) (by rfl) (by rfl) (by first | (refine .inl ?_; simp; done) | (refine .inr ?_; simp [keys]; done)) ?_
            refine draw_all [3] (by kernel_rfl) (by simp) ?_
            refine all_cons rfl rfl ?_ ?_
            · skip
              refine w_store (cells' := [_, _, _, _]) rfl rfl rfl (by repeat (first | exact Pick.here _ _ _ | apply Pick.next)) cn_41 (by rfl) (by rfl) (by rfl) (by first | (refine .inl ?_; simp; done) | (refine .inr ?_; simp [keys]; done)) ?_
              refine d_take 4 rfl (by kernel_rfl) (by kernel_rfl) (by kernel_rfl) rfl (p_assign rfl) ?_
              refine draw_done (by kernel_rfl) ?_
              refine a_ret ?_
              refine ret_ok (hands3 rfl (.cell ag_41 rfl (by repeat (first | exact Pick.here _ _ _ | apply Pick.next)) (by rfl)) (.cell ag_41 rfl (by repeat (first | exact Pick.here _ _ _ | apply Pick.next)) (by rfl)) (.tmp rfl)) (st' := [(x1, _), (y1, _), (x2, _), (y2, _)]) (.cons (by repeat (first | exact Pick.here _ _ _ | apply Pick.next)) (.cons (by repeat (first | exact Pick.here _ _ _ | apply Pick.next)) (.cons (by repeat (first | exact Pick.here _ _ _ | apply Pick.next)) (.cons (by repeat (first | exact Pick.here _ _ _ | apply Pick.next)) (.nil _))))) ?_
              first | exact ⟨_, _, _, _, rfl, rfl⟩ | exact absurd hA.1 (by assumption) | exact absurd hA.2 (by assumption)
            exact all_nil
          exact all_nil

theorem cy_spec_LoopPorts (a b : Port) (hn : SmallPort a) (hm : SmallPort b) (hA : GoodLoop a b) : ACalls Try.prog 47 [.agg (ePort a), .agg (ePort b)] [] (Ret (.tup [.agg (ePort (loopP a b)), .agg (ePort (loopP b a)), .bool true])) :=
  (co_spec_LoopPorts a b hn hm hA).freeze (by rintro _ _ ⟨_, _, _, _, rfl, rfl⟩; exact (.tup (.cons (.agg (.cons (.own (by repeat (first | exact List.Mem.head _ | apply List.Mem.tail)) (List.length_map _)) (.cons (.own (by repeat (first | exact List.Mem.head _ | apply List.Mem.tail)) (List.length_map _)) (.cons (.refl _) (.cons (.refl _) .nil))))) (.cons (.agg (.cons (.own (by repeat (first | exact List.Mem.head _ | apply List.Mem.tail)) (List.length_map _)) (.cons (.own (by repeat (first | exact List.Mem.head _ | apply List.Mem.tail)) (List.length_map _)) (.cons (.refl _) (.cons (.refl _) .nil))))) (.cons (.refl _) .nil)))))

theorem cn_spec_LoopPorts (a b : Port) (hn : SmallPort a) (hm : SmallPort b) (hA : ¬ GoodLoop a b) : ACalls Try.prog 47 [.agg (ePort a), .agg (ePort b)] [] (Ret (.tup [.agg [.nil, .nil, .int .i64 0, .bool false], .agg [.nil, .nil, .int .i64 0, .bool false], .bool false])) := by
  have hn1 : a.rx.length ≤ 1048576 := hn.1
  have hn2 : a.tx.length ≤ 1048576 := hn.2
  have hm1 : b.rx.length ≤ 1048576 := hm.1
  have hm2 : b.tx.length ≤ 1048576 := hm.2
  refine a_enter Try.func47 rfl rfl (fun w0 M0 => ?_)
  refine a_seq ?_
  refine a_region ?_
  refine aops_cons rfl (w_box_v rfl rfl rfl ?_)
  refine aops_cons rfl (w_box_v rfl rfl rfl ?_)
  refine aops_cons rfl (w_alloc rfl z_41 fun b1 => ?_)
  refine aops_cons rfl (w_alloc rfl z_41 fun b2 => ?_)
  refine aops_cons rfl (w_pure rfl (p_assign rfl) ?_)
  refine aops_nil ?_
  refine a_seq ?_
  refine a_seq ?_
  refine a_region ?_
  refine aops_cons rfl (w_pure rfl (p_load_v_all ag_41 rfl (by rfl) noX) ?_)
  refine aops_cons rfl (w_callR rfl rfl rfl cl_60 (c_spec_l16Port _ ‹_›) ?_)
  refine aops_cons rfl (w_pure rfl (p_not rfl) ?_)
  refine aops_cons rfl (w_pure rfl (p_move rfl) ?_)
  first | refine aops_split_d 14 rfl (fun h1 => ?_) (fun h2 => ?_) | refine aops_split 14 rfl (fun h1 => ?_) (fun h2 => ?_)
  · (try simp only [Bool.not_eq_true', Bool.not_eq_false', Bool.not_eq_true, Bool.not_eq_false, decide_eq_true_eq, decide_eq_false_iff_not, List.length_map, List.length_range] at h1)
    refine g_pass' rfl rfl rfl rfl rfl ?_
    refine g_pass' rfl rfl rfl rfl rfl ?_
    refine g_pass' rfl rfl rfl rfl rfl ?_
    refine aops_cons rfl (w_pure rfl (p_pick_t rfl rfl) ?_)
    refine aops_nil ?_
    refine a_cond_t rfl ?_
    refine a_seq ?_
    refine a_region ?_
    refine aops_cons rfl (w_pure rfl (p_build (cells := [_, _, _, _]) z_41 pl_41 rfl rfl) ?_)
    refine aops_cons rfl (w_pure rfl (p_build (cells := [_, _, _, _]) z_41 pl_41 rfl rfl) ?_)
    refine aops_cons rfl (w_store (cells' := [_, _, _, _]) rfl rfl rfl (by repeat (first | exact Pick.here _ _ _ | apply Pick.next)) cn_41 (by rfl) (by rfl) (by rfl) trivial ?_)
    refine aops_cons rfl (w_store (cells' := [_, _, _, _]) rfl rfl rfl (by repeat (first | exact Pick.here _ _ _ | apply Pick.next)) cn_41 (by rfl) (by rfl) (by rfl) trivial ?_)
    refine aops_cons rfl (w_pure rfl (p_assign rfl) ?_)
    refine aops_nil ?_
    refine a_ret ?_
    refine ret_ok (hands3 rfl (.cell ag_41 rfl (by repeat (first | exact Pick.here _ _ _ | apply Pick.next)) (by rfl)) (.cell ag_41 rfl (by repeat (first | exact Pick.here _ _ _ | apply Pick.next)) (by rfl)) (.tmp rfl)) (.nil _) ?_
    first | exact ⟨rfl, rfl⟩ | exact absurd (show GoodLoop a b from ⟨by assumption, by omega, by omega⟩) hA | exact absurd (show GoodLoop a b from ⟨by assumption, by omega⟩) hA | exact absurd (show GoodLoop a b from ⟨by assumption, by assumption⟩) hA
  · (try simp only [Bool.not_eq_true', Bool.not_eq_false', Bool.not_eq_true, Bool.not_eq_false, decide_eq_true_eq, decide_eq_false_iff_not, List.length_map, List.length_range] at h2)
    refine aops_guard_t rfl rfl rfl (w_pure rfl (p_load_v_all ag_41 rfl (by rfl) noX) ?_)
    refine aops_guard_t rfl rfl rfl (w_callR rfl rfl rfl cl_60 (c_spec_l16Port _ ‹_›) ?_)
    refine aops_guard_t rfl rfl rfl (w_pure rfl (p_not rfl) ?_)
    refine aops_cons rfl (w_pure rfl (p_pick_f rfl rfl) ?_)
    refine aops_nil ?_
    first | refine a_cond_d rfl (fun h3 => ?_) (fun h4 => ?_) | refine a_cond_n rfl (fun h3 => ?_) (fun h4 => ?_) | refine a_cond_nb rfl (fun h3 => ?_) (fun h4 => ?_) | refine a_cond rfl (fun h3 => ?_) (fun h4 => ?_)
    · (try simp only [Bool.not_eq_true', Bool.not_eq_false', Bool.not_eq_true, Bool.not_eq_false, decide_eq_true_eq, decide_eq_false_iff_not, List.length_map, List.length_range] at h3)
      refine a_seq ?_
      refine a_region ?_
      refine aops_cons rfl (w_pure rfl (p_build (cells := [_, _, _, _]) z_41 pl_41 rfl rfl) ?_)
      refine aops_cons rfl (w_pure rfl (p_build (cells := [_, _, _, _]) z_41 pl_41 rfl rfl) ?_)
      refine aops_cons rfl (w_store (cells' := [_, _, _, _]) rfl rfl rfl (by repeat (first | exact Pick.here _ _ _ | apply Pick.next)) cn_41 (by rfl) (by rfl) (by rfl) trivial ?_)
      refine aops_cons rfl (w_store (cells' := [_, _, _, _]) rfl rfl rfl (by repeat (first | exact Pick.here _ _ _ | apply Pick.next)) cn_41 (by rfl) (by rfl) (by rfl) trivial ?_)
      refine aops_cons rfl (w_pure rfl (p_assign rfl) ?_)
      refine aops_nil ?_
      refine a_ret ?_
      refine ret_ok (hands3 rfl (.cell ag_41 rfl (by repeat (first | exact Pick.here _ _ _ | apply Pick.next)) (by rfl)) (.cell ag_41 rfl (by repeat (first | exact Pick.here _ _ _ | apply Pick.next)) (by rfl)) (.tmp rfl)) (.nil _) ?_
      first | exact ⟨rfl, rfl⟩ | exact absurd (show GoodLoop a b from ⟨by assumption, by omega, by omega⟩) hA | exact absurd (show GoodLoop a b from ⟨by assumption, by omega⟩) hA | exact absurd (show GoodLoop a b from ⟨by assumption, by assumption⟩) hA
    · (try simp only [Bool.not_eq_true', Bool.not_eq_false', Bool.not_eq_true, Bool.not_eq_false, decide_eq_true_eq, decide_eq_false_iff_not, List.length_map, List.length_range] at h4)
      refine a_skip ?_
      refine a_seq ?_
      refine a_region ?_
      refine aops_cons rfl (w_pure rfl (p_field_v fo_41_1 rfl) ?_)
      refine aops_cons rfl (w_pure rfl (p_load_v ag_36 rfl (by rfl) noX) ?_)
      refine aops_cons rfl (w_pure rfl (p_len sl_36 rfl rfl) ?_)
      refine aops_cons rfl (w_pure rfl (p_field_v fo_41_0 rfl) ?_)
      refine aops_cons rfl (w_pure rfl (p_load_v ag_36 rfl (by rfl) noX) ?_)
      refine aops_cons rfl (w_pure rfl (p_len sl_36 rfl rfl) ?_)
      refine aops_cons rfl (w_pure rfl (p_sub' rfl rfl ⟨by simp only [List.length_map]; omega, by simp only [List.length_map]; omega⟩) ?_)
      refine aops_cons rfl (w_callR rfl rfl rfl cl_72 (c_spec_l1Least _ _) ?_)
      refine aops_cons rfl (w_pure rfl (p_assign rfl) ?_)
      refine aops_nil ?_
      refine a_seq ?_
      refine a_region ?_
      refine aops_cons rfl (w_pure rfl (p_field_v fo_41_1 rfl) ?_)
      refine aops_cons rfl (w_pure rfl (p_load_v ag_36 rfl (by rfl) noX) ?_)
      refine aops_cons rfl (w_pure rfl (p_len sl_36 rfl rfl) ?_)
      refine aops_cons rfl (w_pure rfl (p_field_v fo_41_0 rfl) ?_)
      refine aops_cons rfl (w_pure rfl (p_load_v ag_36 rfl (by rfl) noX) ?_)
      refine aops_cons rfl (w_pure rfl (p_len sl_36 rfl rfl) ?_)
      refine aops_cons rfl (w_pure rfl (p_sub' rfl rfl ⟨by simp only [List.length_map]; omega, by simp only [List.length_map]; omega⟩) ?_)
      refine aops_cons rfl (w_callR rfl rfl rfl cl_72 (c_spec_l1Least _ _) ?_)
      refine aops_cons rfl (w_pure rfl (p_assign rfl) ?_)
      refine aops_nil ?_
      refine a_seq_join (ι := Nat × Nat × Nat) (fun ⟨q1, x1, y1⟩ => True) (fun ⟨q1, x1, y1⟩ => [(9, .ptr q1 0)]) (fun ⟨q1, x1, y1⟩ => [(q1, .box [.own 1 x1 0 (a.rx ++ b.tx.take (kL b a)).length, .own 1 y1 0 (a.tx.drop (kL a b)).length, .int .i64 a.depth, .bool (decide (a.depth ≤ ((a.rx ++ b.tx.take (kL b a)).length : Int)))]), (x1, .arr 3 1 ((a.rx ++ b.tx.take (kL b a)).map eInt)), (y1, .arr 3 1 ((a.tx.drop (kL a b)).map eInt))]) (old := []) (by repeat (first | exact Picks.nil _ | exact Pick.here _ _ _ | apply Pick.next | apply Picks.cons)) ?_ ?_
      · skip
        refine a_draw [] (by kernel_rfl) ?_
        show ADraw _ _ _ _ _ _ 16 _ _ _ _
        refine d_load 0 rfl (by kernel_rfl) (by kernel_rfl) (by kernel_rfl) rfl (p_load_v_all ag_41 rfl (by rfl) noX) ?_
        refine d_take 1 rfl (by kernel_rfl) (by kernel_rfl) (by kernel_rfl) rfl (p_field_v fo_41_0 rfl) ?_
        refine d_load 2 rfl (by kernel_rfl) (by kernel_rfl) (by kernel_rfl) rfl (p_load_v ag_36 rfl (by rfl) noX) ?_
        refine d_take 4 rfl (by kernel_rfl) (by kernel_rfl) (by kernel_rfl) rfl (p_field_v fo_41_1 rfl) ?_
        refine d_load 5 rfl (by kernel_rfl) (by kernel_rfl) (by kernel_rfl) rfl (p_load_v ag_36 rfl (by rfl) noX) ?_
        refine d_take 6 rfl (by kernel_rfl) (by kernel_rfl) (by kernel_rfl) rfl (p_move rfl) ?_
        refine d_take 7 rfl (by kernel_rfl) (by kernel_rfl) (by kernel_rfl) rfl (p_slice_sl 0 (kL b a) es_36 rfl rfl (hi_some rfl (by simp only [List.length_map]; unfold kL; have h16a := (IsPort.rx ‹IsPort a›); have h16b := (IsPort.rx ‹IsPort b›); split <;> omega)) (Nat.zero_le _) (by rw [List.length_map]; (try unfold kP); (try unfold kL); omega) (lenAll _ _ (fun _ => rfl)) (show ((b.tx.map eInt).take (kL b a)).drop 0 = (b.tx.take (kL b a)).map eInt by rw [List.drop_zero, List.map_take])) ?_
        refine d_take 9 rfl (by kernel_rfl) (by kernel_rfl) (by kernel_rfl) rfl (p_field_v fo_41_1 rfl) ?_
        refine d_load 10 rfl (by kernel_rfl) (by kernel_rfl) (by kernel_rfl) rfl (p_load_v ag_36 rfl (by rfl) noX) ?_
        refine d_take 11 rfl (by kernel_rfl) (by kernel_rfl) (by kernel_rfl) rfl (p_move rfl) ?_
        refine d_take 12 rfl (by kernel_rfl) (by kernel_rfl) (by kernel_rfl) rfl (p_slice_sl (kL a b) _ es_36 rfl (lo_some rfl (by simp only [List.length_map]; unfold kL; have h16a := (IsPort.rx ‹IsPort a›); have h16b := (IsPort.rx ‹IsPort b›); split <;> omega)) rfl (by rw [List.length_map]; (try unfold kP); (try unfold kL); omega) (Nat.le_refl _) (lenAll _ _ (fun _ => rfl)) (show ((a.tx.map eInt).take (a.tx.map eInt).length).drop (kL a b) = (a.tx.drop (kL a b)).map eInt by rw [List.take_length, List.map_drop])) ?_
        refine draw_all [3, 14] (by kernel_rfl) (by simp) ?_
        refine all_cons rfl rfl ?_ ?_
        · skip
          refine w_call rfl rfl rfl cl_70 ((co_spec_l1Own _ (by first | omega | (simp only [List.length_append, List.length_cons, List.length_nil, List.length_take, List.length_drop]; omega) | (have q1 := IsPort.rx ‹IsPort p›; have q2 := IsPort.tx ‹IsPort p›; simp only [List.length_append, List.length_cons, List.length_nil, List.length_take, List.length_drop]; omega) | (have q1 := IsPort.rx ‹IsPort a›; have q2 := IsPort.rx ‹IsPort b›; simp only [kL, List.length_append, List.length_cons, List.length_nil, List.length_take, List.length_drop]; omega))).mono fun _ _ h => h.len) ?_
          rintro _ _ ⟨b3, rfl, rfl⟩
          refine draw_all [8, 14] (by kernel_rfl) (by simp) ?_
          refine all_cons rfl rfl ?_ ?_
          · skip
            refine w_appendM eInt rfl el_36 rfl rfl (by repeat (first | exact Pick.here _ _ _ | apply Pick.next)) rfl (.sl _) (fun _ => rfl) (fun _ => rfl) (by simp; omega) (by simp; omega) (by first | (refine .inl ?_; simp; done) | (refine .inr ?_; simp [keys]; done)) fun b4 => ?_
            refine draw_all [13, 14] (by kernel_rfl) (by simp) ?_
            refine all_cons rfl rfl ?_ ?_
            · skip
              refine w_callL rfl rfl rfl cl_67 (.cons (.refl _) (.cons (.own (by repeat (first | exact List.Mem.head _ | apply List.Mem.tail)) (by first | (simp; done) | (simp [mkL]; done))) (.cons (.refl _) .nil))) (co_spec_l16With _ _ _ (by first | omega | (simp only [List.length_append, List.length_cons, List.length_nil, List.length_take, List.length_drop]; omega) | (have q1 := IsPort.rx ‹IsPort p›; have q2 := IsPort.tx ‹IsPort p›; simp only [List.length_append, List.length_cons, List.length_nil, List.length_take, List.length_drop]; omega) | (have q1 := IsPort.rx ‹IsPort a›; have q2 := IsPort.rx ‹IsPort b›; simp only [kL, List.length_append, List.length_cons, List.length_nil, List.length_take, List.length_drop]; omega)) (by first | omega | (simp only [List.length_append, List.length_cons, List.length_nil, List.length_take, List.length_drop]; omega) | (have q1 := IsPort.rx ‹IsPort p›; have q2 := IsPort.tx ‹IsPort p›; simp only [List.length_append, List.length_cons, List.length_nil, List.length_take, List.length_drop]; omega) | (have q1 := IsPort.rx ‹IsPort a›; have q2 := IsPort.rx ‹IsPort b›; simp only [kL, List.length_append, List.length_cons, List.length_nil, List.length_take, List.length_drop]; omega))) ?_
              rintro _ _ ⟨b5, b6, rfl, rfl⟩
              refine ⟨(closed_agg (all_cons' (closed_own _ _ _ _) (all_cons' (closed_own _ _ _ _) (all_cons' (closed_int _ _) (all_cons' (closed_bool _) all_nil'))))), (closedS_cons (closedAll _ _ _ _ cl_eInt) (closedS_cons (closedAll _ _ _ _ cl_eInt) closedS_nil)), ?_⟩
              refine draw_all [14] (by kernel_rfl) (by simp) ?_
              refine all_cons rfl rfl ?_ ?_
              · skip
                refine w_alloc rfl z_41 fun b7 => ?_
                refine draw_all [15] (by kernel_rfl) (by simp) ?_
                refine all_cons rfl rfl ?_ ?_
                · skip
                  refine w_store (cells' := [_, _, _, _]) rfl rfl rfl (by repeat (first | exact Pick.here _ _ _ | apply Pick.next)) cn_41 (by rfl) (by rfl) (by rfl) (by first | (refine .inl ?_; simp; done) | (refine .inr ?_; simp [keys]; done)) ?_
                  refine draw_done (by kernel_rfl) ?_
                  exact ⟨⟨b7, b5, b6⟩, _, trivial, (by repeat (first | exact Knows.nil | refine Knows.cons (by rfl) ?_)), (by repeat (first | exact Back.refl _ _ | refine Back.cons (by rfl) ?_)), (by repeat (first | exact Picks.nil _ | exact Pick.here _ _ _ | apply Pick.next | apply Picks.cons))⟩
                exact all_nil
              exact all_nil
            refine all_cons rfl rfl ?_ ?_
            · skip
              refine w_alloc rfl z_41 fun b8 => ?_
              refine draw_all [13] (by kernel_rfl) (by simp) ?_
              refine all_cons rfl rfl ?_ ?_
              · skip
                refine w_callL rfl rfl rfl cl_67 (.cons (.refl _) (.cons (.own (by repeat (first | exact List.Mem.head _ | apply List.Mem.tail)) (by first | (simp; done) | (simp [mkL]; done))) (.cons (.refl _) .nil))) (co_spec_l16With _ _ _ (by first | omega | (simp only [List.length_append, List.length_cons, List.length_nil, List.length_take, List.length_drop]; omega) | (have q1 := IsPort.rx ‹IsPort p›; have q2 := IsPort.tx ‹IsPort p›; simp only [List.length_append, List.length_cons, List.length_nil, List.length_take, List.length_drop]; omega) | (have q1 := IsPort.rx ‹IsPort a›; have q2 := IsPort.rx ‹IsPort b›; simp only [kL, List.length_append, List.length_cons, List.length_nil, List.length_take, List.length_drop]; omega)) (by first | omega | (simp only [List.length_append, List.length_cons, List.length_nil, List.length_take, List.length_drop]; omega) | (have q1 := IsPort.rx ‹IsPort p›; have q2 := IsPort.tx ‹IsPort p›; simp only [List.length_append, List.length_cons, List.length_nil, List.length_take, List.length_drop]; omega) | (have q1 := IsPort.rx ‹IsPort a›; have q2 := IsPort.rx ‹IsPort b›; simp only [kL, List.length_append, List.length_cons, List.length_nil, List.length_take, List.length_drop]; omega))) ?_
                rintro _ _ ⟨b9, b10, rfl, rfl⟩
                refine ⟨(closed_agg (all_cons' (closed_own _ _ _ _) (all_cons' (closed_own _ _ _ _) (all_cons' (closed_int _ _) (all_cons' (closed_bool _) all_nil'))))), (closedS_cons (closedAll _ _ _ _ cl_eInt) (closedS_cons (closedAll _ _ _ _ cl_eInt) closedS_nil)), ?_⟩
                refine draw_all [15] (by kernel_rfl) (by simp) ?_
                refine all_cons rfl rfl ?_ ?_
                · skip
                  refine w_store (cells' := [_, _, _, _]) rfl rfl rfl (by repeat (first | exact Pick.here _ _ _ | apply Pick.next)) cn_41 (by rfl) (by rfl) (by rfl) (by first | (refine .inl ?_; simp; done) | (refine .inr ?_; simp [keys]; done)) ?_
                  refine draw_done (by kernel_rfl) ?_
                  exact ⟨⟨b8, b9, b10⟩, _, trivial, (by repeat (first | exact Knows.nil | refine Knows.cons (by rfl) ?_)), (by repeat (first | exact Back.refl _ _ | refine Back.cons (by rfl) ?_)), (by repeat (first | exact Picks.nil _ | exact Pick.here _ _ _ | apply Pick.next | apply Picks.cons))⟩
                exact all_nil
              exact all_nil
            exact all_nil
          refine all_cons rfl rfl ?_ ?_
          · skip
            refine w_alloc rfl z_41 fun b11 => ?_
            refine draw_all [8] (by kernel_rfl) (by simp) ?_
            refine all_cons rfl rfl ?_ ?_
            · skip
              refine w_appendM eInt rfl el_36 rfl rfl (by repeat (first | exact Pick.here _ _ _ | apply Pick.next)) rfl (.sl _) (fun _ => rfl) (fun _ => rfl) (by simp; omega) (by simp; omega) (by first | (refine .inl ?_; simp; done) | (refine .inr ?_; simp [keys]; done)) fun b12 => ?_
              refine draw_all [13] (by kernel_rfl) (by simp) ?_
              refine all_cons rfl rfl ?_ ?_
              · skip
                refine w_callL rfl rfl rfl cl_67 (.cons (.refl _) (.cons (.own (by repeat (first | exact List.Mem.head _ | apply List.Mem.tail)) (by first | (simp; done) | (simp [mkL]; done))) (.cons (.refl _) .nil))) (co_spec_l16With _ _ _ (by first | omega | (simp only [List.length_append, List.length_cons, List.length_nil, List.length_take, List.length_drop]; omega) | (have q1 := IsPort.rx ‹IsPort p›; have q2 := IsPort.tx ‹IsPort p›; simp only [List.length_append, List.length_cons, List.length_nil, List.length_take, List.length_drop]; omega) | (have q1 := IsPort.rx ‹IsPort a›; have q2 := IsPort.rx ‹IsPort b›; simp only [kL, List.length_append, List.length_cons, List.length_nil, List.length_take, List.length_drop]; omega)) (by first | omega | (simp only [List.length_append, List.length_cons, List.length_nil, List.length_take, List.length_drop]; omega) | (have q1 := IsPort.rx ‹IsPort p›; have q2 := IsPort.tx ‹IsPort p›; simp only [List.length_append, List.length_cons, List.length_nil, List.length_take, List.length_drop]; omega) | (have q1 := IsPort.rx ‹IsPort a›; have q2 := IsPort.rx ‹IsPort b›; simp only [kL, List.length_append, List.length_cons, List.length_nil, List.length_take, List.length_drop]; omega))) ?_
                rintro _ _ ⟨b13, b14, rfl, rfl⟩
                refine ⟨(closed_agg (all_cons' (closed_own _ _ _ _) (all_cons' (closed_own _ _ _ _) (all_cons' (closed_int _ _) (all_cons' (closed_bool _) all_nil'))))), (closedS_cons (closedAll _ _ _ _ cl_eInt) (closedS_cons (closedAll _ _ _ _ cl_eInt) closedS_nil)), ?_⟩
                refine draw_all [15] (by kernel_rfl) (by simp) ?_
                refine all_cons rfl rfl ?_ ?_
                · skip
                  refine w_store (cells' := [_, _, _, _]) rfl rfl rfl (by repeat (first | exact Pick.here _ _ _ | apply Pick.next)) cn_41 (by rfl) (by rfl) (by rfl) (by first | (refine .inl ?_; simp; done) | (refine .inr ?_; simp [keys]; done)) ?_
                  refine draw_done (by kernel_rfl) ?_
                  exact ⟨⟨b11, b13, b14⟩, _, trivial, (by repeat (first | exact Knows.nil | refine Knows.cons (by rfl) ?_)), (by repeat (first | exact Back.refl _ _ | refine Back.cons (by rfl) ?_)), (by repeat (first | exact Picks.nil _ | exact Pick.here _ _ _ | apply Pick.next | apply Picks.cons))⟩
                exact all_nil
              exact all_nil
            exact all_nil
          exact all_nil
        refine all_cons rfl rfl ?_ ?_
        · skip
          refine w_alloc rfl z_41 fun b15 => ?_
          refine draw_all [3] (by kernel_rfl) (by simp) ?_
          refine all_cons rfl rfl ?_ ?_
          · skip
            refine w_call rfl rfl rfl cl_70 ((co_spec_l1Own _ (by first | omega | (simp only [List.length_append, List.length_cons, List.length_nil, List.length_take, List.length_drop]; omega) | (have q1 := IsPort.rx ‹IsPort p›; have q2 := IsPort.tx ‹IsPort p›; simp only [List.length_append, List.length_cons, List.length_nil, List.length_take, List.length_drop]; omega) | (have q1 := IsPort.rx ‹IsPort a›; have q2 := IsPort.rx ‹IsPort b›; simp only [kL, List.length_append, List.length_cons, List.length_nil, List.length_take, List.length_drop]; omega))).mono fun _ _ h => h.len) ?_
            rintro _ _ ⟨b16, rfl, rfl⟩
            refine draw_all [8] (by kernel_rfl) (by simp) ?_
            refine all_cons rfl rfl ?_ ?_
            · skip
              refine w_appendM eInt rfl el_36 rfl rfl (by repeat (first | exact Pick.here _ _ _ | apply Pick.next)) rfl (.sl _) (fun _ => rfl) (fun _ => rfl) (by simp; omega) (by simp; omega) (by first | (refine .inl ?_; simp; done) | (refine .inr ?_; simp [keys]; done)) fun b17 => ?_
              refine draw_all [13] (by kernel_rfl) (by simp) ?_
              refine all_cons rfl rfl ?_ ?_
              · skip
                refine w_callL rfl rfl rfl cl_67 (.cons (.refl _) (.cons (.own (by repeat (first | exact List.Mem.head _ | apply List.Mem.tail)) (by first | (simp; done) | (simp [mkL]; done))) (.cons (.refl _) .nil))) (co_spec_l16With _ _ _ (by first | omega | (simp only [List.length_append, List.length_cons, List.length_nil, List.length_take, List.length_drop]; omega) | (have q1 := IsPort.rx ‹IsPort p›; have q2 := IsPort.tx ‹IsPort p›; simp only [List.length_append, List.length_cons, List.length_nil, List.length_take, List.length_drop]; omega) | (have q1 := IsPort.rx ‹IsPort a›; have q2 := IsPort.rx ‹IsPort b›; simp only [kL, List.length_append, List.length_cons, List.length_nil, List.length_take, List.length_drop]; omega)) (by first | omega | (simp only [List.length_append, List.length_cons, List.length_nil, List.length_take, List.length_drop]; omega) | (have q1 := IsPort.rx ‹IsPort p›; have q2 := IsPort.tx ‹IsPort p›; simp only [List.length_append, List.length_cons, List.length_nil, List.length_take, List.length_drop]; omega) | (have q1 := IsPort.rx ‹IsPort a›; have q2 := IsPort.rx ‹IsPort b›; simp only [kL, List.length_append, List.length_cons, List.length_nil, List.length_take, List.length_drop]; omega))) ?_
                rintro _ _ ⟨b18, b19, rfl, rfl⟩
                refine ⟨(closed_agg (all_cons' (closed_own _ _ _ _) (all_cons' (closed_own _ _ _ _) (all_cons' (closed_int _ _) (all_cons' (closed_bool _) all_nil'))))), (closedS_cons (closedAll _ _ _ _ cl_eInt) (closedS_cons (closedAll _ _ _ _ cl_eInt) closedS_nil)), ?_⟩
                refine draw_all [15] (by kernel_rfl) (by simp) ?_
                refine all_cons rfl rfl ?_ ?_
                · skip
                  refine w_store (cells' := [_, _, _, _]) rfl rfl rfl (by repeat (first | exact Pick.here _ _ _ | apply Pick.next)) cn_41 (by rfl) (by rfl) (by rfl) (by first | (refine .inl ?_; simp; done) | (refine .inr ?_; simp [keys]; done)) ?_
                  refine draw_done (by kernel_rfl) ?_
                  exact ⟨⟨b15, b18, b19⟩, _, trivial, (by repeat (first | exact Knows.nil | refine Knows.cons (by rfl) ?_)), (by repeat (first | exact Back.refl _ _ | refine Back.cons (by rfl) ?_)), (by repeat (first | exact Picks.nil _ | exact Pick.here _ _ _ | apply Pick.next | apply Picks.cons))⟩
                exact all_nil
              exact all_nil
            exact all_nil
          exact all_nil
        exact all_nil
      · rintro ⟨q1, x1, y1⟩ -
        refine a_seq_join (ι := Nat × Nat × Nat) (fun ⟨q2, x2, y2⟩ => True) (fun ⟨q2, x2, y2⟩ => [(10, .ptr q2 0)]) (fun ⟨q2, x2, y2⟩ => [(q2, .box [.own 1 x2 0 (b.rx ++ a.tx.take (kL a b)).length, .own 1 y2 0 (b.tx.drop (kL b a)).length, .int .i64 b.depth, .bool (decide (b.depth ≤ ((b.rx ++ a.tx.take (kL a b)).length : Int)))]), (x2, .arr 3 1 ((b.rx ++ a.tx.take (kL a b)).map eInt)), (y2, .arr 3 1 ((b.tx.drop (kL b a)).map eInt))]) (old := []) (by repeat (first | exact Picks.nil _ | exact Pick.here _ _ _ | apply Pick.next | apply Picks.cons)) ?_ ?_
        · skip
          refine a_draw [] (by kernel_rfl) ?_
          show ADraw _ _ _ _ _ _ 16 _ _ _ _
          refine d_load 0 rfl (by kernel_rfl) (by kernel_rfl) (by kernel_rfl) rfl (p_load_v_all ag_41 rfl (by rfl) noX) ?_
          refine d_take 1 rfl (by kernel_rfl) (by kernel_rfl) (by kernel_rfl) rfl (p_field_v fo_41_0 rfl) ?_
          refine d_load 2 rfl (by kernel_rfl) (by kernel_rfl) (by kernel_rfl) rfl (p_load_v ag_36 rfl (by rfl) noX) ?_
          refine d_take 4 rfl (by kernel_rfl) (by kernel_rfl) (by kernel_rfl) rfl (p_field_v fo_41_1 rfl) ?_
          refine d_load 5 rfl (by kernel_rfl) (by kernel_rfl) (by kernel_rfl) rfl (p_load_v ag_36 rfl (by rfl) noX) ?_
          refine d_take 6 rfl (by kernel_rfl) (by kernel_rfl) (by kernel_rfl) rfl (p_move rfl) ?_
          refine d_take 7 rfl (by kernel_rfl) (by kernel_rfl) (by kernel_rfl) rfl (p_slice_sl 0 (kL a b) es_36 rfl rfl (hi_some rfl (by simp only [List.length_map]; unfold kL; have h16a := (IsPort.rx ‹IsPort a›); have h16b := (IsPort.rx ‹IsPort b›); split <;> omega)) (Nat.zero_le _) (by rw [List.length_map]; (try unfold kP); (try unfold kL); omega) (lenAll _ _ (fun _ => rfl)) (show ((a.tx.map eInt).take (kL a b)).drop 0 = (a.tx.take (kL a b)).map eInt by rw [List.drop_zero, List.map_take])) ?_
          refine d_take 9 rfl (by kernel_rfl) (by kernel_rfl) (by kernel_rfl) rfl (p_field_v fo_41_1 rfl) ?_
          refine d_load 10 rfl (by kernel_rfl) (by kernel_rfl) (by kernel_rfl) rfl (p_load_v ag_36 rfl (by rfl) noX) ?_
          refine d_take 11 rfl (by kernel_rfl) (by kernel_rfl) (by kernel_rfl) rfl (p_move rfl) ?_
          refine d_take 12 rfl (by kernel_rfl) (by kernel_rfl) (by kernel_rfl) rfl (p_slice_sl (kL b a) _ es_36 rfl (lo_some rfl (by simp only [List.length_map]; unfold kL; have h16a := (IsPort.rx ‹IsPort a›); have h16b := (IsPort.rx ‹IsPort b›); split <;> omega)) rfl (by rw [List.length_map]; (try unfold kP); (try unfold kL); omega) (Nat.le_refl _) (lenAll _ _ (fun _ => rfl)) (show ((b.tx.map eInt).take (b.tx.map eInt).length).drop (kL b a) = (b.tx.drop (kL b a)).map eInt by rw [List.take_length, List.map_drop])) ?_
          refine draw_all [3, 14] (by kernel_rfl) (by simp) ?_
          refine all_cons rfl rfl ?_ ?_
          · skip
            refine w_call rfl rfl rfl cl_70 ((co_spec_l1Own _ (by first | omega | (simp only [List.length_append, List.length_cons, List.length_nil, List.length_take, List.length_drop]; omega) | (have q1 := IsPort.rx ‹IsPort p›; have q2 := IsPort.tx ‹IsPort p›; simp only [List.length_append, List.length_cons, List.length_nil, List.length_take, List.length_drop]; omega) | (have q1 := IsPort.rx ‹IsPort a›; have q2 := IsPort.rx ‹IsPort b›; simp only [kL, List.length_append, List.length_cons, List.length_nil, List.length_take, List.length_drop]; omega))).mono fun _ _ h => h.len) ?_
            rintro _ _ ⟨b20, rfl, rfl⟩
            refine draw_all [8, 14] (by kernel_rfl) (by simp) ?_
            refine all_cons rfl rfl ?_ ?_
            · skip
              refine w_appendM eInt rfl el_36 rfl rfl (by repeat (first | exact Pick.here _ _ _ | apply Pick.next)) rfl (.sl _) (fun _ => rfl) (fun _ => rfl) (by simp; omega) (by simp; omega) (by first | (refine .inl ?_; simp; done) | (refine .inr ?_; simp [keys]; done)) fun b21 => ?_
              refine draw_all [13, 14] (by kernel_rfl) (by simp) ?_
              refine all_cons rfl rfl ?_ ?_
              · skip
                refine w_callL rfl rfl rfl cl_67 (.cons (.refl _) (.cons (.own (by repeat (first | exact List.Mem.head _ | apply List.Mem.tail)) (by first | (simp; done) | (simp [mkL]; done))) (.cons (.refl _) .nil))) (co_spec_l16With _ _ _ (by first | omega | (simp only [List.length_append, List.length_cons, List.length_nil, List.length_take, List.length_drop]; omega) | (have q1 := IsPort.rx ‹IsPort p›; have q2 := IsPort.tx ‹IsPort p›; simp only [List.length_append, List.length_cons, List.length_nil, List.length_take, List.length_drop]; omega) | (have q1 := IsPort.rx ‹IsPort a›; have q2 := IsPort.rx ‹IsPort b›; simp only [kL, List.length_append, List.length_cons, List.length_nil, List.length_take, List.length_drop]; omega)) (by first | omega | (simp only [List.length_append, List.length_cons, List.length_nil, List.length_take, List.length_drop]; omega) | (have q1 := IsPort.rx ‹IsPort p›; have q2 := IsPort.tx ‹IsPort p›; simp only [List.length_append, List.length_cons, List.length_nil, List.length_take, List.length_drop]; omega) | (have q1 := IsPort.rx ‹IsPort a›; have q2 := IsPort.rx ‹IsPort b›; simp only [kL, List.length_append, List.length_cons, List.length_nil, List.length_take, List.length_drop]; omega))) ?_
                rintro _ _ ⟨b22, b23, rfl, rfl⟩
                refine ⟨(closed_agg (all_cons' (closed_own _ _ _ _) (all_cons' (closed_own _ _ _ _) (all_cons' (closed_int _ _) (all_cons' (closed_bool _) all_nil'))))), (closedS_cons (closedAll _ _ _ _ cl_eInt) (closedS_cons (closedAll _ _ _ _ cl_eInt) closedS_nil)), ?_⟩
                refine draw_all [14] (by kernel_rfl) (by simp) ?_
                refine all_cons rfl rfl ?_ ?_
                · skip
                  refine w_alloc rfl z_41 fun b24 => ?_
                  refine draw_all [15] (by kernel_rfl) (by simp) ?_
                  refine all_cons rfl rfl ?_ ?_
                  · skip
                    refine w_store (cells' := [_, _, _, _]) rfl rfl rfl (by repeat (first | exact Pick.here _ _ _ | apply Pick.next)) cn_41 (by rfl) (by rfl) (by rfl) (by first | (refine .inl ?_; simp; done) | (refine .inr ?_; simp [keys]; done)) ?_
                    refine draw_done (by kernel_rfl) ?_
                    exact ⟨⟨b24, b22, b23⟩, _, trivial, (by repeat (first | exact Knows.nil | refine Knows.cons (by rfl) ?_)), (by repeat (first | exact Back.refl _ _ | refine Back.cons (by rfl) ?_)), (by repeat (first | exact Picks.nil _ | exact Pick.here _ _ _ | apply Pick.next | apply Picks.cons))⟩
                  exact all_nil
                exact all_nil
              refine all_cons rfl rfl ?_ ?_
              · skip
                refine w_alloc rfl z_41 fun b25 => ?_
                refine draw_all [13] (by kernel_rfl) (by simp) ?_
                refine all_cons rfl rfl ?_ ?_
                · skip
                  refine w_callL rfl rfl rfl cl_67 (.cons (.refl _) (.cons (.own (by repeat (first | exact List.Mem.head _ | apply List.Mem.tail)) (by first | (simp; done) | (simp [mkL]; done))) (.cons (.refl _) .nil))) (co_spec_l16With _ _ _ (by first | omega | (simp only [List.length_append, List.length_cons, List.length_nil, List.length_take, List.length_drop]; omega) | (have q1 := IsPort.rx ‹IsPort p›; have q2 := IsPort.tx ‹IsPort p›; simp only [List.length_append, List.length_cons, List.length_nil, List.length_take, List.length_drop]; omega) | (have q1 := IsPort.rx ‹IsPort a›; have q2 := IsPort.rx ‹IsPort b›; simp only [kL, List.length_append, List.length_cons, List.length_nil, List.length_take, List.length_drop]; omega)) (by first | omega | (simp only [List.length_append, List.length_cons, List.length_nil, List.length_take, List.length_drop]; omega) | (have q1 := IsPort.rx ‹IsPort p›; have q2 := IsPort.tx ‹IsPort p›; simp only [List.length_append, List.length_cons, List.length_nil, List.length_take, List.length_drop]; omega) | (have q1 := IsPort.rx ‹IsPort a›; have q2 := IsPort.rx ‹IsPort b›; simp only [kL, List.length_append, List.length_cons, List.length_nil, List.length_take, List.length_drop]; omega))) ?_
                  rintro _ _ ⟨b26, b27, rfl, rfl⟩
                  refine ⟨(closed_agg (all_cons' (closed_own _ _ _ _) (all_cons' (closed_own _ _ _ _) (all_cons' (closed_int _ _) (all_cons' (closed_bool _) all_nil'))))), (closedS_cons (closedAll _ _ _ _ cl_eInt) (closedS_cons (closedAll _ _ _ _ cl_eInt) closedS_nil)), ?_⟩
                  refine draw_all [15] (by kernel_rfl) (by simp) ?_
                  refine all_cons rfl rfl ?_ ?_
                  · skip
                    refine w_store (cells' := [_, _, _, _]) rfl rfl rfl (by repeat (first | exact Pick.here _ _ _ | apply Pick.next)) cn_41 (by rfl) (by rfl) (by rfl) (by first | (refine .inl ?_; simp; done) | (refine .inr ?_; simp [keys]; done)) ?_
                    refine draw_done (by kernel_rfl) ?_
                    exact ⟨⟨b25, b26, b27⟩, _, trivial, (by repeat (first | exact Knows.nil | refine Knows.cons (by rfl) ?_)), (by repeat (first | exact Back.refl _ _ | refine Back.cons (by rfl) ?_)), (by repeat (first | exact Picks.nil _ | exact Pick.here _ _ _ | apply Pick.next | apply Picks.cons))⟩
                  exact all_nil
                exact all_nil
              exact all_nil
            refine all_cons rfl rfl ?_ ?_
            · skip
              refine w_alloc rfl z_41 fun b28 => ?_
              refine draw_all [8] (by kernel_rfl) (by simp) ?_
              refine all_cons rfl rfl ?_ ?_
              · skip
                refine w_appendM eInt rfl el_36 rfl rfl (by repeat (first | exact Pick.here _ _ _ | apply Pick.next)) rfl (.sl _) (fun _ => rfl) (fun _ => rfl) (by simp; omega) (by simp; omega) (by first | (refine .inl ?_; simp; done) | (refine .inr ?_; simp [keys]; done)) fun b29 => ?_
                refine draw_all [13] (by kernel_rfl) (by simp) ?_
                refine all_cons rfl rfl ?_ ?_
                · skip
                  refine w_callL rfl rfl rfl cl_67 (.cons (.refl _) (.cons (.own (by repeat (first | exact List.Mem.head _ | apply List.Mem.tail)) (by first | (simp; done) | (simp [mkL]; done))) (.cons (.refl _) .nil))) (co_spec_l16With _ _ _ (by first | omega | (simp only [List.length_append, List.length_cons, List.length_nil, List.length_take, List.length_drop]; omega) | (have q1 := IsPort.rx ‹IsPort p›; have q2 := IsPort.tx ‹IsPort p›; simp only [List.length_append, List.length_cons, List.length_nil, List.length_take, List.length_drop]; omega) | (have q1 := IsPort.rx ‹IsPort a›; have q2 := IsPort.rx ‹IsPort b›; simp only [kL, List.length_append, List.length_cons, List.length_nil, List.length_take, List.length_drop]; omega)) (by first | omega | (simp only [List.length_append, List.length_cons, List.length_nil, List.length_take, List.length_drop]; omega) | (have q1 := IsPort.rx ‹IsPort p›; have q2 := IsPort.tx ‹IsPort p›; simp only [List.length_append, List.length_cons, List.length_nil, List.length_take, List.length_drop]; omega) | (have q1 := IsPort.rx ‹IsPort a›; have q2 := IsPort.rx ‹IsPort b›; simp only [kL, List.length_append, List.length_cons, List.length_nil, List.length_take, List.length_drop]; omega))) ?_
                  rintro _ _ ⟨b30, b31, rfl, rfl⟩
                  refine ⟨(closed_agg (all_cons' (closed_own _ _ _ _) (all_cons' (closed_own _ _ _ _) (all_cons' (closed_int _ _) (all_cons' (closed_bool _) all_nil'))))), (closedS_cons (closedAll _ _ _ _ cl_eInt) (closedS_cons (closedAll _ _ _ _ cl_eInt) closedS_nil)), ?_⟩
                  refine draw_all [15] (by kernel_rfl) (by simp) ?_
                  refine all_cons rfl rfl ?_ ?_
                  · skip
                    refine w_store (cells' := [_, _, _, _]) rfl rfl rfl (by repeat (first | exact Pick.here _ _ _ | apply Pick.next)) cn_41 (by rfl) (by rfl) (by rfl) (by first | (refine .inl ?_; simp; done) | (refine .inr ?_; simp [keys]; done)) ?_
                    refine draw_done (by kernel_rfl) ?_
                    exact ⟨⟨b28, b30, b31⟩, _, trivial, (by repeat (first | exact Knows.nil | refine Knows.cons (by rfl) ?_)), (by repeat (first | exact Back.refl _ _ | refine Back.cons (by rfl) ?_)), (by repeat (first | exact Picks.nil _ | exact Pick.here _ _ _ | apply Pick.next | apply Picks.cons))⟩
                  exact all_nil
                exact all_nil
              exact all_nil
            exact all_nil
          refine all_cons rfl rfl ?_ ?_
          · skip
            refine w_alloc rfl z_41 fun b32 => ?_
            refine draw_all [3] (by kernel_rfl) (by simp) ?_
            refine all_cons rfl rfl ?_ ?_
            · skip
              refine w_call rfl rfl rfl cl_70 ((co_spec_l1Own _ (by first | omega | (simp only [List.length_append, List.length_cons, List.length_nil, List.length_take, List.length_drop]; omega) | (have q1 := IsPort.rx ‹IsPort p›; have q2 := IsPort.tx ‹IsPort p›; simp only [List.length_append, List.length_cons, List.length_nil, List.length_take, List.length_drop]; omega) | (have q1 := IsPort.rx ‹IsPort a›; have q2 := IsPort.rx ‹IsPort b›; simp only [kL, List.length_append, List.length_cons, List.length_nil, List.length_take, List.length_drop]; omega))).mono fun _ _ h => h.len) ?_
              rintro _ _ ⟨b33, rfl, rfl⟩
              refine draw_all [8] (by kernel_rfl) (by simp) ?_
              refine all_cons rfl rfl ?_ ?_
              · skip
                refine w_appendM eInt rfl el_36 rfl rfl (by repeat (first | exact Pick.here _ _ _ | apply Pick.next)) rfl (.sl _) (fun _ => rfl) (fun _ => rfl) (by simp; omega) (by simp; omega) (by first | (refine .inl ?_; simp; done) | (refine .inr ?_; simp [keys]; done)) fun b34 => ?_
                refine draw_all [13] (by kernel_rfl) (by simp) ?_
                refine all_cons rfl rfl ?_ ?_
                · skip
                  refine w_callL rfl rfl rfl cl_67 (.cons (.refl _) (.cons (.own (by repeat (first | exact List.Mem.head _ | apply List.Mem.tail)) (by first | (simp; done) | (simp [mkL]; done))) (.cons (.refl _) .nil))) (co_spec_l16With _ _ _ (by first | omega | (simp only [List.length_append, List.length_cons, List.length_nil, List.length_take, List.length_drop]; omega) | (have q1 := IsPort.rx ‹IsPort p›; have q2 := IsPort.tx ‹IsPort p›; simp only [List.length_append, List.length_cons, List.length_nil, List.length_take, List.length_drop]; omega) | (have q1 := IsPort.rx ‹IsPort a›; have q2 := IsPort.rx ‹IsPort b›; simp only [kL, List.length_append, List.length_cons, List.length_nil, List.length_take, List.length_drop]; omega)) (by first | omega | (simp only [List.length_append, List.length_cons, List.length_nil, List.length_take, List.length_drop]; omega) | (have q1 := IsPort.rx ‹IsPort p›; have q2 := IsPort.tx ‹IsPort p›; simp only [List.length_append, List.length_cons, List.length_nil, List.length_take, List.length_drop]; omega) | (have q1 := IsPort.rx ‹IsPort a›; have q2 := IsPort.rx ‹IsPort b›; simp only [kL, List.length_append, List.length_cons, List.length_nil, List.length_take, List.length_drop]; omega))) ?_
                  rintro _ _ ⟨b35, b36, rfl, rfl⟩
                  refine ⟨(closed_agg (all_cons' (closed_own _ _ _ _) (all_cons' (closed_own _ _ _ _) (all_cons' (closed_int _ _) (all_cons' (closed_bool _) all_nil'))))), (closedS_cons (closedAll _ _ _ _ cl_eInt) (closedS_cons (closedAll _ _ _ _ cl_eInt) closedS_nil)), ?_⟩
                  refine draw_all [15] (by kernel_rfl) (by simp) ?_
                  refine all_cons rfl rfl ?_ ?_
                  · skip
                    refine w_store (cells' := [_, _, _, _]) rfl rfl rfl (by repeat (first | exact Pick.here _ _ _ | apply Pick.next)) cn_41 (by rfl) (by rfl) (by rfl) (by first | (refine .inl ?_; simp; done) | (refine .inr ?_; simp [keys]; done)) ?_
                    refine draw_done (by kernel_rfl) ?_
                    exact ⟨⟨b32, b35, b36⟩, _, trivial, (by repeat (first | exact Knows.nil | refine Knows.cons (by rfl) ?_)), (by repeat (first | exact Back.refl _ _ | refine Back.cons (by rfl) ?_)), (by repeat (first | exact Picks.nil _ | exact Pick.here _ _ _ | apply Pick.next | apply Picks.cons))⟩
                  exact all_nil
                exact all_nil
              exact all_nil
            exact all_nil
          exact all_nil
        · rintro ⟨q2, x2, y2⟩ -
          refine a_seq ?_
          refine a_draw [b1, b2] (by kernel_rfl) ?_
          show ADraw _ _ _ _ _ _ 5 _ _ _ _
          refine d_load 0 rfl (by kernel_rfl) (by kernel_rfl) (by kernel_rfl) rfl (p_load_box_all ag_41 rfl (by repeat (first | exact Pick.here _ _ _ | apply Pick.next)) (by rfl) (by simp [keys])) ?_
          refine d_load 1 rfl (by kernel_rfl) (by kernel_rfl) (by kernel_rfl) rfl (p_load_box_all ag_41 rfl (by repeat (first | exact Pick.here _ _ _ | apply Pick.next)) (by rfl) (by simp [keys])) ?_
          refine draw_all [2] (by kernel_rfl) (by simp) ?_
          refine all_cons rfl rfl ?_ ?_
          · skip
            refine w_store (cells' := [_, _, _, _]) rfl rfl rfl (by repeat (first | exact Pick.here _ _ _ | apply Pick.next)) cn_41 (by rfl) (by rfl) (by rfl) (by first | (refine .inl ?_; simp; done) | (refine .inr ?_; simp [keys]; done)) ?_
            refine draw_all [3] (by kernel_rfl) (by simp) ?_
            refine all_cons rfl rfl ?_ ?_
            · skip
              refine w_store (cells' := [_, _, _, _]) rfl rfl rfl (by repeat (first | exact Pick.here _ _ _ | apply Pick.next)) cn_41 (by rfl) (by rfl) (by rfl) (by first | (refine .inl ?_; simp; done) | (refine .inr ?_; simp [keys]; done)) ?_
              refine d_take 4 rfl (by kernel_rfl) (by kernel_rfl) (by kernel_rfl) rfl (p_assign rfl) ?_
              refine draw_done (by kernel_rfl) ?_
              refine a_ret ?_
              refine ret_ok (hands3 rfl (.cell ag_41 rfl (by repeat (first | exact Pick.here _ _ _ | apply Pick.next)) (by rfl)) (.cell ag_41 rfl (by repeat (first | exact Pick.here _ _ _ | apply Pick.next)) (by rfl)) (.tmp rfl)) (st' := [(x1, _), (y1, _), (x2, _), (y2, _)]) (.cons (by repeat (first | exact Pick.here _ _ _ | apply Pick.next)) (.cons (by repeat (first | exact Pick.here _ _ _ | apply Pick.next)) (.cons (by repeat (first | exact Pick.here _ _ _ | apply Pick.next)) (.cons (by repeat (first | exact Pick.here _ _ _ | apply Pick.next)) (.nil _))))) ?_
              first | exact ⟨rfl, rfl⟩ | exact absurd (show GoodLoop a b from ⟨by assumption, by omega, by omega⟩) hA | exact absurd (show GoodLoop a b from ⟨by assumption, by omega⟩) hA | exact absurd (show GoodLoop a b from ⟨by assumption, by assumption⟩) hA
            exact all_nil
          exact all_nil

theorem cy_impl_LoopPorts (a b : Port) (hn : SmallPort a) (hm : SmallPort b) (hA : GoodLoop a b) : ACalls Try.prog 48 [.agg (ePort a), .agg (ePort b)] [] (fun r st => ∃ b1 b2 b3 b4, r = .tup [.agg [.own 1 b1 0 (loopP a b).rx.length, .own 1 b2 0 (loopP a b).tx.length, .int .i64 (loopP a b).depth, .bool (loopP a b).flag], .agg [.own 1 b3 0 (loopP b a).rx.length, .own 1 b4 0 (loopP b a).tx.length, .int .i64 (loopP b a).depth, .bool (loopP b a).flag], .bool true] ∧ st = [(b1, .arr 3 1 ((loopP a b).rx.map eInt)), (b2, .arr 3 1 ((loopP a b).tx.map eInt)), (b3, .arr 3 1 ((loopP b a).rx.map eInt)), (b4, .arr 3 1 ((loopP b a).tx.map eInt))]) := by
  have hn1 : a.rx.length ≤ 1048576 := hn.1
  have hn2 : a.tx.length ≤ 1048576 := hn.2
  have hm1 : b.rx.length ≤ 1048576 := hm.1
  have hm2 : b.tx.length ≤ 1048576 := hm.2
  refine a_enter Try.func48 rfl rfl (fun w0 M0 => ?_)
  refine a_seq ?_
  refine a_region ?_
  refine aops_cons rfl (w_box_v rfl rfl rfl ?_)
  refine aops_cons rfl (w_box_v rfl rfl rfl ?_)
  refine aops_cons rfl (w_alloc rfl z_41 fun b1 => ?_)
  refine aops_cons rfl (w_alloc rfl z_41 fun b2 => ?_)
  refine aops_cons rfl (w_pure rfl (p_assign rfl) ?_)
  refine aops_nil ?_
  refine a_seq ?_
  refine a_seq ?_
  refine a_region ?_
  refine aops_cons rfl (w_pure rfl (p_load_v_all ag_41 rfl (by rfl) noX) ?_)
  refine aops_cons rfl (w_callR rfl rfl rfl cl_28 (c_impl_IsPort _ ‹_›) ?_)
  refine aops_cons rfl (w_pure rfl (p_not rfl) ?_)
  refine aops_cons rfl (w_pure rfl (p_move rfl) ?_)
  first | refine aops_split_d 14 rfl (fun h1 => ?_) (fun h2 => ?_) | refine aops_split 14 rfl (fun h1 => ?_) (fun h2 => ?_)
  · (try simp only [Bool.not_eq_true', Bool.not_eq_false', Bool.not_eq_true, Bool.not_eq_false, decide_eq_true_eq, decide_eq_false_iff_not, List.length_map, List.length_range] at h1)
    refine g_pass' rfl rfl rfl rfl rfl ?_
    refine g_pass' rfl rfl rfl rfl rfl ?_
    refine g_pass' rfl rfl rfl rfl rfl ?_
    refine aops_cons rfl (w_pure rfl (p_pick_t rfl rfl) ?_)
    refine aops_nil ?_
    refine a_cond_t rfl ?_
    refine a_seq ?_
    refine a_region ?_
    refine aops_cons rfl (w_pure rfl (p_build (cells := [_, _, _, _]) z_41 pl_41 rfl rfl) ?_)
    refine aops_cons rfl (w_pure rfl (p_build (cells := [_, _, _, _]) z_41 pl_41 rfl rfl) ?_)
    refine aops_cons rfl (w_store (cells' := [_, _, _, _]) rfl rfl rfl (by repeat (first | exact Pick.here _ _ _ | apply Pick.next)) cn_41 (by rfl) (by rfl) (by rfl) trivial ?_)
    refine aops_cons rfl (w_store (cells' := [_, _, _, _]) rfl rfl rfl (by repeat (first | exact Pick.here _ _ _ | apply Pick.next)) cn_41 (by rfl) (by rfl) (by rfl) trivial ?_)
    refine aops_cons rfl (w_pure rfl (p_assign rfl) ?_)
    refine aops_nil ?_
    refine a_ret ?_
    refine ret_ok (hands3 rfl (.cell ag_41 rfl (by repeat (first | exact Pick.here _ _ _ | apply Pick.next)) (by rfl)) (.cell ag_41 rfl (by repeat (first | exact Pick.here _ _ _ | apply Pick.next)) (by rfl)) (.tmp rfl)) (.nil _) ?_
    first | exact ⟨_, _, _, _, rfl, rfl⟩ | exact absurd hA.1 (by assumption) | exact absurd hA.2 (by assumption)
  · (try simp only [Bool.not_eq_true', Bool.not_eq_false', Bool.not_eq_true, Bool.not_eq_false, decide_eq_true_eq, decide_eq_false_iff_not, List.length_map, List.length_range] at h2)
    refine aops_guard_t rfl rfl rfl (w_pure rfl (p_load_v_all ag_41 rfl (by rfl) noX) ?_)
    refine aops_guard_t rfl rfl rfl (w_callR rfl rfl rfl cl_28 (c_impl_IsPort _ ‹_›) ?_)
    refine aops_guard_t rfl rfl rfl (w_pure rfl (p_not rfl) ?_)
    refine aops_cons rfl (w_pure rfl (p_pick_f rfl rfl) ?_)
    refine aops_nil ?_
    first | refine a_cond_d rfl (fun h3 => ?_) (fun h4 => ?_) | refine a_cond_n rfl (fun h3 => ?_) (fun h4 => ?_) | refine a_cond_nb rfl (fun h3 => ?_) (fun h4 => ?_) | refine a_cond rfl (fun h3 => ?_) (fun h4 => ?_)
    · (try simp only [Bool.not_eq_true', Bool.not_eq_false', Bool.not_eq_true, Bool.not_eq_false, decide_eq_true_eq, decide_eq_false_iff_not, List.length_map, List.length_range] at h3)
      refine a_seq ?_
      refine a_region ?_
      refine aops_cons rfl (w_pure rfl (p_build (cells := [_, _, _, _]) z_41 pl_41 rfl rfl) ?_)
      refine aops_cons rfl (w_pure rfl (p_build (cells := [_, _, _, _]) z_41 pl_41 rfl rfl) ?_)
      refine aops_cons rfl (w_store (cells' := [_, _, _, _]) rfl rfl rfl (by repeat (first | exact Pick.here _ _ _ | apply Pick.next)) cn_41 (by rfl) (by rfl) (by rfl) trivial ?_)
      refine aops_cons rfl (w_store (cells' := [_, _, _, _]) rfl rfl rfl (by repeat (first | exact Pick.here _ _ _ | apply Pick.next)) cn_41 (by rfl) (by rfl) (by rfl) trivial ?_)
      refine aops_cons rfl (w_pure rfl (p_assign rfl) ?_)
      refine aops_nil ?_
      refine a_ret ?_
      refine ret_ok (hands3 rfl (.cell ag_41 rfl (by repeat (first | exact Pick.here _ _ _ | apply Pick.next)) (by rfl)) (.cell ag_41 rfl (by repeat (first | exact Pick.here _ _ _ | apply Pick.next)) (by rfl)) (.tmp rfl)) (.nil _) ?_
      first | exact ⟨_, _, _, _, rfl, rfl⟩ | exact absurd hA.1 (by assumption) | exact absurd hA.2 (by assumption)
    · (try simp only [Bool.not_eq_true', Bool.not_eq_false', Bool.not_eq_true, Bool.not_eq_false, decide_eq_true_eq, decide_eq_false_iff_not, List.length_map, List.length_range] at h4)
      refine a_skip ?_
      refine a_seq ?_
      refine a_draw [] (by kernel_rfl) ?_
      show ADraw _ _ _ _ _ _ 18 _ _ _ _
      refine d_take 0 rfl (by kernel_rfl) (by kernel_rfl) (by kernel_rfl) rfl (p_field_v fo_41_1 rfl) ?_
      refine d_load 1 rfl (by kernel_rfl) (by kernel_rfl) (by kernel_rfl) rfl (p_load_v ag_36 rfl (by rfl) noX) ?_
      refine d_take 2 rfl (by kernel_rfl) (by kernel_rfl) (by kernel_rfl) rfl (p_len sl_36 rfl rfl) ?_
      refine d_take 3 rfl (by kernel_rfl) (by kernel_rfl) (by kernel_rfl) rfl (p_field_v fo_41_0 rfl) ?_
      refine d_load 4 rfl (by kernel_rfl) (by kernel_rfl) (by kernel_rfl) rfl (p_load_v ag_36 rfl (by rfl) noX) ?_
      refine d_take 5 rfl (by kernel_rfl) (by kernel_rfl) (by kernel_rfl) rfl (p_len sl_36 rfl rfl) ?_
      refine d_take 6 rfl (by kernel_rfl) (by kernel_rfl) (by kernel_rfl) rfl (p_sub' rfl rfl ⟨by simp only [List.length_map]; omega, by simp only [List.length_map]; omega⟩) ?_
      refine d_take 7 rfl (by kernel_rfl) (by kernel_rfl) (by kernel_rfl) rfl (p_min2 rfl rfl) ?_
      refine d_take 8 rfl (by kernel_rfl) (by kernel_rfl) (by kernel_rfl) rfl (p_field_v fo_41_1 rfl) ?_
      refine d_load 9 rfl (by kernel_rfl) (by kernel_rfl) (by kernel_rfl) rfl (p_load_v ag_36 rfl (by rfl) noX) ?_
      refine d_take 10 rfl (by kernel_rfl) (by kernel_rfl) (by kernel_rfl) rfl (p_len sl_36 rfl rfl) ?_
      refine d_take 11 rfl (by kernel_rfl) (by kernel_rfl) (by kernel_rfl) rfl (p_field_v fo_41_0 rfl) ?_
      refine d_load 12 rfl (by kernel_rfl) (by kernel_rfl) (by kernel_rfl) rfl (p_load_v ag_36 rfl (by rfl) noX) ?_
      refine d_take 13 rfl (by kernel_rfl) (by kernel_rfl) (by kernel_rfl) rfl (p_len sl_36 rfl rfl) ?_
      refine d_take 14 rfl (by kernel_rfl) (by kernel_rfl) (by kernel_rfl) rfl (p_sub' rfl rfl ⟨by simp only [List.length_map]; omega, by simp only [List.length_map]; omega⟩) ?_
      refine d_take 15 rfl (by kernel_rfl) (by kernel_rfl) (by kernel_rfl) rfl (p_min2 rfl rfl) ?_
      refine d_take 16 rfl (by kernel_rfl) (by kernel_rfl) (by kernel_rfl) rfl (p_assign rfl) ?_
      refine d_take 17 rfl (by kernel_rfl) (by kernel_rfl) (by kernel_rfl) rfl (p_assign rfl) ?_
      refine draw_done (by kernel_rfl) ?_
      refine a_seq_join (ι := Nat × Nat × Nat) (fun ⟨q1, x1, y1⟩ => True) (fun ⟨q1, x1, y1⟩ => [(9, .ptr q1 0)]) (fun ⟨q1, x1, y1⟩ => [(q1, .box [.own 1 x1 0 (a.rx ++ b.tx.take (kL b a)).length, .own 1 y1 0 (a.tx.drop (kL a b)).length, .int .i64 a.depth, .bool (decide (a.depth ≤ ((a.rx ++ b.tx.take (kL b a)).length : Int)))]), (x1, .arr 3 1 ((a.rx ++ b.tx.take (kL b a)).map eInt)), (y1, .arr 3 1 ((a.tx.drop (kL a b)).map eInt))]) (old := []) (by repeat (first | exact Picks.nil _ | exact Pick.here _ _ _ | apply Pick.next | apply Picks.cons)) ?_ ?_
      · skip
        refine a_draw [] (by kernel_rfl) ?_
        show ADraw _ _ _ _ _ _ 17 _ _ _ _
        refine d_load 0 rfl (by kernel_rfl) (by kernel_rfl) (by kernel_rfl) rfl (p_load_v_all ag_41 rfl (by rfl) noX) ?_
        refine d_take 1 rfl (by kernel_rfl) (by kernel_rfl) (by kernel_rfl) rfl (p_field_v fo_41_0 rfl) ?_
        refine d_load 2 rfl (by kernel_rfl) (by kernel_rfl) (by kernel_rfl) rfl (p_load_v ag_36 rfl (by rfl) noX) ?_
        refine d_take 4 rfl (by kernel_rfl) (by kernel_rfl) (by kernel_rfl) rfl (p_field_v fo_41_1 rfl) ?_
        refine d_load 5 rfl (by kernel_rfl) (by kernel_rfl) (by kernel_rfl) rfl (p_load_v ag_36 rfl (by rfl) noX) ?_
        refine d_take 6 rfl (by kernel_rfl) (by kernel_rfl) (by kernel_rfl) rfl (p_move rfl) ?_
        refine d_take 7 rfl (by kernel_rfl) (by kernel_rfl) (by kernel_rfl) rfl (p_slice_sl 0 (kL b a) es_36 rfl rfl (hi_some rfl (by simp only [List.length_map]; unfold kL; have h16a := (IsPort.rx ‹IsPort a›); have h16b := (IsPort.rx ‹IsPort b›); omega)) (Nat.zero_le _) (by rw [List.length_map]; (try unfold kP); (try unfold kL); omega) (lenAll _ _ (fun _ => rfl)) (show ((b.tx.map eInt).take (kL b a)).drop 0 = (b.tx.take (kL b a)).map eInt by rw [List.drop_zero, List.map_take])) ?_
        refine d_take 9 rfl (by kernel_rfl) (by kernel_rfl) (by kernel_rfl) rfl (p_field_v fo_41_1 rfl) ?_
        refine d_load 10 rfl (by kernel_rfl) (by kernel_rfl) (by kernel_rfl) rfl (p_load_v ag_36 rfl (by rfl) noX) ?_
        refine d_take 11 rfl (by kernel_rfl) (by kernel_rfl) (by kernel_rfl) rfl (p_move rfl) ?_
        refine d_take 12 rfl (by kernel_rfl) (by kernel_rfl) (by kernel_rfl) rfl (p_slice_sl (kL a b) _ es_36 rfl (lo_some rfl (by simp only [List.length_map]; unfold kL; have h16a := (IsPort.rx ‹IsPort a›); have h16b := (IsPort.rx ‹IsPort b›); omega)) rfl (by rw [List.length_map]; (try unfold kP); (try unfold kL); omega) (Nat.le_refl _) (lenAll _ _ (fun _ => rfl)) (show ((a.tx.map eInt).take (a.tx.map eInt).length).drop (kL a b) = (a.tx.drop (kL a b)).map eInt by rw [List.take_length, List.map_drop])) ?_
        refine draw_all [3, 15] (by kernel_rfl) (by simp) ?_
        refine all_cons rfl rfl ?_ ?_
        · skip
          refine w_call rfl rfl rfl cl_69 ((co_impl_copyInts _ (by first | omega | (simp only [List.length_append, List.length_cons, List.length_nil, List.length_take, List.length_drop]; omega) | (have q1 := IsPort.rx ‹IsPort p›; have q2 := IsPort.tx ‹IsPort p›; simp only [List.length_append, List.length_cons, List.length_nil, List.length_take, List.length_drop]; omega) | (have q1 := IsPort.rx ‹IsPort a›; have q2 := IsPort.rx ‹IsPort b›; simp only [kL, List.length_append, List.length_cons, List.length_nil, List.length_take, List.length_drop]; omega))).mono fun _ _ h => h.len) ?_
          rintro _ _ ⟨b3, rfl, rfl⟩
          refine draw_all [8, 15] (by kernel_rfl) (by simp) ?_
          refine all_cons rfl rfl ?_ ?_
          · skip
            refine w_appendM eInt rfl el_36 rfl rfl (by repeat (first | exact Pick.here _ _ _ | apply Pick.next)) rfl (.sl _) (fun _ => rfl) (fun _ => rfl) (by simp; omega) (by simp; omega) (by first | (refine .inl ?_; simp; done) | (refine .inr ?_; simp [keys]; done)) fun b4 => ?_
            refine draw_all [13, 15] (by kernel_rfl) (by simp) ?_
            refine all_cons rfl rfl ?_ ?_
            · skip
              refine w_call rfl rfl rfl cl_69 ((co_impl_copyInts _ (by first | omega | (simp only [List.length_append, List.length_cons, List.length_nil, List.length_take, List.length_drop]; omega) | (have q1 := IsPort.rx ‹IsPort p›; have q2 := IsPort.tx ‹IsPort p›; simp only [List.length_append, List.length_cons, List.length_nil, List.length_take, List.length_drop]; omega) | (have q1 := IsPort.rx ‹IsPort a›; have q2 := IsPort.rx ‹IsPort b›; simp only [kL, List.length_append, List.length_cons, List.length_nil, List.length_take, List.length_drop]; omega))).mono fun _ _ h => h.len) ?_
              rintro _ _ ⟨b5, rfl, rfl⟩
              refine draw_all [14, 15] (by kernel_rfl) (by simp) ?_
              refine all_cons rfl rfl ?_ ?_
              · skip
                refine w_callR rfl rfl rfl cl_68 (c_impl_portWith _ _ _ _ _) ?_
                refine draw_all [15] (by kernel_rfl) (by simp) ?_
                refine all_cons rfl rfl ?_ ?_
                · skip
                  refine w_alloc rfl z_41 fun b6 => ?_
                  refine draw_all [16] (by kernel_rfl) (by simp) ?_
                  refine all_cons rfl rfl ?_ ?_
                  · skip
                    refine w_store (cells' := [_, _, _, _]) rfl rfl rfl (by repeat (first | exact Pick.here _ _ _ | apply Pick.next)) cn_41 (by rfl) (by rfl) (by rfl) (by first | (refine .inl ?_; simp; done) | (refine .inr ?_; simp [keys]; done)) ?_
                    refine draw_done (by kernel_rfl) ?_
                    exact ⟨⟨b6, b4, b5⟩, _, trivial, (by repeat (first | exact Knows.nil | refine Knows.cons (by rfl) ?_)), (by repeat (first | exact Back.refl _ _ | refine Back.cons (by rfl) ?_)), (by repeat (first | exact Picks.nil _ | exact Pick.here _ _ _ | apply Pick.next | apply Picks.cons))⟩
                  exact all_nil
                exact all_nil
              refine all_cons rfl rfl ?_ ?_
              · skip
                refine w_alloc rfl z_41 fun b7 => ?_
                refine draw_all [14] (by kernel_rfl) (by simp) ?_
                refine all_cons rfl rfl ?_ ?_
                · skip
                  refine w_callR rfl rfl rfl cl_68 (c_impl_portWith _ _ _ _ _) ?_
                  refine draw_all [16] (by kernel_rfl) (by simp) ?_
                  refine all_cons rfl rfl ?_ ?_
                  · skip
                    refine w_store (cells' := [_, _, _, _]) rfl rfl rfl (by repeat (first | exact Pick.here _ _ _ | apply Pick.next)) cn_41 (by rfl) (by rfl) (by rfl) (by first | (refine .inl ?_; simp; done) | (refine .inr ?_; simp [keys]; done)) ?_
                    refine draw_done (by kernel_rfl) ?_
                    exact ⟨⟨b7, b4, b5⟩, _, trivial, (by repeat (first | exact Knows.nil | refine Knows.cons (by rfl) ?_)), (by repeat (first | exact Back.refl _ _ | refine Back.cons (by rfl) ?_)), (by repeat (first | exact Picks.nil _ | exact Pick.here _ _ _ | apply Pick.next | apply Picks.cons))⟩
                  exact all_nil
                exact all_nil
              exact all_nil
            refine all_cons rfl rfl ?_ ?_
            · skip
              refine w_alloc rfl z_41 fun b8 => ?_
              refine draw_all [13] (by kernel_rfl) (by simp) ?_
              refine all_cons rfl rfl ?_ ?_
              · skip
                refine w_call rfl rfl rfl cl_69 ((co_impl_copyInts _ (by first | omega | (simp only [List.length_append, List.length_cons, List.length_nil, List.length_take, List.length_drop]; omega) | (have q1 := IsPort.rx ‹IsPort p›; have q2 := IsPort.tx ‹IsPort p›; simp only [List.length_append, List.length_cons, List.length_nil, List.length_take, List.length_drop]; omega) | (have q1 := IsPort.rx ‹IsPort a›; have q2 := IsPort.rx ‹IsPort b›; simp only [kL, List.length_append, List.length_cons, List.length_nil, List.length_take, List.length_drop]; omega))).mono fun _ _ h => h.len) ?_
                rintro _ _ ⟨b9, rfl, rfl⟩
                refine draw_all [14] (by kernel_rfl) (by simp) ?_
                refine all_cons rfl rfl ?_ ?_
                · skip
                  refine w_callR rfl rfl rfl cl_68 (c_impl_portWith _ _ _ _ _) ?_
                  refine draw_all [16] (by kernel_rfl) (by simp) ?_
                  refine all_cons rfl rfl ?_ ?_
                  · skip
                    refine w_store (cells' := [_, _, _, _]) rfl rfl rfl (by repeat (first | exact Pick.here _ _ _ | apply Pick.next)) cn_41 (by rfl) (by rfl) (by rfl) (by first | (refine .inl ?_; simp; done) | (refine .inr ?_; simp [keys]; done)) ?_
                    refine draw_done (by kernel_rfl) ?_
                    exact ⟨⟨b8, b4, b9⟩, _, trivial, (by repeat (first | exact Knows.nil | refine Knows.cons (by rfl) ?_)), (by repeat (first | exact Back.refl _ _ | refine Back.cons (by rfl) ?_)), (by repeat (first | exact Picks.nil _ | exact Pick.here _ _ _ | apply Pick.next | apply Picks.cons))⟩
                  exact all_nil
                exact all_nil
              exact all_nil
            exact all_nil
          refine all_cons rfl rfl ?_ ?_
          · skip
            refine w_alloc rfl z_41 fun b10 => ?_
            refine draw_all [8] (by kernel_rfl) (by simp) ?_
            refine all_cons rfl rfl ?_ ?_
            · skip
              refine w_appendM eInt rfl el_36 rfl rfl (by repeat (first | exact Pick.here _ _ _ | apply Pick.next)) rfl (.sl _) (fun _ => rfl) (fun _ => rfl) (by simp; omega) (by simp; omega) (by first | (refine .inl ?_; simp; done) | (refine .inr ?_; simp [keys]; done)) fun b11 => ?_
              refine draw_all [13] (by kernel_rfl) (by simp) ?_
              refine all_cons rfl rfl ?_ ?_
              · skip
                refine w_call rfl rfl rfl cl_69 ((co_impl_copyInts _ (by first | omega | (simp only [List.length_append, List.length_cons, List.length_nil, List.length_take, List.length_drop]; omega) | (have q1 := IsPort.rx ‹IsPort p›; have q2 := IsPort.tx ‹IsPort p›; simp only [List.length_append, List.length_cons, List.length_nil, List.length_take, List.length_drop]; omega) | (have q1 := IsPort.rx ‹IsPort a›; have q2 := IsPort.rx ‹IsPort b›; simp only [kL, List.length_append, List.length_cons, List.length_nil, List.length_take, List.length_drop]; omega))).mono fun _ _ h => h.len) ?_
                rintro _ _ ⟨b12, rfl, rfl⟩
                refine draw_all [14] (by kernel_rfl) (by simp) ?_
                refine all_cons rfl rfl ?_ ?_
                · skip
                  refine w_callR rfl rfl rfl cl_68 (c_impl_portWith _ _ _ _ _) ?_
                  refine draw_all [16] (by kernel_rfl) (by simp) ?_
                  refine all_cons rfl rfl ?_ ?_
                  · skip
                    refine w_store (cells' := [_, _, _, _]) rfl rfl rfl (by repeat (first | exact Pick.here _ _ _ | apply Pick.next)) cn_41 (by rfl) (by rfl) (by rfl) (by first | (refine .inl ?_; simp; done) | (refine .inr ?_; simp [keys]; done)) ?_
                    refine draw_done (by kernel_rfl) ?_
                    exact ⟨⟨b10, b11, b12⟩, _, trivial, (by repeat (first | exact Knows.nil | refine Knows.cons (by rfl) ?_)), (by repeat (first | exact Back.refl _ _ | refine Back.cons (by rfl) ?_)), (by repeat (first | exact Picks.nil _ | exact Pick.here _ _ _ | apply Pick.next | apply Picks.cons))⟩
                  exact all_nil
                exact all_nil
              exact all_nil
            exact all_nil
          exact all_nil
        refine all_cons rfl rfl ?_ ?_
        · skip
          refine w_alloc rfl z_41 fun b13 => ?_
          refine draw_all [3] (by kernel_rfl) (by simp) ?_
          refine all_cons rfl rfl ?_ ?_
          · skip
            refine w_call rfl rfl rfl cl_69 ((co_impl_copyInts _ (by first | omega | (simp only [List.length_append, List.length_cons, List.length_nil, List.length_take, List.length_drop]; omega) | (have q1 := IsPort.rx ‹IsPort p›; have q2 := IsPort.tx ‹IsPort p›; simp only [List.length_append, List.length_cons, List.length_nil, List.length_take, List.length_drop]; omega) | (have q1 := IsPort.rx ‹IsPort a›; have q2 := IsPort.rx ‹IsPort b›; simp only [kL, List.length_append, List.length_cons, List.length_nil, List.length_take, List.length_drop]; omega))).mono fun _ _ h => h.len) ?_
            rintro _ _ ⟨b14, rfl, rfl⟩
            refine draw_all [8] (by kernel_rfl) (by simp) ?_
            refine all_cons rfl rfl ?_ ?_
            · skip
              refine w_appendM eInt rfl el_36 rfl rfl (by repeat (first | exact Pick.here _ _ _ | apply Pick.next)) rfl (.sl _) (fun _ => rfl) (fun _ => rfl) (by simp; omega) (by simp; omega) (by first | (refine .inl ?_; simp; done) | (refine .inr ?_; simp [keys]; done)) fun b15 => ?_
              refine draw_all [13] (by kernel_rfl) (by simp) ?_
              refine all_cons rfl rfl ?_ ?_
              · skip
                refine w_call rfl rfl rfl cl_69 ((co_impl_copyInts _ (by first | omega | (simp only [List.length_append, List.length_cons, List.length_nil, List.length_take, List.length_drop]; omega) | (have q1 := IsPort.rx ‹IsPort p›; have q2 := IsPort.tx ‹IsPort p›; simp only [List.length_append, List.length_cons, List.length_nil, List.length_take, List.length_drop]; omega) | (have q1 := IsPort.rx ‹IsPort a›; have q2 := IsPort.rx ‹IsPort b›; simp only [kL, List.length_append, List.length_cons, List.length_nil, List.length_take, List.length_drop]; omega))).mono fun _ _ h => h.len) ?_
                rintro _ _ ⟨b16, rfl, rfl⟩
                refine draw_all [14] (by kernel_rfl) (by simp) ?_
                refine all_cons rfl rfl ?_ ?_
                · skip
                  refine w_callR rfl rfl rfl cl_68 (c_impl_portWith _ _ _ _ _) ?_
                  refine draw_all [16] (by kernel_rfl) (by simp) ?_
                  refine all_cons rfl rfl ?_ ?_
                  · skip
                    refine w_store (cells' := [_, _, _, _]) rfl rfl rfl (by repeat (first | exact Pick.here _ _ _ | apply Pick.next)) cn_41 (by rfl) (by rfl) (by rfl) (by first | (refine .inl ?_; simp; done) | (refine .inr ?_; simp [keys]; done)) ?_
                    refine draw_done (by kernel_rfl) ?_
                    exact ⟨⟨b13, b15, b16⟩, _, trivial, (by repeat (first | exact Knows.nil | refine Knows.cons (by rfl) ?_)), (by repeat (first | exact Back.refl _ _ | refine Back.cons (by rfl) ?_)), (by repeat (first | exact Picks.nil _ | exact Pick.here _ _ _ | apply Pick.next | apply Picks.cons))⟩
                  exact all_nil
                exact all_nil
              exact all_nil
            exact all_nil
          exact all_nil
        exact all_nil
      · rintro ⟨q1, x1, y1⟩ -
        refine a_seq_join (ι := Nat × Nat × Nat) (fun ⟨q2, x2, y2⟩ => True) (fun ⟨q2, x2, y2⟩ => [(10, .ptr q2 0)]) (fun ⟨q2, x2, y2⟩ => [(q2, .box [.own 1 x2 0 (b.rx ++ a.tx.take (kL a b)).length, .own 1 y2 0 (b.tx.drop (kL b a)).length, .int .i64 b.depth, .bool (decide (b.depth ≤ ((b.rx ++ a.tx.take (kL a b)).length : Int)))]), (x2, .arr 3 1 ((b.rx ++ a.tx.take (kL a b)).map eInt)), (y2, .arr 3 1 ((b.tx.drop (kL b a)).map eInt))]) (old := []) (by repeat (first | exact Picks.nil _ | exact Pick.here _ _ _ | apply Pick.next | apply Picks.cons)) ?_ ?_
        · skip
          refine a_draw [] (by kernel_rfl) ?_
          show ADraw _ _ _ _ _ _ 17 _ _ _ _
          refine d_load 0 rfl (by kernel_rfl) (by kernel_rfl) (by kernel_rfl) rfl (p_load_v_all ag_41 rfl (by rfl) noX) ?_
          refine d_take 1 rfl (by kernel_rfl) (by kernel_rfl) (by kernel_rfl) rfl (p_field_v fo_41_0 rfl) ?_
          refine d_load 2 rfl (by kernel_rfl) (by kernel_rfl) (by kernel_rfl) rfl (p_load_v ag_36 rfl (by rfl) noX) ?_
          refine d_take 4 rfl (by kernel_rfl) (by kernel_rfl) (by kernel_rfl) rfl (p_field_v fo_41_1 rfl) ?_
          refine d_load 5 rfl (by kernel_rfl) (by kernel_rfl) (by kernel_rfl) rfl (p_load_v ag_36 rfl (by rfl) noX) ?_
          refine d_take 6 rfl (by kernel_rfl) (by kernel_rfl) (by kernel_rfl) rfl (p_move rfl) ?_
          refine d_take 7 rfl (by kernel_rfl) (by kernel_rfl) (by kernel_rfl) rfl (p_slice_sl 0 (kL a b) es_36 rfl rfl (hi_some rfl (by simp only [List.length_map]; unfold kL; have h16a := (IsPort.rx ‹IsPort a›); have h16b := (IsPort.rx ‹IsPort b›); omega)) (Nat.zero_le _) (by rw [List.length_map]; (try unfold kP); (try unfold kL); omega) (lenAll _ _ (fun _ => rfl)) (show ((a.tx.map eInt).take (kL a b)).drop 0 = (a.tx.take (kL a b)).map eInt by rw [List.drop_zero, List.map_take])) ?_
          refine d_take 9 rfl (by kernel_rfl) (by kernel_rfl) (by kernel_rfl) rfl (p_field_v fo_41_1 rfl) ?_
          refine d_load 10 rfl (by kernel_rfl) (by kernel_rfl) (by kernel_rfl) rfl (p_load_v ag_36 rfl (by rfl) noX) ?_
          refine d_take 11 rfl (by kernel_rfl) (by kernel_rfl) (by kernel_rfl) rfl (p_move rfl) ?_
          refine d_take 12 rfl (by kernel_rfl) (by kernel_rfl) (by kernel_rfl) rfl (p_slice_sl (kL b a) _ es_36 rfl (lo_some rfl (by simp only [List.length_map]; unfold kL; have h16a := (IsPort.rx ‹IsPort a›); have h16b := (IsPort.rx ‹IsPort b›); omega)) rfl (by rw [List.length_map]; (try unfold kP); (try unfold kL); omega) (Nat.le_refl _) (lenAll _ _ (fun _ => rfl)) (show ((b.tx.map eInt).take (b.tx.map eInt).length).drop (kL b a) = (b.tx.drop (kL b a)).map eInt by rw [List.take_length, List.map_drop])) ?_
          refine draw_all [3, 15] (by kernel_rfl) (by simp) ?_
          refine all_cons rfl rfl ?_ ?_
          · skip
            refine w_call rfl rfl rfl cl_69 ((co_impl_copyInts _ (by first | omega | (simp only [List.length_append, List.length_cons, List.length_nil, List.length_take, List.length_drop]; omega) | (have q1 := IsPort.rx ‹IsPort p›; have q2 := IsPort.tx ‹IsPort p›; simp only [List.length_append, List.length_cons, List.length_nil, List.length_take, List.length_drop]; omega) | (have q1 := IsPort.rx ‹IsPort a›; have q2 := IsPort.rx ‹IsPort b›; simp only [kL, List.length_append, List.length_cons, List.length_nil, List.length_take, List.length_drop]; omega))).mono fun _ _ h => h.len) ?_
            rintro _ _ ⟨b17, rfl, rfl⟩
            refine draw_all [8, 15] (by kernel_rfl) (by simp) ?_
            refine all_cons rfl rfl ?_ ?_
            · skip
              refine w_appendM eInt rfl el_36 rfl rfl (by repeat (first | exact Pick.here _ _ _ | apply Pick.next)) rfl (.sl _) (fun _ => rfl) (fun _ => rfl) (by simp; omega) (by simp; omega) (by first | (refine .inl ?_; simp; done) | (refine .inr ?_; simp [keys]; done)) fun b18 => ?_
              refine draw_all [13, 15] (by kernel_rfl) (by simp) ?_
              refine all_cons rfl rfl ?_ ?_
              · skip
                refine w_call rfl rfl rfl cl_69 ((co_impl_copyInts _ (by first | omega | (simp only [List.length_append, List.length_cons, List.length_nil, List.length_take, List.length_drop]; omega) | (have q1 := IsPort.rx ‹IsPort p›; have q2 := IsPort.tx ‹IsPort p›; simp only [List.length_append, List.length_cons, List.length_nil, List.length_take, List.length_drop]; omega) | (have q1 := IsPort.rx ‹IsPort a›; have q2 := IsPort.rx ‹IsPort b›; simp only [kL, List.length_append, List.length_cons, List.length_nil, List.length_take, List.length_drop]; omega))).mono fun _ _ h => h.len) ?_
                rintro _ _ ⟨b19, rfl, rfl⟩
                refine draw_all [14, 15] (by kernel_rfl) (by simp) ?_
                refine all_cons rfl rfl ?_ ?_
                · skip
                  refine w_callR rfl rfl rfl cl_68 (c_impl_portWith _ _ _ _ _) ?_
                  refine draw_all [15] (by kernel_rfl) (by simp) ?_
                  refine all_cons rfl rfl ?_ ?_
                  · skip
                    refine w_alloc rfl z_41 fun b20 => ?_
                    refine draw_all [16] (by kernel_rfl) (by simp) ?_
                    refine all_cons rfl rfl ?_ ?_
                    · skip
                      refine w_store (cells' := [_, _, _, _]) rfl rfl rfl (by repeat (first | exact Pick.here _ _ _ | apply Pick.next)) cn_41 (by rfl) (by rfl) (by rfl) (by first | (refine .inl ?_; simp; done) | (refine .inr ?_; simp [keys]; done)) ?_
                      refine draw_done (by kernel_rfl) ?_
                      exact ⟨⟨b20, b18, b19⟩, _, trivial, (by repeat (first | exact Knows.nil | refine Knows.cons (by rfl) ?_)), (by repeat (first | exact Back.refl _ _ | refine Back.cons (by rfl) ?_)), (by repeat (first | exact Picks.nil _ | exact Pick.here _ _ _ | apply Pick.next | apply Picks.cons))⟩
                    exact all_nil
                  exact all_nil
                refine all_cons rfl rfl ?_ ?_
                · skip
                  refine w_alloc rfl z_41 fun b21 => ?_
                  refine draw_all [14] (by kernel_rfl) (by simp) ?_
                  refine all_cons rfl rfl ?_ ?_
                  · skip
                    refine w_callR rfl rfl rfl cl_68 (c_impl_portWith _ _ _ _ _) ?_
                    refine draw_all [16] (by kernel_rfl) (by simp) ?_
                    refine all_cons rfl rfl ?_ ?_
                    · skip
                      refine w_store (cells' := [_, _, _, _]) rfl rfl rfl (by repeat (first | exact Pick.here _ _ _ | apply Pick.next)) cn_41 (by rfl) (by rfl) (by rfl) (by first | (refine .inl ?_; simp; done) | (refine .inr ?_; simp [keys]; done)) ?_
                      refine draw_done (by kernel_rfl) ?_
                      exact ⟨⟨b21, b18, b19⟩, _, trivial, (by repeat (first | exact Knows.nil | refine Knows.cons (by rfl) ?_)), (by repeat (first | exact Back.refl _ _ | refine Back.cons (by rfl) ?_)), (by repeat (first | exact Picks.nil _ | exact Pick.here _ _ _ | apply Pick.next | apply Picks.cons))⟩
                    exact all_nil
                  exact all_nil
                exact all_nil
              refine all_cons rfl rfl ?_ ?_
              · skip
                refine w_alloc rfl z_41 fun b22 => ?_
                refine draw_all [13] (by kernel_rfl) (by simp) ?_
                refine all_cons rfl rfl ?_ ?_
                · skip
                  refine w_call rfl rfl rfl cl_69 ((co_impl_copyInts _ (by first | omega | (simp only [List.length_append, List.length_cons, List.length_nil, List.length_take, List.length_drop]; omega) | (have q1 := IsPort.rx ‹IsPort p›; have q2 := IsPort.tx ‹IsPort p›; simp only [List.length_append, List.length_cons, List.length_nil, List.length_take, List.length_drop]; omega) | (have q1 := IsPort.rx ‹IsPort a›; have q2 := IsPort.rx ‹IsPort b›; simp only [kL, List.length_append, List.length_cons, List.length_nil, List.length_take, List.length_drop]; omega))).mono fun _ _ h => h.len) ?_
                  rintro _ _ ⟨b23, rfl, rfl⟩
                  refine draw_all [14] (by kernel_rfl) (by simp) ?_
                  refine all_cons rfl rfl ?_ ?_
                  · skip
                    refine w_callR rfl rfl rfl cl_68 (c_impl_portWith _ _ _ _ _) ?_
                    refine draw_all [16] (by kernel_rfl) (by simp) ?_
                    refine all_cons rfl rfl ?_ ?_
                    · skip
                      refine w_store (cells' := [_, _, _, _]) rfl rfl rfl (by repeat (first | exact Pick.here _ _ _ | apply Pick.next)) cn_41 (by rfl) (by rfl) (by rfl) (by first | (refine .inl ?_; simp; done) | (refine .inr ?_; simp [keys]; done)) ?_
                      refine draw_done (by kernel_rfl) ?_
                      exact ⟨⟨b22, b18, b23⟩, _, trivial, (by repeat (first | exact Knows.nil | refine Knows.cons (by rfl) ?_)), (by repeat (first | exact Back.refl _ _ | refine Back.cons (by rfl) ?_)), (by repeat (first | exact Picks.nil _ | exact Pick.here _ _ _ | apply Pick.next | apply Picks.cons))⟩
                    exact all_nil
                  exact all_nil
                exact all_nil
              exact all_nil
            refine all_cons rfl rfl ?_ ?_
            · skip
              refine w_alloc rfl z_41 fun b24 => ?_
              refine draw_all [8] (by kernel_rfl) (by simp) ?_
              refine all_cons rfl rfl ?_ ?_
              · skip
                refine w_appendM eInt rfl el_36 rfl rfl (by repeat (first | exact Pick.here _ _ _ | apply Pick.next)) rfl (.sl _) (fun _ => rfl) (fun _ => rfl) (by simp; omega) (by simp; omega) (by first | (refine .inl ?_; simp; done) | (refine .inr ?_; simp [keys]; done)) fun b25 => ?_
                refine draw_all [13] (by kernel_rfl) (by simp) ?_
                refine all_cons rfl rfl ?_ ?_
                · skip
                  refine w_call rfl rfl rfl cl_69 ((co_impl_copyInts _ (by first | omega | (simp only [List.length_append, List.length_cons, List.length_nil, List.length_take, List.length_drop]; omega) | (have q1 := IsPort.rx ‹IsPort p›; have q2 := IsPort.tx ‹IsPort p›; simp only [List.length_append, List.length_cons, List.length_nil, List.length_take, List.length_drop]; omega) | (have q1 := IsPort.rx ‹IsPort a›; have q2 := IsPort.rx ‹IsPort b›; simp only [kL, List.length_append, List.length_cons, List.length_nil, List.length_take, List.length_drop]; omega))).mono fun _ _ h => h.len) ?_
                  rintro _ _ ⟨b26, rfl, rfl⟩
                  refine draw_all [14] (by kernel_rfl) (by simp) ?_
                  refine all_cons rfl rfl ?_ ?_
                  · skip
                    refine w_callR rfl rfl rfl cl_68 (c_impl_portWith _ _ _ _ _) ?_
                    refine draw_all [16] (by kernel_rfl) (by simp) ?_
                    refine all_cons rfl rfl ?_ ?_
                    · skip
                      refine w_store (cells' := [_, _, _, _]) rfl rfl rfl (by repeat (first | exact Pick.here _ _ _ | apply Pick.next)) cn_41 (by rfl) (by rfl) (by rfl) (by first | (refine .inl ?_; simp; done) | (refine .inr ?_; simp [keys]; done)) ?_
                      refine draw_done (by kernel_rfl) ?_
                      exact ⟨⟨b24, b25, b26⟩, _, trivial, (by repeat (first | exact Knows.nil | refine Knows.cons (by rfl) ?_)), (by repeat (first | exact Back.refl _ _ | refine Back.cons (by rfl) ?_)), (by repeat (first | exact Picks.nil _ | exact Pick.here _ _ _ | apply Pick.next | apply Picks.cons))⟩
                    exact all_nil
                  exact all_nil
                exact all_nil
              exact all_nil
            exact all_nil
          refine all_cons rfl rfl ?_ ?_
          · skip
            refine w_alloc rfl z_41 fun b27 => ?_
            refine draw_all [3] (by kernel_rfl) (by simp) ?_
            refine all_cons rfl rfl ?_ ?_
            · skip
              refine w_call rfl rfl rfl cl_69 ((co_impl_copyInts _ (by first | omega | (simp only [List.length_append, List.length_cons, List.length_nil, List.length_take, List.length_drop]; omega) | (have q1 := IsPort.rx ‹IsPort p›; have q2 := IsPort.tx ‹IsPort p›; simp only [List.length_append, List.length_cons, List.length_nil, List.length_take, List.length_drop]; omega) | (have q1 := IsPort.rx ‹IsPort a›; have q2 := IsPort.rx ‹IsPort b›; simp only [kL, List.length_append, List.length_cons, List.length_nil, List.length_take, List.length_drop]; omega))).mono fun _ _ h => h.len) ?_
              rintro _ _ ⟨b28, rfl, rfl⟩
              refine draw_all [8] (by kernel_rfl) (by simp) ?_
              refine all_cons rfl rfl ?_ ?_
              · skip
                refine w_appendM eInt rfl el_36 rfl rfl (by repeat (first | exact Pick.here _ _ _ | apply Pick.next)) rfl (.sl _) (fun _ => rfl) (fun _ => rfl) (by simp; omega) (by simp; omega) (by first | (refine .inl ?_; simp; done) | (refine .inr ?_; simp [keys]; done)) fun b29 => ?_
                refine draw_all [13] (by kernel_rfl) (by simp) ?_
                refine all_cons rfl rfl ?_ ?_
                · skip
                  refine w_call rfl rfl rfl cl_69 ((co_impl_copyInts _ (by first | omega | (simp only [List.length_append, List.length_cons, List.length_nil, List.length_take, List.length_drop]; omega) | (have q1 := IsPort.rx ‹IsPort p›; have q2 := IsPort.tx ‹IsPort p›; simp only [List.length_append, List.length_cons, List.length_nil, List.length_take, List.length_drop]; omega) | (have q1 := IsPort.rx ‹IsPort a›; have q2 := IsPort.rx ‹IsPort b›; simp only [kL, List.length_append, List.length_cons, List.length_nil, List.length_take, List.length_drop]; omega))).mono fun _ _ h => h.len) ?_
                  rintro _ _ ⟨b30, rfl, rfl⟩
                  refine draw_all [14] (by kernel_rfl) (by simp) ?_
                  refine all_cons rfl rfl ?_ ?_
                  · skip
                    refine w_callR rfl rfl rfl cl_68 (c_impl_portWith _ _ _ _ _) ?_
                    refine draw_all [16] (by kernel_rfl) (by simp) ?_
                    refine all_cons rfl rfl ?_ ?_
                    · skip
                      refine w_store (cells' := [_, _, _, _]) rfl rfl rfl (by repeat (first | exact Pick.here _ _ _ | apply Pick.next)) cn_41 (by rfl) (by rfl) (by rfl) (by first | (refine .inl ?_; simp; done) | (refine .inr ?_; simp [keys]; done)) ?_
                      refine draw_done (by kernel_rfl) ?_
                      exact ⟨⟨b27, b29, b30⟩, _, trivial, (by repeat (first | exact Knows.nil | refine Knows.cons (by rfl) ?_)), (by repeat (first | exact Back.refl _ _ | refine Back.cons (by rfl) ?_)), (by repeat (first | exact Picks.nil _ | exact Pick.here _ _ _ | apply Pick.next | apply Picks.cons))⟩
                    exact all_nil
                  exact all_nil
                exact all_nil
              exact all_nil
            exact all_nil
          exact all_nil
        · rintro ⟨q2, x2, y2⟩ -
          refine a_seq ?_
          refine a_draw [b1, b2] (by kernel_rfl) ?_
          show ADraw _ _ _ _ _ _ 5 _ _ _ _
          refine d_load 0 rfl (by kernel_rfl) (by kernel_rfl) (by kernel_rfl) rfl (p_load_box_all ag_41 rfl (by repeat (first | exact Pick.here _ _ _ | apply Pick.next)) (by rfl) (by simp [keys])) ?_
          refine d_load 1 rfl (by kernel_rfl) (by kernel_rfl) (by kernel_rfl) rfl (p_load_box_all ag_41 rfl (by repeat (first | exact Pick.here _ _ _ | apply Pick.next)) (by rfl) (by simp [keys])) ?_
          refine draw_all [2] (by kernel_rfl) (by simp) ?_
          refine all_cons rfl rfl ?_ ?_
          · skip
            refine w_store (cells' := [_, _, _, _]) rfl rfl rfl (by repeat (first | exact Pick.here _ _ _ | apply Pick.next)) cn_41 (by rfl) (by rfl) (by rfl) (by first | (refine .inl ?_; simp; done) | (refine .inr ?_; simp [keys]; done)) ?_
            refine draw_all [3] (by kernel_rfl) (by simp) ?_
            refine all_cons rfl rfl ?_ ?_
            · skip
              refine w_store (cells' := [_, _, _, _]) rfl rfl rfl (by repeat (first | exact Pick.here _ _ _ | apply Pick.next)) cn_41 (by rfl) (by rfl) (by rfl) (by first | (refine .inl ?_; simp; done) | (refine .inr ?_; simp [keys]; done)) ?_
              refine d_take 4 rfl (by kernel_rfl) (by kernel_rfl) (by kernel_rfl) rfl (p_assign rfl) ?_
              refine draw_done (by kernel_rfl) ?_
              refine a_ret ?_
              refine ret_ok (hands3 rfl (.cell ag_41 rfl (by repeat (first | exact Pick.here _ _ _ | apply Pick.next)) (by rfl)) (.cell ag_41 rfl (by repeat (first | exact Pick.here _ _ _ | apply Pick.next)) (by rfl)) (.tmp rfl)) (st' := [(x1, _), (y1, _), (x2, _), (y2, _)]) (.cons (by repeat (first | exact Pick.here _ _ _ | apply Pick.next)) (.cons (by repeat (first | exact Pick.here _ _ _ | apply Pick.next)) (.cons (by repeat (first | exact Pick.here _ _ _ | apply Pick.next)) (.cons (by repeat (first | exact Pick.here _ _ _ | apply Pick.next)) (.nil _))))) ?_
              first | exact ⟨_, _, _, _, rfl, rfl⟩ | exact absurd hA.1 (by assumption) | exact absurd hA.2 (by assumption)
            exact all_nil
          exact all_nil

theorem cf_impl_LoopPorts (a b : Port) (hn : SmallPort a) (hm : SmallPort b) (hA : GoodLoop a b) : ACalls Try.prog 48 [.agg (ePort a), .agg (ePort b)] [] (Ret (.tup [.agg (ePort (loopP a b)), .agg (ePort (loopP b a)), .bool true])) :=
  (cy_impl_LoopPorts a b hn hm hA).freeze (by rintro _ _ ⟨_, _, _, _, rfl, rfl⟩; exact (.tup (.cons (.agg (.cons (.own (by repeat (first | exact List.Mem.head _ | apply List.Mem.tail)) (List.length_map _)) (.cons (.own (by repeat (first | exact List.Mem.head _ | apply List.Mem.tail)) (List.length_map _)) (.cons (.refl _) (.cons (.refl _) .nil))))) (.cons (.agg (.cons (.own (by repeat (first | exact List.Mem.head _ | apply List.Mem.tail)) (List.length_map _)) (.cons (.own (by repeat (first | exact List.Mem.head _ | apply List.Mem.tail)) (List.length_map _)) (.cons (.refl _) (.cons (.refl _) .nil))))) (.cons (.refl _) .nil)))))

theorem cn_impl_LoopPorts (a b : Port) (hn : SmallPort a) (hm : SmallPort b) (hA : ¬ GoodLoop a b) : ACalls Try.prog 48 [.agg (ePort a), .agg (ePort b)] [] (Ret (.tup [.agg [.nil, .nil, .int .i64 0, .bool false], .agg [.nil, .nil, .int .i64 0, .bool false], .bool false])) := by
  have hn1 : a.rx.length ≤ 1048576 := hn.1
  have hn2 : a.tx.length ≤ 1048576 := hn.2
  have hm1 : b.rx.length ≤ 1048576 := hm.1
  have hm2 : b.tx.length ≤ 1048576 := hm.2
  refine a_enter Try.func48 rfl rfl (fun w0 M0 => ?_)
  refine a_seq ?_
  refine a_region ?_
  refine aops_cons rfl (w_box_v rfl rfl rfl ?_)
  refine aops_cons rfl (w_box_v rfl rfl rfl ?_)
  refine aops_cons rfl (w_alloc rfl z_41 fun b1 => ?_)
  refine aops_cons rfl (w_alloc rfl z_41 fun b2 => ?_)
  refine aops_cons rfl (w_pure rfl (p_assign rfl) ?_)
  refine aops_nil ?_
  refine a_seq ?_
  refine a_seq ?_
  refine a_region ?_
  refine aops_cons rfl (w_pure rfl (p_load_v_all ag_41 rfl (by rfl) noX) ?_)
  refine aops_cons rfl (w_callR rfl rfl rfl cl_28 (c_impl_IsPort _ ‹_›) ?_)
  refine aops_cons rfl (w_pure rfl (p_not rfl) ?_)
  refine aops_cons rfl (w_pure rfl (p_move rfl) ?_)
  first | refine aops_split_d 14 rfl (fun h1 => ?_) (fun h2 => ?_) | refine aops_split 14 rfl (fun h1 => ?_) (fun h2 => ?_)
  · (try simp only [Bool.not_eq_true', Bool.not_eq_false', Bool.not_eq_true, Bool.not_eq_false, decide_eq_true_eq, decide_eq_false_iff_not, List.length_map, List.length_range] at h1)
    refine g_pass' rfl rfl rfl rfl rfl ?_
    refine g_pass' rfl rfl rfl rfl rfl ?_
    refine g_pass' rfl rfl rfl rfl rfl ?_
    refine aops_cons rfl (w_pure rfl (p_pick_t rfl rfl) ?_)
    refine aops_nil ?_
    refine a_cond_t rfl ?_
    refine a_seq ?_
    refine a_region ?_
    refine aops_cons rfl (w_pure rfl (p_build (cells := [_, _, _, _]) z_41 pl_41 rfl rfl) ?_)
    refine aops_cons rfl (w_pure rfl (p_build (cells := [_, _, _, _]) z_41 pl_41 rfl rfl) ?_)
    refine aops_cons rfl (w_store (cells' := [_, _, _, _]) rfl rfl rfl (by repeat (first | exact Pick.here _ _ _ | apply Pick.next)) cn_41 (by rfl) (by rfl) (by rfl) trivial ?_)
    refine aops_cons rfl (w_store (cells' := [_, _, _, _]) rfl rfl rfl (by repeat (first | exact Pick.here _ _ _ | apply Pick.next)) cn_41 (by rfl) (by rfl) (by rfl) trivial ?_)
    refine aops_cons rfl (w_pure rfl (p_assign rfl) ?_)
    refine aops_nil ?_
    refine a_ret ?_
    refine ret_ok (hands3 rfl (.cell ag_41 rfl (by repeat (first | exact Pick.here _ _ _ | apply Pick.next)) (by rfl)) (.cell ag_41 rfl (by repeat (first | exact Pick.here _ _ _ | apply Pick.next)) (by rfl)) (.tmp rfl)) (.nil _) ?_
    first | exact ⟨rfl, rfl⟩ | exact absurd (show GoodLoop a b from ⟨by assumption, by omega, by omega⟩) hA | exact absurd (show GoodLoop a b from ⟨by assumption, by omega⟩) hA | exact absurd (show GoodLoop a b from ⟨by assumption, by assumption⟩) hA
  · (try simp only [Bool.not_eq_true', Bool.not_eq_false', Bool.not_eq_true, Bool.not_eq_false, decide_eq_true_eq, decide_eq_false_iff_not, List.length_map, List.length_range] at h2)
    refine aops_guard_t rfl rfl rfl (w_pure rfl (p_load_v_all ag_41 rfl (by rfl) noX) ?_)
    refine aops_guard_t rfl rfl rfl (w_callR rfl rfl rfl cl_28 (c_impl_IsPort _ ‹_›) ?_)
    refine aops_guard_t rfl rfl rfl (w_pure rfl (p_not rfl) ?_)
    refine aops_cons rfl (w_pure rfl (p_pick_f rfl rfl) ?_)
    refine aops_nil ?_
    first | refine a_cond_d rfl (fun h3 => ?_) (fun h4 => ?_) | refine a_cond_n rfl (fun h3 => ?_) (fun h4 => ?_) | refine a_cond_nb rfl (fun h3 => ?_) (fun h4 => ?_) | refine a_cond rfl (fun h3 => ?_) (fun h4 => ?_)
    · (try simp only [Bool.not_eq_true', Bool.not_eq_false', Bool.not_eq_true, Bool.not_eq_false, decide_eq_true_eq, decide_eq_false_iff_not, List.length_map, List.length_range] at h3)
      refine a_seq ?_
      refine a_region ?_
      refine aops_cons rfl (w_pure rfl (p_build (cells := [_, _, _, _]) z_41 pl_41 rfl rfl) ?_)
      refine aops_cons rfl (w_pure rfl (p_build (cells := [_, _, _, _]) z_41 pl_41 rfl rfl) ?_)
      refine aops_cons rfl (w_store (cells' := [_, _, _, _]) rfl rfl rfl (by repeat (first | exact Pick.here _ _ _ | apply Pick.next)) cn_41 (by rfl) (by rfl) (by rfl) trivial ?_)
      refine aops_cons rfl (w_store (cells' := [_, _, _, _]) rfl rfl rfl (by repeat (first | exact Pick.here _ _ _ | apply Pick.next)) cn_41 (by rfl) (by rfl) (by rfl) trivial ?_)
      refine aops_cons rfl (w_pure rfl (p_assign rfl) ?_)
      refine aops_nil ?_
      refine a_ret ?_
      refine ret_ok (hands3 rfl (.cell ag_41 rfl (by repeat (first | exact Pick.here _ _ _ | apply Pick.next)) (by rfl)) (.cell ag_41 rfl (by repeat (first | exact Pick.here _ _ _ | apply Pick.next)) (by rfl)) (.tmp rfl)) (.nil _) ?_
      first | exact ⟨rfl, rfl⟩ | exact absurd (show GoodLoop a b from ⟨by assumption, by omega, by omega⟩) hA | exact absurd (show GoodLoop a b from ⟨by assumption, by omega⟩) hA | exact absurd (show GoodLoop a b from ⟨by assumption, by assumption⟩) hA
    · (try simp only [Bool.not_eq_true', Bool.not_eq_false', Bool.not_eq_true, Bool.not_eq_false, decide_eq_true_eq, decide_eq_false_iff_not, List.length_map, List.length_range] at h4)
      refine a_skip ?_
      refine a_seq ?_
      refine a_draw [] (by kernel_rfl) ?_
      show ADraw _ _ _ _ _ _ 18 _ _ _ _
      refine d_take 0 rfl (by kernel_rfl) (by kernel_rfl) (by kernel_rfl) rfl (p_field_v fo_41_1 rfl) ?_
      refine d_load 1 rfl (by kernel_rfl) (by kernel_rfl) (by kernel_rfl) rfl (p_load_v ag_36 rfl (by rfl) noX) ?_
      refine d_take 2 rfl (by kernel_rfl) (by kernel_rfl) (by kernel_rfl) rfl (p_len sl_36 rfl rfl) ?_
      refine d_take 3 rfl (by kernel_rfl) (by kernel_rfl) (by kernel_rfl) rfl (p_field_v fo_41_0 rfl) ?_
      refine d_load 4 rfl (by kernel_rfl) (by kernel_rfl) (by kernel_rfl) rfl (p_load_v ag_36 rfl (by rfl) noX) ?_
      refine d_take 5 rfl (by kernel_rfl) (by kernel_rfl) (by kernel_rfl) rfl (p_len sl_36 rfl rfl) ?_
      refine d_take 6 rfl (by kernel_rfl) (by kernel_rfl) (by kernel_rfl) rfl (p_sub' rfl rfl ⟨by simp only [List.length_map]; omega, by simp only [List.length_map]; omega⟩) ?_
      refine d_take 7 rfl (by kernel_rfl) (by kernel_rfl) (by kernel_rfl) rfl (p_min2 rfl rfl) ?_
      refine d_take 8 rfl (by kernel_rfl) (by kernel_rfl) (by kernel_rfl) rfl (p_field_v fo_41_1 rfl) ?_
      refine d_load 9 rfl (by kernel_rfl) (by kernel_rfl) (by kernel_rfl) rfl (p_load_v ag_36 rfl (by rfl) noX) ?_
      refine d_take 10 rfl (by kernel_rfl) (by kernel_rfl) (by kernel_rfl) rfl (p_len sl_36 rfl rfl) ?_
      refine d_take 11 rfl (by kernel_rfl) (by kernel_rfl) (by kernel_rfl) rfl (p_field_v fo_41_0 rfl) ?_
      refine d_load 12 rfl (by kernel_rfl) (by kernel_rfl) (by kernel_rfl) rfl (p_load_v ag_36 rfl (by rfl) noX) ?_
      refine d_take 13 rfl (by kernel_rfl) (by kernel_rfl) (by kernel_rfl) rfl (p_len sl_36 rfl rfl) ?_
      refine d_take 14 rfl (by kernel_rfl) (by kernel_rfl) (by kernel_rfl) rfl (p_sub' rfl rfl ⟨by simp only [List.length_map]; omega, by simp only [List.length_map]; omega⟩) ?_
      refine d_take 15 rfl (by kernel_rfl) (by kernel_rfl) (by kernel_rfl) rfl (p_min2 rfl rfl) ?_
      refine d_take 16 rfl (by kernel_rfl) (by kernel_rfl) (by kernel_rfl) rfl (p_assign rfl) ?_
      refine d_take 17 rfl (by kernel_rfl) (by kernel_rfl) (by kernel_rfl) rfl (p_assign rfl) ?_
      refine draw_done (by kernel_rfl) ?_
      refine a_seq_join (ι := Nat × Nat × Nat) (fun ⟨q1, x1, y1⟩ => True) (fun ⟨q1, x1, y1⟩ => [(9, .ptr q1 0)]) (fun ⟨q1, x1, y1⟩ => [(q1, .box [.own 1 x1 0 (a.rx ++ b.tx.take (kL b a)).length, .own 1 y1 0 (a.tx.drop (kL a b)).length, .int .i64 a.depth, .bool (decide (a.depth ≤ ((a.rx ++ b.tx.take (kL b a)).length : Int)))]), (x1, .arr 3 1 ((a.rx ++ b.tx.take (kL b a)).map eInt)), (y1, .arr 3 1 ((a.tx.drop (kL a b)).map eInt))]) (old := []) (by repeat (first | exact Picks.nil _ | exact Pick.here _ _ _ | apply Pick.next | apply Picks.cons)) ?_ ?_
      · skip
        refine a_draw [] (by kernel_rfl) ?_
        show ADraw _ _ _ _ _ _ 17 _ _ _ _
        refine d_load 0 rfl (by kernel_rfl) (by kernel_rfl) (by kernel_rfl) rfl (p_load_v_all ag_41 rfl (by rfl) noX) ?_
        refine d_take 1 rfl (by kernel_rfl) (by kernel_rfl) (by kernel_rfl) rfl (p_field_v fo_41_0 rfl) ?_
        refine d_load 2 rfl (by kernel_rfl) (by kernel_rfl) (by kernel_rfl) rfl (p_load_v ag_36 rfl (by rfl) noX) ?_
        refine d_take 4 rfl (by kernel_rfl) (by kernel_rfl) (by kernel_rfl) rfl (p_field_v fo_41_1 rfl) ?_
        refine d_load 5 rfl (by kernel_rfl) (by kernel_rfl) (by kernel_rfl) rfl (p_load_v ag_36 rfl (by rfl) noX) ?_
        refine d_take 6 rfl (by kernel_rfl) (by kernel_rfl) (by kernel_rfl) rfl (p_move rfl) ?_
        refine d_take 7 rfl (by kernel_rfl) (by kernel_rfl) (by kernel_rfl) rfl (p_slice_sl 0 (kL b a) es_36 rfl rfl (hi_some rfl (by simp only [List.length_map]; unfold kL; have h16a := (IsPort.rx ‹IsPort a›); have h16b := (IsPort.rx ‹IsPort b›); omega)) (Nat.zero_le _) (by rw [List.length_map]; (try unfold kP); (try unfold kL); omega) (lenAll _ _ (fun _ => rfl)) (show ((b.tx.map eInt).take (kL b a)).drop 0 = (b.tx.take (kL b a)).map eInt by rw [List.drop_zero, List.map_take])) ?_
        refine d_take 9 rfl (by kernel_rfl) (by kernel_rfl) (by kernel_rfl) rfl (p_field_v fo_41_1 rfl) ?_
        refine d_load 10 rfl (by kernel_rfl) (by kernel_rfl) (by kernel_rfl) rfl (p_load_v ag_36 rfl (by rfl) noX) ?_
        refine d_take 11 rfl (by kernel_rfl) (by kernel_rfl) (by kernel_rfl) rfl (p_move rfl) ?_
        refine d_take 12 rfl (by kernel_rfl) (by kernel_rfl) (by kernel_rfl) rfl (p_slice_sl (kL a b) _ es_36 rfl (lo_some rfl (by simp only [List.length_map]; unfold kL; have h16a := (IsPort.rx ‹IsPort a›); have h16b := (IsPort.rx ‹IsPort b›); omega)) rfl (by rw [List.length_map]; (try unfold kP); (try unfold kL); omega) (Nat.le_refl _) (lenAll _ _ (fun _ => rfl)) (show ((a.tx.map eInt).take (a.tx.map eInt).length).drop (kL a b) = (a.tx.drop (kL a b)).map eInt by rw [List.take_length, List.map_drop])) ?_
        refine draw_all [3, 15] (by kernel_rfl) (by simp) ?_
        refine all_cons rfl rfl ?_ ?_
        · skip
          refine w_call rfl rfl rfl cl_69 ((co_impl_copyInts _ (by first | omega | (simp only [List.length_append, List.length_cons, List.length_nil, List.length_take, List.length_drop]; omega) | (have q1 := IsPort.rx ‹IsPort p›; have q2 := IsPort.tx ‹IsPort p›; simp only [List.length_append, List.length_cons, List.length_nil, List.length_take, List.length_drop]; omega) | (have q1 := IsPort.rx ‹IsPort a›; have q2 := IsPort.rx ‹IsPort b›; simp only [kL, List.length_append, List.length_cons, List.length_nil, List.length_take, List.length_drop]; omega))).mono fun _ _ h => h.len) ?_
          rintro _ _ ⟨b3, rfl, rfl⟩
          refine draw_all [8, 15] (by kernel_rfl) (by simp) ?_
          refine all_cons rfl rfl ?_ ?_
          · skip
            refine w_appendM eInt rfl el_36 rfl rfl (by repeat (first | exact Pick.here _ _ _ | apply Pick.next)) rfl (.sl _) (fun _ => rfl) (fun _ => rfl) (by simp; omega) (by simp; omega) (by first | (refine .inl ?_; simp; done) | (refine .inr ?_; simp [keys]; done)) fun b4 => ?_
            refine draw_all [13, 15] (by kernel_rfl) (by simp) ?_
            refine all_cons rfl rfl ?_ ?_
            · skip
              refine w_call rfl rfl rfl cl_69 ((co_impl_copyInts _ (by first | omega | (simp only [List.length_append, List.length_cons, List.length_nil, List.length_take, List.length_drop]; omega) | (have q1 := IsPort.rx ‹IsPort p›; have q2 := IsPort.tx ‹IsPort p›; simp only [List.length_append, List.length_cons, List.length_nil, List.length_take, List.length_drop]; omega) | (have q1 := IsPort.rx ‹IsPort a›; have q2 := IsPort.rx ‹IsPort b›; simp only [kL, List.length_append, List.length_cons, List.length_nil, List.length_take, List.length_drop]; omega))).mono fun _ _ h => h.len) ?_
              rintro _ _ ⟨b5, rfl, rfl⟩
              refine draw_all [14, 15] (by kernel_rfl) (by simp) ?_
              refine all_cons rfl rfl ?_ ?_
              · skip
                refine w_callR rfl rfl rfl cl_68 (c_impl_portWith _ _ _ _ _) ?_
                refine draw_all [15] (by kernel_rfl) (by simp) ?_
                refine all_cons rfl rfl ?_ ?_
                · skip
                  refine w_alloc rfl z_41 fun b6 => ?_
                  refine draw_all [16] (by kernel_rfl) (by simp) ?_
                  refine all_cons rfl rfl ?_ ?_
                  · skip
                    refine w_store (cells' := [_, _, _, _]) rfl rfl rfl (by repeat (first | exact Pick.here _ _ _ | apply Pick.next)) cn_41 (by rfl) (by rfl) (by rfl) (by first | (refine .inl ?_; simp; done) | (refine .inr ?_; simp [keys]; done)) ?_
                    refine draw_done (by kernel_rfl) ?_
                    exact ⟨⟨b6, b4, b5⟩, _, trivial, (by repeat (first | exact Knows.nil | refine Knows.cons (by rfl) ?_)), (by repeat (first | exact Back.refl _ _ | refine Back.cons (by rfl) ?_)), (by repeat (first | exact Picks.nil _ | exact Pick.here _ _ _ | apply Pick.next | apply Picks.cons))⟩
                  exact all_nil
                exact all_nil
              refine all_cons rfl rfl ?_ ?_
              · skip
                refine w_alloc rfl z_41 fun b7 => ?_
                refine draw_all [14] (by kernel_rfl) (by simp) ?_
                refine all_cons rfl rfl ?_ ?_
                · skip
                  refine w_callR rfl rfl rfl cl_68 (c_impl_portWith _ _ _ _ _) ?_
                  refine draw_all [16] (by kernel_rfl) (by simp) ?_
                  refine all_cons rfl rfl ?_ ?_
                  · skip
                    refine w_store (cells' := [_, _, _, _]) rfl rfl rfl (by repeat (first | exact Pick.here _ _ _ | apply Pick.next)) cn_41 (by rfl) (by rfl) (by rfl) (by first | (refine .inl ?_; simp; done) | (refine .inr ?_; simp [keys]; done)) ?_
                    refine draw_done (by kernel_rfl) ?_
                    exact ⟨⟨b7, b4, b5⟩, _, trivial, (by repeat (first | exact Knows.nil | refine Knows.cons (by rfl) ?_)), (by repeat (first | exact Back.refl _ _ | refine Back.cons (by rfl) ?_)), (by repeat (first | exact Picks.nil _ | exact Pick.here _ _ _ | apply Pick.next | apply Picks.cons))⟩
                  exact all_nil
                exact all_nil
              exact all_nil
            refine all_cons rfl rfl ?_ ?_
            · skip
              refine w_alloc rfl z_41 fun b8 => ?_
              refine draw_all [13] (by kernel_rfl) (by simp) ?_
              refine all_cons rfl rfl ?_ ?_
              · skip
                refine w_call rfl rfl rfl cl_69 ((co_impl_copyInts _ (by first | omega | (simp only [List.length_append, List.length_cons, List.length_nil, List.length_take, List.length_drop]; omega) | (have q1 := IsPort.rx ‹IsPort p›; have q2 := IsPort.tx ‹IsPort p›; simp only [List.length_append, List.length_cons, List.length_nil, List.length_take, List.length_drop]; omega) | (have q1 := IsPort.rx ‹IsPort a›; have q2 := IsPort.rx ‹IsPort b›; simp only [kL, List.length_append, List.length_cons, List.length_nil, List.length_take, List.length_drop]; omega))).mono fun _ _ h => h.len) ?_
                rintro _ _ ⟨b9, rfl, rfl⟩
                refine draw_all [14] (by kernel_rfl) (by simp) ?_
                refine all_cons rfl rfl ?_ ?_
                · skip
                  refine w_callR rfl rfl rfl cl_68 (c_impl_portWith _ _ _ _ _) ?_
                  refine draw_all [16] (by kernel_rfl) (by simp) ?_
                  refine all_cons rfl rfl ?_ ?_
                  · skip
                    refine w_store (cells' := [_, _, _, _]) rfl rfl rfl (by repeat (first | exact Pick.here _ _ _ | apply Pick.next)) cn_41 (by rfl) (by rfl) (by rfl) (by first | (refine .inl ?_; simp; done) | (refine .inr ?_; simp [keys]; done)) ?_
                    refine draw_done (by kernel_rfl) ?_
                    exact ⟨⟨b8, b4, b9⟩, _, trivial, (by repeat (first | exact Knows.nil | refine Knows.cons (by rfl) ?_)), (by repeat (first | exact Back.refl _ _ | refine Back.cons (by rfl) ?_)), (by repeat (first | exact Picks.nil _ | exact Pick.here _ _ _ | apply Pick.next | apply Picks.cons))⟩
                  exact all_nil
                exact all_nil
              exact all_nil
            exact all_nil
          refine all_cons rfl rfl ?_ ?_
          · skip
            refine w_alloc rfl z_41 fun b10 => ?_
            refine draw_all [8] (by kernel_rfl) (by simp) ?_
            refine all_cons rfl rfl ?_ ?_
            · skip
              refine w_appendM eInt rfl el_36 rfl rfl (by repeat (first | exact Pick.here _ _ _ | apply Pick.next)) rfl (.sl _) (fun _ => rfl) (fun _ => rfl) (by simp; omega) (by simp; omega) (by first | (refine .inl ?_; simp; done) | (refine .inr ?_; simp [keys]; done)) fun b11 => ?_
              refine draw_all [13] (by kernel_rfl) (by simp) ?_
              refine all_cons rfl rfl ?_ ?_
              · skip
                refine w_call rfl rfl rfl cl_69 ((co_impl_copyInts _ (by first | omega | (simp only [List.length_append, List.length_cons, List.length_nil, List.length_take, List.length_drop]; omega) | (have q1 := IsPort.rx ‹IsPort p›; have q2 := IsPort.tx ‹IsPort p›; simp only [List.length_append, List.length_cons, List.length_nil, List.length_take, List.length_drop]; omega) | (have q1 := IsPort.rx ‹IsPort a›; have q2 := IsPort.rx ‹IsPort b›; simp only [kL, List.length_append, List.length_cons, List.length_nil, List.length_take, List.length_drop]; omega))).mono fun _ _ h => h.len) ?_
                rintro _ _ ⟨b12, rfl, rfl⟩
                refine draw_all [14] (by kernel_rfl) (by simp) ?_
                refine all_cons rfl rfl ?_ ?_
                · skip
                  refine w_callR rfl rfl rfl cl_68 (c_impl_portWith _ _ _ _ _) ?_
                  refine draw_all [16] (by kernel_rfl) (by simp) ?_
                  refine all_cons rfl rfl ?_ ?_
                  · skip
                    refine w_store (cells' := [_, _, _, _]) rfl rfl rfl (by repeat (first | exact Pick.here _ _ _ | apply Pick.next)) cn_41 (by rfl) (by rfl) (by rfl) (by first | (refine .inl ?_; simp; done) | (refine .inr ?_; simp [keys]; done)) ?_
                    refine draw_done (by kernel_rfl) ?_
                    exact ⟨⟨b10, b11, b12⟩, _, trivial, (by repeat (first | exact Knows.nil | refine Knows.cons (by rfl) ?_)), (by repeat (first | exact Back.refl _ _ | refine Back.cons (by rfl) ?_)), (by repeat (first | exact Picks.nil _ | exact Pick.here _ _ _ | apply Pick.next | apply Picks.cons))⟩
                  exact all_nil
                exact all_nil
              exact all_nil
            exact all_nil
          exact all_nil
        refine all_cons rfl rfl ?_ ?_
        · skip
          refine w_alloc rfl z_41 fun b13 => ?_
          refine draw_all [3] (by kernel_rfl) (by simp) ?_
          refine all_cons rfl rfl ?_ ?_
          · skip
            refine w_call rfl rfl rfl cl_69 ((co_impl_copyInts _ (by first | omega | (simp only [List.length_append, List.length_cons, List.length_nil, List.length_take, List.length_drop]; omega) | (have q1 := IsPort.rx ‹IsPort p›; have q2 := IsPort.tx ‹IsPort p›; simp only [List.length_append, List.length_cons, List.length_nil, List.length_take, List.length_drop]; omega) | (have q1 := IsPort.rx ‹IsPort a›; have q2 := IsPort.rx ‹IsPort b›; simp only [kL, List.length_append, List.length_cons, List.length_nil, List.length_take, List.length_drop]; omega))).mono fun _ _ h => h.len) ?_
            rintro _ _ ⟨b14, rfl, rfl⟩
            refine draw_all [8] (by kernel_rfl) (by simp) ?_
            refine all_cons rfl rfl ?_ ?_
            · skip
              refine w_appendM eInt rfl el_36 rfl rfl (by repeat (first | exact Pick.here _ _ _ | apply Pick.next)) rfl (.sl _) (fun _ => rfl) (fun _ => rfl) (by simp; omega) (by simp; omega) (by first | (refine .inl ?_; simp; done) | (refine .inr ?_; simp [keys]; done)) fun b15 => ?_
              refine draw_all [13] (by kernel_rfl) (by simp) ?_
              refine all_cons rfl rfl ?_ ?_
              · skip
                refine w_call rfl rfl rfl cl_69 ((co_impl_copyInts _ (by first | omega | (simp only [List.length_append, List.length_cons, List.length_nil, List.length_take, List.length_drop]; omega) | (have q1 := IsPort.rx ‹IsPort p›; have q2 := IsPort.tx ‹IsPort p›; simp only [List.length_append, List.length_cons, List.length_nil, List.length_take, List.length_drop]; omega) | (have q1 := IsPort.rx ‹IsPort a›; have q2 := IsPort.rx ‹IsPort b›; simp only [kL, List.length_append, List.length_cons, List.length_nil, List.length_take, List.length_drop]; omega))).mono fun _ _ h => h.len) ?_
                rintro _ _ ⟨b16, rfl, rfl⟩
                refine draw_all [14] (by kernel_rfl) (by simp) ?_
                refine all_cons rfl rfl ?_ ?_
                · skip
                  refine w_callR rfl rfl rfl cl_68 (c_impl_portWith _ _ _ _ _) ?_
                  refine draw_all [16] (by kernel_rfl) (by simp) ?_
                  refine all_cons rfl rfl ?_ ?_
                  · skip
                    refine w_store (cells' := [_, _, _, _]) rfl rfl rfl (by repeat (first | exact Pick.here _ _ _ | apply Pick.next)) cn_41 (by rfl) (by rfl) (by rfl) (by first | (refine .inl ?_; simp; done) | (refine .inr ?_; simp [keys]; done)) ?_
                    refine draw_done (by kernel_rfl) ?_
                    exact ⟨⟨b13, b15, b16⟩, _, trivial, (by repeat (first | exact Knows.nil | refine Knows.cons (by rfl) ?_)), (by repeat (first | exact Back.refl _ _ | refine Back.cons (by rfl) ?_)), (by repeat (first | exact Picks.nil _ | exact Pick.here _ _ _ | apply Pick.next | apply Picks.cons))⟩
                  exact all_nil
                exact all_nil
              exact all_nil
            exact all_nil
          exact all_nil
        exact all_nil
      · rintro ⟨q1, x1, y1⟩ -
        refine a_seq_join (ι := Nat × Nat × Nat) (fun ⟨q2, x2, y2⟩ => True) (fun ⟨q2, x2, y2⟩ => [(10, .ptr q2 0)]) (fun ⟨q2, x2, y2⟩ => [(q2, .box [.own 1 x2 0 (b.rx ++ a.tx.take (kL a b)).length, .own 1 y2 0 (b.tx.drop (kL b a)).length, .int .i64 b.depth, .bool (decide (b.depth ≤ ((b.rx ++ a.tx.take (kL a b)).length : Int)))]), (x2, .arr 3 1 ((b.rx ++ a.tx.take (kL a b)).map eInt)), (y2, .arr 3 1 ((b.tx.drop (kL b a)).map eInt))]) (old := []) (by repeat (first | exact Picks.nil _ | exact Pick.here _ _ _ | apply Pick.next | apply Picks.cons)) ?_ ?_
        · skip
          refine a_draw [] (by kernel_rfl) ?_
          show ADraw _ _ _ _ _ _ 17 _ _ _ _
          refine d_load 0 rfl (by kernel_rfl) (by kernel_rfl) (by kernel_rfl) rfl (p_load_v_all ag_41 rfl (by rfl) noX) ?_
          refine d_take 1 rfl (by kernel_rfl) (by kernel_rfl) (by kernel_rfl) rfl (p_field_v fo_41_0 rfl) ?_
          refine d_load 2 rfl (by kernel_rfl) (by kernel_rfl) (by kernel_rfl) rfl (p_load_v ag_36 rfl (by rfl) noX) ?_
          refine d_take 4 rfl (by kernel_rfl) (by kernel_rfl) (by kernel_rfl) rfl (p_field_v fo_41_1 rfl) ?_
          refine d_load 5 rfl (by kernel_rfl) (by kernel_rfl) (by kernel_rfl) rfl (p_load_v ag_36 rfl (by rfl) noX) ?_
          refine d_take 6 rfl (by kernel_rfl) (by kernel_rfl) (by kernel_rfl) rfl (p_move rfl) ?_
          refine d_take 7 rfl (by kernel_rfl) (by kernel_rfl) (by kernel_rfl) rfl (p_slice_sl 0 (kL a b) es_36 rfl rfl (hi_some rfl (by simp only [List.length_map]; unfold kL; have h16a := (IsPort.rx ‹IsPort a›); have h16b := (IsPort.rx ‹IsPort b›); omega)) (Nat.zero_le _) (by rw [List.length_map]; (try unfold kP); (try unfold kL); omega) (lenAll _ _ (fun _ => rfl)) (show ((a.tx.map eInt).take (kL a b)).drop 0 = (a.tx.take (kL a b)).map eInt by rw [List.drop_zero, List.map_take])) ?_
          refine d_take 9 rfl (by kernel_rfl) (by kernel_rfl) (by kernel_rfl) rfl (p_field_v fo_41_1 rfl) ?_
          refine d_load 10 rfl (by kernel_rfl) (by kernel_rfl) (by kernel_rfl) rfl (p_load_v ag_36 rfl (by rfl) noX) ?_
          refine d_take 11 rfl (by kernel_rfl) (by kernel_rfl) (by kernel_rfl) rfl (p_move rfl) ?_
          refine d_take 12 rfl (by kernel_rfl) (by kernel_rfl) (by kernel_rfl) rfl (p_slice_sl (kL b a) _ es_36 rfl (lo_some rfl (by simp only [List.length_map]; unfold kL; have h16a := (IsPort.rx ‹IsPort a›); have h16b := (IsPort.rx ‹IsPort b›); omega)) rfl (by rw [List.length_map]; (try unfold kP); (try unfold kL); omega) (Nat.le_refl _) (lenAll _ _ (fun _ => rfl)) (show ((b.tx.map eInt).take (b.tx.map eInt).length).drop (kL b a) = (b.tx.drop (kL b a)).map eInt by rw [List.take_length, List.map_drop])) ?_
          refine draw_all [3, 15] (by kernel_rfl) (by simp) ?_
          refine all_cons rfl rfl ?_ ?_
          · skip
            refine w_call rfl rfl rfl cl_69 ((co_impl_copyInts _ (by first | omega | (simp only [List.length_append, List.length_cons, List.length_nil, List.length_take, List.length_drop]; omega) | (have q1 := IsPort.rx ‹IsPort p›; have q2 := IsPort.tx ‹IsPort p›; simp only [List.length_append, List.length_cons, List.length_nil, List.length_take, List.length_drop]; omega) | (have q1 := IsPort.rx ‹IsPort a›; have q2 := IsPort.rx ‹IsPort b›; simp only [kL, List.length_append, List.length_cons, List.length_nil, List.length_take, List.length_drop]; omega))).mono fun _ _ h => h.len) ?_
            rintro _ _ ⟨b17, rfl, rfl⟩
            refine draw_all [8, 15] (by kernel_rfl) (by simp) ?_
            refine all_cons rfl rfl ?_ ?_
            · skip
              refine w_appendM eInt rfl el_36 rfl rfl (by repeat (first | exact Pick.here _ _ _ | apply Pick.next)) rfl (.sl _) (fun _ => rfl) (fun _ => rfl) (by simp; omega) (by simp; omega) (by first | (refine .inl ?_; simp; done) | (refine .inr ?_; simp [keys]; done)) fun b18 => ?_
              refine draw_all [13, 15] (by kernel_rfl) (by simp) ?_
              refine all_cons rfl rfl ?_ ?_
              · skip
                refine w_call rfl rfl rfl cl_69 ((co_impl_copyInts _ (by first | omega | (simp only [List.length_append, List.length_cons, List.length_nil, List.length_take, List.length_drop]; omega) | (have q1 := IsPort.rx ‹IsPort p›; have q2 := IsPort.tx ‹IsPort p›; simp only [List.length_append, List.length_cons, List.length_nil, List.length_take, List.length_drop]; omega) | (have q1 := IsPort.rx ‹IsPort a›; have q2 := IsPort.rx ‹IsPort b›; simp only [kL, List.length_append, List.length_cons, List.length_nil, List.length_take, List.length_drop]; omega))).mono fun _ _ h => h.len) ?_
                rintro _ _ ⟨b19, rfl, rfl⟩
                refine draw_all [14, 15] (by kernel_rfl) (by simp) ?_
                refine all_cons rfl rfl ?_ ?_
                · skip
                  refine w_callR rfl rfl rfl cl_68 (c_impl_portWith _ _ _ _ _) ?_
                  refine draw_all [15] (by kernel_rfl) (by simp) ?_
                  refine all_cons rfl rfl ?_ ?_
                  · skip
                    refine w_alloc rfl z_41 fun b20 => ?_
                    refine draw_all [16] (by kernel_rfl) (by simp) ?_
                    refine all_cons rfl rfl ?_ ?_
                    · skip
                      refine w_store (cells' := [_, _, _, _]) rfl rfl rfl (by repeat (first | exact Pick.here _ _ _ | apply Pick.next)) cn_41 (by rfl) (by rfl) (by rfl) (by first | (refine .inl ?_; simp; done) | (refine .inr ?_; simp [keys]; done)) ?_
                      refine draw_done (by kernel_rfl) ?_
                      exact ⟨⟨b20, b18, b19⟩, _, trivial, (by repeat (first | exact Knows.nil | refine Knows.cons (by rfl) ?_)), (by repeat (first | exact Back.refl _ _ | refine Back.cons (by rfl) ?_)), (by repeat (first | exact Picks.nil _ | exact Pick.here _ _ _ | apply Pick.next | apply Picks.cons))⟩
                    exact all_nil
                  exact all_nil
                refine all_cons rfl rfl ?_ ?_
                · skip
                  refine w_alloc rfl z_41 fun b21 => ?_
                  refine draw_all [14] (by kernel_rfl) (by simp) ?_
                  refine all_cons rfl rfl ?_ ?_
                  · skip
                    refine w_callR rfl rfl rfl cl_68 (c_impl_portWith _ _ _ _ _) ?_
                    refine draw_all [16] (by kernel_rfl) (by simp) ?_
                    refine all_cons rfl rfl ?_ ?_
                    · skip
                      refine w_store (cells' := [_, _, _, _]) rfl rfl rfl (by repeat (first | exact Pick.here _ _ _ | apply Pick.next)) cn_41 (by rfl) (by rfl) (by rfl) (by first | (refine .inl ?_; simp; done) | (refine .inr ?_; simp [keys]; done)) ?_
                      refine draw_done (by kernel_rfl) ?_
                      exact ⟨⟨b21, b18, b19⟩, _, trivial, (by repeat (first | exact Knows.nil | refine Knows.cons (by rfl) ?_)), (by repeat (first | exact Back.refl _ _ | refine Back.cons (by rfl) ?_)), (by repeat (first | exact Picks.nil _ | exact Pick.here _ _ _ | apply Pick.next | apply Picks.cons))⟩
                    exact all_nil
                  exact all_nil
                exact all_nil
              refine all_cons rfl rfl ?_ ?_
              · skip
                refine w_alloc rfl z_41 fun b22 => ?_
                refine draw_all [13] (by kernel_rfl) (by simp) ?_
                refine all_cons rfl rfl ?_ ?_
                · skip
                  refine w_call rfl rfl rfl cl_69 ((co_impl_copyInts _ (by first | omega | (simp only [List.length_append, List.length_cons, List.length_nil, List.length_take, List.length_drop]; omega) | (have q1 := IsPort.rx ‹IsPort p›; have q2 := IsPort.tx ‹IsPort p›; simp only [List.length_append, List.length_cons, List.length_nil, List.length_take, List.length_drop]; omega) | (have q1 := IsPort.rx ‹IsPort a›; have q2 := IsPort.rx ‹IsPort b›; simp only [kL, List.length_append, List.length_cons, List.length_nil, List.length_take, List.length_drop]; omega))).mono fun _ _ h => h.len) ?_
                  rintro _ _ ⟨b23, rfl, rfl⟩
                  refine draw_all [14] (by kernel_rfl) (by simp) ?_
                  refine all_cons rfl rfl ?_ ?_
                  · skip
                    refine w_callR rfl rfl rfl cl_68 (c_impl_portWith _ _ _ _ _) ?_
                    refine draw_all [16] (by kernel_rfl) (by simp) ?_
                    refine all_cons rfl rfl ?_ ?_
                    · skip
                      refine w_store (cells' := [_, _, _, _]) rfl rfl rfl (by repeat (first | exact Pick.here _ _ _ | apply Pick.next)) cn_41 (by rfl) (by rfl) (by rfl) (by first | (refine .inl ?_; simp; done) | (refine .inr ?_; simp [keys]; done)) ?_
                      refine draw_done (by kernel_rfl) ?_
                      exact ⟨⟨b22, b18, b23⟩, _, trivial, (by repeat (first | exact Knows.nil | refine Knows.cons (by rfl) ?_)), (by repeat (first | exact Back.refl _ _ | refine Back.cons (by rfl) ?_)), (by repeat (first | exact Picks.nil _ | exact Pick.here _ _ _ | apply Pick.next | apply Picks.cons))⟩
                    exact all_nil
                  exact all_nil
                exact all_nil
              exact all_nil
            refine all_cons rfl rfl ?_ ?_
            · skip
              refine w_alloc rfl z_41 fun b24 => ?_
              refine draw_all [8] (by kernel_rfl) (by simp) ?_
              refine all_cons rfl rfl ?_ ?_
              · skip
                refine w_appendM eInt rfl el_36 rfl rfl (by repeat (first | exact Pick.here _ _ _ | apply Pick.next)) rfl (.sl _) (fun _ => rfl) (fun _ => rfl) (by simp; omega) (by simp; omega) (by first | (refine .inl ?_; simp; done) | (refine .inr ?_; simp [keys]; done)) fun b25 => ?_
                refine draw_all [13] (by kernel_rfl) (by simp) ?_
                refine all_cons rfl rfl ?_ ?_
                · skip
                  refine w_call rfl rfl rfl cl_69 ((co_impl_copyInts _ (by first | omega | (simp only [List.length_append, List.length_cons, List.length_nil, List.length_take, List.length_drop]; omega) | (have q1 := IsPort.rx ‹IsPort p›; have q2 := IsPort.tx ‹IsPort p›; simp only [List.length_append, List.length_cons, List.length_nil, List.length_take, List.length_drop]; omega) | (have q1 := IsPort.rx ‹IsPort a›; have q2 := IsPort.rx ‹IsPort b›; simp only [kL, List.length_append, List.length_cons, List.length_nil, List.length_take, List.length_drop]; omega))).mono fun _ _ h => h.len) ?_
                  rintro _ _ ⟨b26, rfl, rfl⟩
                  refine draw_all [14] (by kernel_rfl) (by simp) ?_
                  refine all_cons rfl rfl ?_ ?_
                  · skip
                    refine w_callR rfl rfl rfl cl_68 (c_impl_portWith _ _ _ _ _) ?_
                    refine draw_all [16] (by kernel_rfl) (by simp) ?_
                    refine all_cons rfl rfl ?_ ?_
                    · skip
                      refine w_store (cells' := [_, _, _, _]) rfl rfl rfl (by repeat (first | exact Pick.here _ _ _ | apply Pick.next)) cn_41 (by rfl) (by rfl) (by rfl) (by first | (refine .inl ?_; simp; done) | (refine .inr ?_; simp [keys]; done)) ?_
                      refine draw_done (by kernel_rfl) ?_
                      exact ⟨⟨b24, b25, b26⟩, _, trivial, (by repeat (first | exact Knows.nil | refine Knows.cons (by rfl) ?_)), (by repeat (first | exact Back.refl _ _ | refine Back.cons (by rfl) ?_)), (by repeat (first | exact Picks.nil _ | exact Pick.here _ _ _ | apply Pick.next | apply Picks.cons))⟩
                    exact all_nil
                  exact all_nil
                exact all_nil
              exact all_nil
            exact all_nil
          refine all_cons rfl rfl ?_ ?_
          · skip
            refine w_alloc rfl z_41 fun b27 => ?_
            refine draw_all [3] (by kernel_rfl) (by simp) ?_
            refine all_cons rfl rfl ?_ ?_
            · skip
              refine w_call rfl rfl rfl cl_69 ((co_impl_copyInts _ (by first | omega | (simp only [List.length_append, List.length_cons, List.length_nil, List.length_take, List.length_drop]; omega) | (have q1 := IsPort.rx ‹IsPort p›; have q2 := IsPort.tx ‹IsPort p›; simp only [List.length_append, List.length_cons, List.length_nil, List.length_take, List.length_drop]; omega) | (have q1 := IsPort.rx ‹IsPort a›; have q2 := IsPort.rx ‹IsPort b›; simp only [kL, List.length_append, List.length_cons, List.length_nil, List.length_take, List.length_drop]; omega))).mono fun _ _ h => h.len) ?_
              rintro _ _ ⟨b28, rfl, rfl⟩
              refine draw_all [8] (by kernel_rfl) (by simp) ?_
              refine all_cons rfl rfl ?_ ?_
              · skip
                refine w_appendM eInt rfl el_36 rfl rfl (by repeat (first | exact Pick.here _ _ _ | apply Pick.next)) rfl (.sl _) (fun _ => rfl) (fun _ => rfl) (by simp; omega) (by simp; omega) (by first | (refine .inl ?_; simp; done) | (refine .inr ?_; simp [keys]; done)) fun b29 => ?_
                refine draw_all [13] (by kernel_rfl) (by simp) ?_
                refine all_cons rfl rfl ?_ ?_
                · skip
                  refine w_call rfl rfl rfl cl_69 ((co_impl_copyInts _ (by first | omega | (simp only [List.length_append, List.length_cons, List.length_nil, List.length_take, List.length_drop]; omega) | (have q1 := IsPort.rx ‹IsPort p›; have q2 := IsPort.tx ‹IsPort p›; simp only [List.length_append, List.length_cons, List.length_nil, List.length_take, List.length_drop]; omega) | (have q1 := IsPort.rx ‹IsPort a›; have q2 := IsPort.rx ‹IsPort b›; simp only [kL, List.length_append, List.length_cons, List.length_nil, List.length_take, List.length_drop]; omega))).mono fun _ _ h => h.len) ?_
                  rintro _ _ ⟨b30, rfl, rfl⟩
                  refine draw_all [14] (by kernel_rfl) (by simp) ?_
                  refine all_cons rfl rfl ?_ ?_
                  · skip
                    refine w_callR rfl rfl rfl cl_68 (c_impl_portWith _ _ _ _ _) ?_
                    refine draw_all [16] (by kernel_rfl) (by simp) ?_
                    refine all_cons rfl rfl ?_ ?_
                    · skip
                      refine w_store (cells' := [_, _, _, _]) rfl rfl rfl (by repeat (first | exact Pick.here _ _ _ | apply Pick.next)) cn_41 (by rfl) (by rfl) (by rfl) (by first | (refine .inl ?_; simp; done) | (refine .inr ?_; simp [keys]; done)) ?_
                      refine draw_done (by kernel_rfl) ?_
                      exact ⟨⟨b27, b29, b30⟩, _, trivial, (by repeat (first | exact Knows.nil | refine Knows.cons (by rfl) ?_)), (by repeat (first | exact Back.refl _ _ | refine Back.cons (by rfl) ?_)), (by repeat (first | exact Picks.nil _ | exact Pick.here _ _ _ | apply Pick.next | apply Picks.cons))⟩
                    exact all_nil
                  exact all_nil
                exact all_nil
              exact all_nil
            exact all_nil
          exact all_nil
        · rintro ⟨q2, x2, y2⟩ -
          refine a_seq ?_
          refine a_draw [b1, b2] (by kernel_rfl) ?_
          show ADraw _ _ _ _ _ _ 5 _ _ _ _
          refine d_load 0 rfl (by kernel_rfl) (by kernel_rfl) (by kernel_rfl) rfl (p_load_box_all ag_41 rfl (by repeat (first | exact Pick.here _ _ _ | apply Pick.next)) (by rfl) (by simp [keys])) ?_
          refine d_load 1 rfl (by kernel_rfl) (by kernel_rfl) (by kernel_rfl) rfl (p_load_box_all ag_41 rfl (by repeat (first | exact Pick.here _ _ _ | apply Pick.next)) (by rfl) (by simp [keys])) ?_
          refine draw_all [2] (by kernel_rfl) (by simp) ?_
          refine all_cons rfl rfl ?_ ?_
          · skip
            refine w_store (cells' := [_, _, _, _]) rfl rfl rfl (by repeat (first | exact Pick.here _ _ _ | apply Pick.next)) cn_41 (by rfl) (by rfl) (by rfl) (by first | (refine .inl ?_; simp; done) | (refine .inr ?_; simp [keys]; done)) ?_
            refine draw_all [3] (by kernel_rfl) (by simp) ?_
            refine all_cons rfl rfl ?_ ?_
            · skip
              refine w_store (cells' := [_, _, _, _]) rfl rfl rfl (by repeat (first | exact Pick.here _ _ _ | apply Pick.next)) cn_41 (by rfl) (by rfl) (by rfl) (by first | (refine .inl ?_; simp; done) | (refine .inr ?_; simp [keys]; done)) ?_
              refine d_take 4 rfl (by kernel_rfl) (by kernel_rfl) (by kernel_rfl) rfl (p_assign rfl) ?_
              refine draw_done (by kernel_rfl) ?_
              refine a_ret ?_
              refine ret_ok (hands3 rfl (.cell ag_41 rfl (by repeat (first | exact Pick.here _ _ _ | apply Pick.next)) (by rfl)) (.cell ag_41 rfl (by repeat (first | exact Pick.here _ _ _ | apply Pick.next)) (by rfl)) (.tmp rfl)) (st' := [(x1, _), (y1, _), (x2, _), (y2, _)]) (.cons (by repeat (first | exact Pick.here _ _ _ | apply Pick.next)) (.cons (by repeat (first | exact Pick.here _ _ _ | apply Pick.next)) (.cons (by repeat (first | exact Pick.here _ _ _ | apply Pick.next)) (.cons (by repeat (first | exact Pick.here _ _ _ | apply Pick.next)) (.nil _))))) ?_
              first | exact ⟨rfl, rfl⟩ | exact absurd (show GoodLoop a b from ⟨by assumption, by omega, by omega⟩) hA | exact absurd (show GoodLoop a b from ⟨by assumption, by omega⟩) hA | exact absurd (show GoodLoop a b from ⟨by assumption, by assumption⟩) hA
            exact all_nil
          exact all_nil

end Go.Proofs.Ytinbacenkbfifaa
