/-
  The walks of this part: each theorem is the contract of one function. Condition: none but those that it names.
-/
import Derived.Test.YtinbacenkbfifaaPortEF
import Derived.Test.YtinbacenkbfifaaPortA
import Derived.Test.YtinbacenkbfifaaPortC
import Derived.Test.YtinbacenkbfifaaPortD
namespace Go.Proofs.Ytinbacenkbfifaa
open Go Go.Fw Go.Hv
attribute [local irreducible] awp Aops Aop ADraw ADrawAll ACalls
set_option maxRecDepth 4000
set_option linter.unusedSimpArgs false
set_option linter.unusedVariables false

set_option maxHeartbeats 2000000 in
theorem c_laws_FnExactLoopPorts (a : Port) (_hc0 : okPort a) (b : Port) (_hc1 : okPort b) : ACalls Try.prog 13 [.agg (ePort a), .agg (ePort b)] [] (Ret (.bool true)) := by
  have hm0 : a.rx.length ≤ 9223372036854775807 ∧ a.tx.length ≤ 9223372036854775807 := ⟨_hc0.1.2, _hc0.2.1.2⟩
  have hq0 : szPort a 1048576 ≤ 1048576 := szPort_ub (Int.le_refl _)
  have hm1 : b.rx.length ≤ 9223372036854775807 ∧ b.tx.length ≤ 9223372036854775807 := ⟨_hc1.1.2, _hc1.2.1.2⟩
  have hq1 : szPort b 1048576 ≤ 1048576 := szPort_ub (Int.le_refl _)
  by_cases hA : GoodLoop a b
  all_goals refine a_enter Try.func13 rfl rfl (fun w0 M0 => ?_)
  · skip
    refine a_seq ?_
    refine a_region ?_
    refine aops_cons rfl (w_box_v rfl rfl rfl ?_)
    refine aops_cons rfl (w_box_v rfl rfl rfl ?_)
    refine aops_cons rfl (w_pure rfl (p_assign rfl) ?_)
    refine aops_nil ?_
    refine a_seq ?_
    refine a_region ?_
    refine aops_cons rfl (w_pure rfl (p_assign rfl) ?_)
    refine aops_nil ?_
    refine a_seq ?_
    refine a_region ?_
    refine aops_cons rfl (w_pure rfl (p_load_v_all ag_38 rfl (by rfl) noX) ?_)
    refine aops_cons rfl (w_pure rfl (p_move rfl) ?_)
    refine aops_cons rfl (w_callR rfl rfl rfl cl_25 (c_laws_szPort _ (by assumption) _ (by omega) (by omega)) ?_)
    refine aops_cons rfl (w_pure rfl (p_assign rfl) ?_)
    refine aops_nil ?_
    refine a_seq ?_
    refine a_seq ?_
    refine a_region ?_
    refine aops_cons rfl (w_pure rfl (p_move rfl) ?_)
    refine aops_cons rfl (w_pure rfl (p_lss rfl rfl) ?_)
    refine aops_nil ?_
    first | refine a_cond_d rfl (fun h1 => ?_) (fun h2 => ?_) | refine a_cond_n rfl (fun h1 => ?_) (fun h2 => ?_) | refine a_cond_nb rfl (fun h1 => ?_) (fun h2 => ?_) | refine a_cond rfl (fun h1 => ?_) (fun h2 => ?_)
    · (try simp only [Bool.not_eq_true', Bool.not_eq_false', Bool.not_eq_true, Bool.not_eq_false, decide_eq_true_eq, decide_eq_false_iff_not, List.length_map, List.length_range] at h1)
      refine a_seq ?_
      refine a_region ?_
      refine aops_cons rfl (w_pure rfl (p_assign rfl) ?_)
      refine aops_nil ?_
      refine a_ret ?_
      refine ret_ok (hands1 rfl (.tmp rfl)) (.nil _) ?_
      first | exact ⟨rfl, rfl⟩ | (exfalso; omega)
    · (try simp only [Bool.not_eq_true', Bool.not_eq_false', Bool.not_eq_true, Bool.not_eq_false, decide_eq_true_eq, decide_eq_false_iff_not, List.length_map, List.length_range] at h2)
      refine a_skip ?_
      refine a_seq ?_
      refine a_region ?_
      refine aops_cons rfl (w_pure rfl (p_load_v_all ag_38 rfl (by rfl) noX) ?_)
      refine aops_cons rfl (w_pure rfl (p_move rfl) ?_)
      refine aops_cons rfl (w_callR rfl rfl rfl cl_25 (c_laws_szPort _ (by assumption) _ (by omega) (by omega)) ?_)
      refine aops_cons rfl (w_pure rfl (p_assign rfl) ?_)
      refine aops_nil ?_
      refine a_seq ?_
      refine a_seq ?_
      refine a_region ?_
      refine aops_cons rfl (w_pure rfl (p_move rfl) ?_)
      refine aops_cons rfl (w_pure rfl (p_lss rfl rfl) ?_)
      refine aops_nil ?_
      first | refine a_cond_d rfl (fun h3 => ?_) (fun h4 => ?_) | refine a_cond_n rfl (fun h3 => ?_) (fun h4 => ?_) | refine a_cond_nb rfl (fun h3 => ?_) (fun h4 => ?_) | refine a_cond rfl (fun h3 => ?_) (fun h4 => ?_)
      · (try simp only [Bool.not_eq_true', Bool.not_eq_false', Bool.not_eq_true, Bool.not_eq_false, decide_eq_true_eq, decide_eq_false_iff_not, List.length_map, List.length_range] at h3)
        refine a_seq ?_
        refine a_region ?_
        refine aops_cons rfl (w_pure rfl (p_assign rfl) ?_)
        refine aops_nil ?_
        refine a_ret ?_
        refine ret_ok (hands1 rfl (.tmp rfl)) (.nil _) ?_
        first | exact ⟨rfl, rfl⟩ | (exfalso; omega)
      · (try simp only [Bool.not_eq_true', Bool.not_eq_false', Bool.not_eq_true, Bool.not_eq_false, decide_eq_true_eq, decide_eq_false_iff_not, List.length_map, List.length_range] at h4)
        refine a_skip ?_
        have hl0 : SmallPort a := szPort_le (left := 1048576) (by omega) (by omega) ‹_›; have hz0_ := hl0; simp only [SmallPort] at hz0_; obtain ⟨hz0_0, hz0_1⟩ := hz0_; have hl1 : SmallPort b := szPort_le (left := (szPort a 1048576)) (by omega) (by omega) ‹_›; have hz1_ := hl1; simp only [SmallPort] at hz1_; obtain ⟨hz1_0, hz1_1⟩ := hz1_; have hr0 : SmallPort (loopP a b) := (small_loop hA.1 hA.2); have hy0_ := hr0; simp only [SmallPort] at hy0_; obtain ⟨hy0_0, hy0_1⟩ := hy0_; have hr1 : SmallPort (loopP b a) := (small_loop hA.2 hA.1); have hy1_ := hr1; simp only [SmallPort] at hy1_; obtain ⟨hy1_0, hy1_1⟩ := hy1_
        refine a_seq_join (ι := Nat × Nat) (fun ⟨q1, q2⟩ => True) (fun ⟨q1, q2⟩ => [(6, .ptr q1 0), (7, .ptr q2 0), (8, .bool true)]) (fun ⟨q1, q2⟩ => [(q1, .box (ePort (loopP a b))), (q2, .box (ePort (loopP b a)))]) (old := []) (by repeat (first | exact Picks.nil _ | exact Pick.here _ _ _ | apply Pick.next | apply Picks.cons)) ?_ ?_
        · skip
          refine a_draw [] (by kernel_rfl) ?_
          show ADraw _ _ _ _ _ _ 14 _ _ _ _
          refine d_load 0 rfl (by kernel_rfl) (by kernel_rfl) (by kernel_rfl) rfl (p_load_v_all ag_38 rfl (by rfl) noX) ?_
          refine d_load 2 rfl (by kernel_rfl) (by kernel_rfl) (by kernel_rfl) rfl (p_load_v_all ag_38 rfl (by rfl) noX) ?_
          refine draw_all [1, 9, 10] (by kernel_rfl) (by simp) ?_
          refine all_cons rfl rfl ?_ ?_
          · skip
            refine w_callR rfl rfl rfl cl_27 (c_laws_toPort a hl0) ?_
            refine draw_all [3, 9, 10] (by kernel_rfl) (by simp) ?_
            refine all_cons rfl rfl ?_ ?_
            · skip
              refine w_callR rfl rfl rfl cl_27 (c_laws_toPort b hl1) ?_
              refine draw_all [4, 9, 10] (by kernel_rfl) (by simp) ?_
              refine all_cons rfl rfl ?_ ?_
              · skip
                refine w_callR rfl rfl rfl cl_47 (cy_spec_LoopPorts a b hl0 hl1 hA) ?_
                refine d_take 5 rfl (by kernel_rfl) (by kernel_rfl) (by kernel_rfl) rfl (p_move rfl) ?_
                refine d_take 6 rfl (by kernel_rfl) (by kernel_rfl) (by kernel_rfl) rfl (p_extract rfl rfl) ?_
                refine d_take 7 rfl (by kernel_rfl) (by kernel_rfl) (by kernel_rfl) rfl (p_extract rfl rfl) ?_
                refine d_take 8 rfl (by kernel_rfl) (by kernel_rfl) (by kernel_rfl) rfl (p_extract rfl rfl) ?_
                refine draw_all [9, 10] (by kernel_rfl) (by simp) ?_
                refine all_cons rfl rfl ?_ ?_
                · skip
                  refine w_alloc rfl z_41 fun b1 => ?_
                  refine draw_all [10] (by kernel_rfl) (by simp) ?_
                  refine all_cons rfl rfl ?_ ?_
                  · skip
                    refine w_alloc rfl z_41 fun b2 => ?_
                    refine draw_all [11] (by kernel_rfl) (by simp) ?_
                    refine all_cons rfl rfl ?_ ?_
                    · skip
                      refine w_store (cells' := [_, _, _, _]) rfl rfl rfl (by repeat (first | exact Pick.here _ _ _ | apply Pick.next)) cn_41 (by rfl) (by rfl) (by rfl) (by first | (refine .inl ?_; simp; done) | (refine .inr ?_; simp [keys]; done)) ?_
                      refine draw_all [12] (by kernel_rfl) (by simp) ?_
                      refine all_cons rfl rfl ?_ ?_
                      · skip
                        refine w_store (cells' := [_, _, _, _]) rfl rfl rfl (by repeat (first | exact Pick.here _ _ _ | apply Pick.next)) cn_41 (by rfl) (by rfl) (by rfl) (by first | (refine .inl ?_; simp; done) | (refine .inr ?_; simp [keys]; done)) ?_
                        refine d_take 13 rfl (by kernel_rfl) (by kernel_rfl) (by kernel_rfl) rfl (p_assign rfl) ?_
                        refine draw_done (by kernel_rfl) ?_
                        exact ⟨⟨b1, b2⟩, _, trivial, (by repeat (first | exact Knows.nil | refine Knows.cons (by rfl) ?_)), (by repeat (first | exact Back.refl _ _ | refine Back.cons (by rfl) ?_)), (by repeat (first | exact Picks.nil _ | exact Pick.here _ _ _ | apply Pick.next | apply Picks.cons))⟩
                      exact all_nil
                    exact all_nil
                  exact all_nil
                refine all_cons rfl rfl ?_ ?_
                · skip
                  refine w_alloc rfl z_41 fun b3 => ?_
                  refine draw_all [9] (by kernel_rfl) (by simp) ?_
                  refine all_cons rfl rfl ?_ ?_
                  · skip
                    refine w_alloc rfl z_41 fun b4 => ?_
                    refine draw_all [11] (by kernel_rfl) (by simp) ?_
                    refine all_cons rfl rfl ?_ ?_
                    · skip
                      refine w_store (cells' := [_, _, _, _]) rfl rfl rfl (by repeat (first | exact Pick.here _ _ _ | apply Pick.next)) cn_41 (by rfl) (by rfl) (by rfl) (by first | (refine .inl ?_; simp; done) | (refine .inr ?_; simp [keys]; done)) ?_
                      refine draw_all [12] (by kernel_rfl) (by simp) ?_
                      refine all_cons rfl rfl ?_ ?_
                      · skip
                        refine w_store (cells' := [_, _, _, _]) rfl rfl rfl (by repeat (first | exact Pick.here _ _ _ | apply Pick.next)) cn_41 (by rfl) (by rfl) (by rfl) (by first | (refine .inl ?_; simp; done) | (refine .inr ?_; simp [keys]; done)) ?_
                        refine d_take 13 rfl (by kernel_rfl) (by kernel_rfl) (by kernel_rfl) rfl (p_assign rfl) ?_
                        refine draw_done (by kernel_rfl) ?_
                        exact ⟨⟨b4, b3⟩, _, trivial, (by repeat (first | exact Knows.nil | refine Knows.cons (by rfl) ?_)), (by repeat (first | exact Back.refl _ _ | refine Back.cons (by rfl) ?_)), (by repeat (first | exact Picks.nil _ | exact Pick.here _ _ _ | apply Pick.next | apply Picks.cons))⟩
                      exact all_nil
                    exact all_nil
                  exact all_nil
                exact all_nil
              refine all_cons rfl rfl ?_ ?_
              · skip
                refine w_alloc rfl z_41 fun b5 => ?_
                refine draw_all [4, 10] (by kernel_rfl) (by simp) ?_
                refine all_cons rfl rfl ?_ ?_
                · skip
                  refine w_callR rfl rfl rfl cl_47 (cy_spec_LoopPorts a b hl0 hl1 hA) ?_
                  refine d_take 5 rfl (by kernel_rfl) (by kernel_rfl) (by kernel_rfl) rfl (p_move rfl) ?_
                  refine d_take 6 rfl (by kernel_rfl) (by kernel_rfl) (by kernel_rfl) rfl (p_extract rfl rfl) ?_
                  refine d_take 7 rfl (by kernel_rfl) (by kernel_rfl) (by kernel_rfl) rfl (p_extract rfl rfl) ?_
                  refine d_take 8 rfl (by kernel_rfl) (by kernel_rfl) (by kernel_rfl) rfl (p_extract rfl rfl) ?_
                  refine draw_all [10] (by kernel_rfl) (by simp) ?_
                  refine all_cons rfl rfl ?_ ?_
                  · skip
                    refine w_alloc rfl z_41 fun b6 => ?_
                    refine draw_all [11] (by kernel_rfl) (by simp) ?_
                    refine all_cons rfl rfl ?_ ?_
                    · skip
                      refine w_store (cells' := [_, _, _, _]) rfl rfl rfl (by repeat (first | exact Pick.here _ _ _ | apply Pick.next)) cn_41 (by rfl) (by rfl) (by rfl) (by first | (refine .inl ?_; simp; done) | (refine .inr ?_; simp [keys]; done)) ?_
                      refine draw_all [12] (by kernel_rfl) (by simp) ?_
                      refine all_cons rfl rfl ?_ ?_
                      · skip
                        refine w_store (cells' := [_, _, _, _]) rfl rfl rfl (by repeat (first | exact Pick.here _ _ _ | apply Pick.next)) cn_41 (by rfl) (by rfl) (by rfl) (by first | (refine .inl ?_; simp; done) | (refine .inr ?_; simp [keys]; done)) ?_
                        refine d_take 13 rfl (by kernel_rfl) (by kernel_rfl) (by kernel_rfl) rfl (p_assign rfl) ?_
                        refine draw_done (by kernel_rfl) ?_
                        exact ⟨⟨b5, b6⟩, _, trivial, (by repeat (first | exact Knows.nil | refine Knows.cons (by rfl) ?_)), (by repeat (first | exact Back.refl _ _ | refine Back.cons (by rfl) ?_)), (by repeat (first | exact Picks.nil _ | exact Pick.here _ _ _ | apply Pick.next | apply Picks.cons))⟩
                      exact all_nil
                    exact all_nil
                  exact all_nil
                refine all_cons rfl rfl ?_ ?_
                · skip
                  refine w_alloc rfl z_41 fun b7 => ?_
                  refine draw_all [4] (by kernel_rfl) (by simp) ?_
                  refine all_cons rfl rfl ?_ ?_
                  · skip
                    refine w_callR rfl rfl rfl cl_47 (cy_spec_LoopPorts a b hl0 hl1 hA) ?_
                    refine d_take 5 rfl (by kernel_rfl) (by kernel_rfl) (by kernel_rfl) rfl (p_move rfl) ?_
                    refine d_take 6 rfl (by kernel_rfl) (by kernel_rfl) (by kernel_rfl) rfl (p_extract rfl rfl) ?_
                    refine d_take 7 rfl (by kernel_rfl) (by kernel_rfl) (by kernel_rfl) rfl (p_extract rfl rfl) ?_
                    refine d_take 8 rfl (by kernel_rfl) (by kernel_rfl) (by kernel_rfl) rfl (p_extract rfl rfl) ?_
                    refine draw_all [11] (by kernel_rfl) (by simp) ?_
                    refine all_cons rfl rfl ?_ ?_
                    · skip
                      refine w_store (cells' := [_, _, _, _]) rfl rfl rfl (by repeat (first | exact Pick.here _ _ _ | apply Pick.next)) cn_41 (by rfl) (by rfl) (by rfl) (by first | (refine .inl ?_; simp; done) | (refine .inr ?_; simp [keys]; done)) ?_
                      refine draw_all [12] (by kernel_rfl) (by simp) ?_
                      refine all_cons rfl rfl ?_ ?_
                      · skip
                        refine w_store (cells' := [_, _, _, _]) rfl rfl rfl (by repeat (first | exact Pick.here _ _ _ | apply Pick.next)) cn_41 (by rfl) (by rfl) (by rfl) (by first | (refine .inl ?_; simp; done) | (refine .inr ?_; simp [keys]; done)) ?_
                        refine d_take 13 rfl (by kernel_rfl) (by kernel_rfl) (by kernel_rfl) rfl (p_assign rfl) ?_
                        refine draw_done (by kernel_rfl) ?_
                        exact ⟨⟨b5, b7⟩, _, trivial, (by repeat (first | exact Knows.nil | refine Knows.cons (by rfl) ?_)), (by repeat (first | exact Back.refl _ _ | refine Back.cons (by rfl) ?_)), (by repeat (first | exact Picks.nil _ | exact Pick.here _ _ _ | apply Pick.next | apply Picks.cons))⟩
                      exact all_nil
                    exact all_nil
                  exact all_nil
                exact all_nil
              refine all_cons rfl rfl ?_ ?_
              · skip
                refine w_alloc rfl z_41 fun b8 => ?_
                refine draw_all [4, 9] (by kernel_rfl) (by simp) ?_
                refine all_cons rfl rfl ?_ ?_
                · skip
                  refine w_callR rfl rfl rfl cl_47 (cy_spec_LoopPorts a b hl0 hl1 hA) ?_
                  refine d_take 5 rfl (by kernel_rfl) (by kernel_rfl) (by kernel_rfl) rfl (p_move rfl) ?_
                  refine d_take 6 rfl (by kernel_rfl) (by kernel_rfl) (by kernel_rfl) rfl (p_extract rfl rfl) ?_
                  refine d_take 7 rfl (by kernel_rfl) (by kernel_rfl) (by kernel_rfl) rfl (p_extract rfl rfl) ?_
                  refine d_take 8 rfl (by kernel_rfl) (by kernel_rfl) (by kernel_rfl) rfl (p_extract rfl rfl) ?_
                  refine draw_all [9] (by kernel_rfl) (by simp) ?_
                  refine all_cons rfl rfl ?_ ?_
                  · skip
                    refine w_alloc rfl z_41 fun b9 => ?_
                    refine draw_all [11] (by kernel_rfl) (by simp) ?_
                    refine all_cons rfl rfl ?_ ?_
                    · skip
                      refine w_store (cells' := [_, _, _, _]) rfl rfl rfl (by repeat (first | exact Pick.here _ _ _ | apply Pick.next)) cn_41 (by rfl) (by rfl) (by rfl) (by first | (refine .inl ?_; simp; done) | (refine .inr ?_; simp [keys]; done)) ?_
                      refine draw_all [12] (by kernel_rfl) (by simp) ?_
                      refine all_cons rfl rfl ?_ ?_
                      · skip
                        refine w_store (cells' := [_, _, _, _]) rfl rfl rfl (by repeat (first | exact Pick.here _ _ _ | apply Pick.next)) cn_41 (by rfl) (by rfl) (by rfl) (by first | (refine .inl ?_; simp; done) | (refine .inr ?_; simp [keys]; done)) ?_
                        refine d_take 13 rfl (by kernel_rfl) (by kernel_rfl) (by kernel_rfl) rfl (p_assign rfl) ?_
                        refine draw_done (by kernel_rfl) ?_
                        exact ⟨⟨b9, b8⟩, _, trivial, (by repeat (first | exact Knows.nil | refine Knows.cons (by rfl) ?_)), (by repeat (first | exact Back.refl _ _ | refine Back.cons (by rfl) ?_)), (by repeat (first | exact Picks.nil _ | exact Pick.here _ _ _ | apply Pick.next | apply Picks.cons))⟩
                      exact all_nil
                    exact all_nil
                  exact all_nil
                refine all_cons rfl rfl ?_ ?_
                · skip
                  refine w_alloc rfl z_41 fun b10 => ?_
                  refine draw_all [4] (by kernel_rfl) (by simp) ?_
                  refine all_cons rfl rfl ?_ ?_
                  · skip
                    refine w_callR rfl rfl rfl cl_47 (cy_spec_LoopPorts a b hl0 hl1 hA) ?_
                    refine d_take 5 rfl (by kernel_rfl) (by kernel_rfl) (by kernel_rfl) rfl (p_move rfl) ?_
                    refine d_take 6 rfl (by kernel_rfl) (by kernel_rfl) (by kernel_rfl) rfl (p_extract rfl rfl) ?_
                    refine d_take 7 rfl (by kernel_rfl) (by kernel_rfl) (by kernel_rfl) rfl (p_extract rfl rfl) ?_
                    refine d_take 8 rfl (by kernel_rfl) (by kernel_rfl) (by kernel_rfl) rfl (p_extract rfl rfl) ?_
                    refine draw_all [11] (by kernel_rfl) (by simp) ?_
                    refine all_cons rfl rfl ?_ ?_
                    · skip
                      refine w_store (cells' := [_, _, _, _]) rfl rfl rfl (by repeat (first | exact Pick.here _ _ _ | apply Pick.next)) cn_41 (by rfl) (by rfl) (by rfl) (by first | (refine .inl ?_; simp; done) | (refine .inr ?_; simp [keys]; done)) ?_
                      refine draw_all [12] (by kernel_rfl) (by simp) ?_
                      refine all_cons rfl rfl ?_ ?_
                      · skip
                        refine w_store (cells' := [_, _, _, _]) rfl rfl rfl (by repeat (first | exact Pick.here _ _ _ | apply Pick.next)) cn_41 (by rfl) (by rfl) (by rfl) (by first | (refine .inl ?_; simp; done) | (refine .inr ?_; simp [keys]; done)) ?_
                        refine d_take 13 rfl (by kernel_rfl) (by kernel_rfl) (by kernel_rfl) rfl (p_assign rfl) ?_
                        refine draw_done (by kernel_rfl) ?_
                        exact ⟨⟨b10, b8⟩, _, trivial, (by repeat (first | exact Knows.nil | refine Knows.cons (by rfl) ?_)), (by repeat (first | exact Back.refl _ _ | refine Back.cons (by rfl) ?_)), (by repeat (first | exact Picks.nil _ | exact Pick.here _ _ _ | apply Pick.next | apply Picks.cons))⟩
                      exact all_nil
                    exact all_nil
                  exact all_nil
                exact all_nil
              exact all_nil
            refine all_cons rfl rfl ?_ ?_
            · skip
              refine w_alloc rfl z_41 fun b11 => ?_
              refine draw_all [3, 10] (by kernel_rfl) (by simp) ?_
              refine all_cons rfl rfl ?_ ?_
              · skip
                refine w_callR rfl rfl rfl cl_27 (c_laws_toPort b hl1) ?_
                refine draw_all [4, 10] (by kernel_rfl) (by simp) ?_
                refine all_cons rfl rfl ?_ ?_
                · skip
                  refine w_callR rfl rfl rfl cl_47 (cy_spec_LoopPorts a b hl0 hl1 hA) ?_
                  refine d_take 5 rfl (by kernel_rfl) (by kernel_rfl) (by kernel_rfl) rfl (p_move rfl) ?_
                  refine d_take 6 rfl (by kernel_rfl) (by kernel_rfl) (by kernel_rfl) rfl (p_extract rfl rfl) ?_
                  refine d_take 7 rfl (by kernel_rfl) (by kernel_rfl) (by kernel_rfl) rfl (p_extract rfl rfl) ?_
                  refine d_take 8 rfl (by kernel_rfl) (by kernel_rfl) (by kernel_rfl) rfl (p_extract rfl rfl) ?_
                  refine draw_all [10] (by kernel_rfl) (by simp) ?_
                  refine all_cons rfl rfl ?_ ?_
                  · skip
                    refine w_alloc rfl z_41 fun b12 => ?_
                    refine draw_all [11] (by kernel_rfl) (by simp) ?_
                    refine all_cons rfl rfl ?_ ?_
                    · skip
                      refine w_store (cells' := [_, _, _, _]) rfl rfl rfl (by repeat (first | exact Pick.here _ _ _ | apply Pick.next)) cn_41 (by rfl) (by rfl) (by rfl) (by first | (refine .inl ?_; simp; done) | (refine .inr ?_; simp [keys]; done)) ?_
                      refine draw_all [12] (by kernel_rfl) (by simp) ?_
                      refine all_cons rfl rfl ?_ ?_
                      · skip
                        refine w_store (cells' := [_, _, _, _]) rfl rfl rfl (by repeat (first | exact Pick.here _ _ _ | apply Pick.next)) cn_41 (by rfl) (by rfl) (by rfl) (by first | (refine .inl ?_; simp; done) | (refine .inr ?_; simp [keys]; done)) ?_
                        refine d_take 13 rfl (by kernel_rfl) (by kernel_rfl) (by kernel_rfl) rfl (p_assign rfl) ?_
                        refine draw_done (by kernel_rfl) ?_
                        exact ⟨⟨b11, b12⟩, _, trivial, (by repeat (first | exact Knows.nil | refine Knows.cons (by rfl) ?_)), (by repeat (first | exact Back.refl _ _ | refine Back.cons (by rfl) ?_)), (by repeat (first | exact Picks.nil _ | exact Pick.here _ _ _ | apply Pick.next | apply Picks.cons))⟩
                      exact all_nil
                    exact all_nil
                  exact all_nil
                refine all_cons rfl rfl ?_ ?_
                · skip
                  refine w_alloc rfl z_41 fun b13 => ?_
                  refine draw_all [4] (by kernel_rfl) (by simp) ?_
                  refine all_cons rfl rfl ?_ ?_
                  · skip
                    refine w_callR rfl rfl rfl cl_47 (cy_spec_LoopPorts a b hl0 hl1 hA) ?_
                    refine d_take 5 rfl (by kernel_rfl) (by kernel_rfl) (by kernel_rfl) rfl (p_move rfl) ?_
                    refine d_take 6 rfl (by kernel_rfl) (by kernel_rfl) (by kernel_rfl) rfl (p_extract rfl rfl) ?_
                    refine d_take 7 rfl (by kernel_rfl) (by kernel_rfl) (by kernel_rfl) rfl (p_extract rfl rfl) ?_
                    refine d_take 8 rfl (by kernel_rfl) (by kernel_rfl) (by kernel_rfl) rfl (p_extract rfl rfl) ?_
                    refine draw_all [11] (by kernel_rfl) (by simp) ?_
                    refine all_cons rfl rfl ?_ ?_
                    · skip
                      refine w_store (cells' := [_, _, _, _]) rfl rfl rfl (by repeat (first | exact Pick.here _ _ _ | apply Pick.next)) cn_41 (by rfl) (by rfl) (by rfl) (by first | (refine .inl ?_; simp; done) | (refine .inr ?_; simp [keys]; done)) ?_
                      refine draw_all [12] (by kernel_rfl) (by simp) ?_
                      refine all_cons rfl rfl ?_ ?_
                      · skip
                        refine w_store (cells' := [_, _, _, _]) rfl rfl rfl (by repeat (first | exact Pick.here _ _ _ | apply Pick.next)) cn_41 (by rfl) (by rfl) (by rfl) (by first | (refine .inl ?_; simp; done) | (refine .inr ?_; simp [keys]; done)) ?_
                        refine d_take 13 rfl (by kernel_rfl) (by kernel_rfl) (by kernel_rfl) rfl (p_assign rfl) ?_
                        refine draw_done (by kernel_rfl) ?_
                        exact ⟨⟨b11, b13⟩, _, trivial, (by repeat (first | exact Knows.nil | refine Knows.cons (by rfl) ?_)), (by repeat (first | exact Back.refl _ _ | refine Back.cons (by rfl) ?_)), (by repeat (first | exact Picks.nil _ | exact Pick.here _ _ _ | apply Pick.next | apply Picks.cons))⟩
                      exact all_nil
                    exact all_nil
                  exact all_nil
                exact all_nil
              refine all_cons rfl rfl ?_ ?_
              · skip
                refine w_alloc rfl z_41 fun b14 => ?_
                refine draw_all [3] (by kernel_rfl) (by simp) ?_
                refine all_cons rfl rfl ?_ ?_
                · skip
                  refine w_callR rfl rfl rfl cl_27 (c_laws_toPort b hl1) ?_
                  refine draw_all [4] (by kernel_rfl) (by simp) ?_
                  refine all_cons rfl rfl ?_ ?_
                  · skip
                    refine w_callR rfl rfl rfl cl_47 (cy_spec_LoopPorts a b hl0 hl1 hA) ?_
                    refine d_take 5 rfl (by kernel_rfl) (by kernel_rfl) (by kernel_rfl) rfl (p_move rfl) ?_
                    refine d_take 6 rfl (by kernel_rfl) (by kernel_rfl) (by kernel_rfl) rfl (p_extract rfl rfl) ?_
                    refine d_take 7 rfl (by kernel_rfl) (by kernel_rfl) (by kernel_rfl) rfl (p_extract rfl rfl) ?_
                    refine d_take 8 rfl (by kernel_rfl) (by kernel_rfl) (by kernel_rfl) rfl (p_extract rfl rfl) ?_
                    refine draw_all [11] (by kernel_rfl) (by simp) ?_
                    refine all_cons rfl rfl ?_ ?_
                    · skip
                      refine w_store (cells' := [_, _, _, _]) rfl rfl rfl (by repeat (first | exact Pick.here _ _ _ | apply Pick.next)) cn_41 (by rfl) (by rfl) (by rfl) (by first | (refine .inl ?_; simp; done) | (refine .inr ?_; simp [keys]; done)) ?_
                      refine draw_all [12] (by kernel_rfl) (by simp) ?_
                      refine all_cons rfl rfl ?_ ?_
                      · skip
                        refine w_store (cells' := [_, _, _, _]) rfl rfl rfl (by repeat (first | exact Pick.here _ _ _ | apply Pick.next)) cn_41 (by rfl) (by rfl) (by rfl) (by first | (refine .inl ?_; simp; done) | (refine .inr ?_; simp [keys]; done)) ?_
                        refine d_take 13 rfl (by kernel_rfl) (by kernel_rfl) (by kernel_rfl) rfl (p_assign rfl) ?_
                        refine draw_done (by kernel_rfl) ?_
                        exact ⟨⟨b11, b14⟩, _, trivial, (by repeat (first | exact Knows.nil | refine Knows.cons (by rfl) ?_)), (by repeat (first | exact Back.refl _ _ | refine Back.cons (by rfl) ?_)), (by repeat (first | exact Picks.nil _ | exact Pick.here _ _ _ | apply Pick.next | apply Picks.cons))⟩
                      exact all_nil
                    exact all_nil
                  exact all_nil
                exact all_nil
              exact all_nil
            refine all_cons rfl rfl ?_ ?_
            · skip
              refine w_alloc rfl z_41 fun b15 => ?_
              refine draw_all [3, 9] (by kernel_rfl) (by simp) ?_
              refine all_cons rfl rfl ?_ ?_
              · skip
                refine w_callR rfl rfl rfl cl_27 (c_laws_toPort b hl1) ?_
                refine draw_all [4, 9] (by kernel_rfl) (by simp) ?_
                refine all_cons rfl rfl ?_ ?_
                · skip
                  refine w_callR rfl rfl rfl cl_47 (cy_spec_LoopPorts a b hl0 hl1 hA) ?_
                  refine d_take 5 rfl (by kernel_rfl) (by kernel_rfl) (by kernel_rfl) rfl (p_move rfl) ?_
                  refine d_take 6 rfl (by kernel_rfl) (by kernel_rfl) (by kernel_rfl) rfl (p_extract rfl rfl) ?_
                  refine d_take 7 rfl (by kernel_rfl) (by kernel_rfl) (by kernel_rfl) rfl (p_extract rfl rfl) ?_
                  refine d_take 8 rfl (by kernel_rfl) (by kernel_rfl) (by kernel_rfl) rfl (p_extract rfl rfl) ?_
                  refine draw_all [9] (by kernel_rfl) (by simp) ?_
                  refine all_cons rfl rfl ?_ ?_
                  · skip
                    refine w_alloc rfl z_41 fun b16 => ?_
                    refine draw_all [11] (by kernel_rfl) (by simp) ?_
                    refine all_cons rfl rfl ?_ ?_
                    · skip
                      refine w_store (cells' := [_, _, _, _]) rfl rfl rfl (by repeat (first | exact Pick.here _ _ _ | apply Pick.next)) cn_41 (by rfl) (by rfl) (by rfl) (by first | (refine .inl ?_; simp; done) | (refine .inr ?_; simp [keys]; done)) ?_
                      refine draw_all [12] (by kernel_rfl) (by simp) ?_
                      refine all_cons rfl rfl ?_ ?_
                      · skip
                        refine w_store (cells' := [_, _, _, _]) rfl rfl rfl (by repeat (first | exact Pick.here _ _ _ | apply Pick.next)) cn_41 (by rfl) (by rfl) (by rfl) (by first | (refine .inl ?_; simp; done) | (refine .inr ?_; simp [keys]; done)) ?_
                        refine d_take 13 rfl (by kernel_rfl) (by kernel_rfl) (by kernel_rfl) rfl (p_assign rfl) ?_
                        refine draw_done (by kernel_rfl) ?_
                        exact ⟨⟨b16, b15⟩, _, trivial, (by repeat (first | exact Knows.nil | refine Knows.cons (by rfl) ?_)), (by repeat (first | exact Back.refl _ _ | refine Back.cons (by rfl) ?_)), (by repeat (first | exact Picks.nil _ | exact Pick.here _ _ _ | apply Pick.next | apply Picks.cons))⟩
                      exact all_nil
                    exact all_nil
                  exact all_nil
                refine all_cons rfl rfl ?_ ?_
                · skip
                  refine w_alloc rfl z_41 fun b17 => ?_
                  refine draw_all [4] (by kernel_rfl) (by simp) ?_
                  refine all_cons rfl rfl ?_ ?_
                  · skip
                    refine w_callR rfl rfl rfl cl_47 (cy_spec_LoopPorts a b hl0 hl1 hA) ?_
                    refine d_take 5 rfl (by kernel_rfl) (by kernel_rfl) (by kernel_rfl) rfl (p_move rfl) ?_
                    refine d_take 6 rfl (by kernel_rfl) (by kernel_rfl) (by kernel_rfl) rfl (p_extract rfl rfl) ?_
                    refine d_take 7 rfl (by kernel_rfl) (by kernel_rfl) (by kernel_rfl) rfl (p_extract rfl rfl) ?_
                    refine d_take 8 rfl (by kernel_rfl) (by kernel_rfl) (by kernel_rfl) rfl (p_extract rfl rfl) ?_
                    refine draw_all [11] (by kernel_rfl) (by simp) ?_
                    refine all_cons rfl rfl ?_ ?_
                    · skip
                      refine w_store (cells' := [_, _, _, _]) rfl rfl rfl (by repeat (first | exact Pick.here _ _ _ | apply Pick.next)) cn_41 (by rfl) (by rfl) (by rfl) (by first | (refine .inl ?_; simp; done) | (refine .inr ?_; simp [keys]; done)) ?_
                      refine draw_all [12] (by kernel_rfl) (by simp) ?_
                      refine all_cons rfl rfl ?_ ?_
                      · skip
                        refine w_store (cells' := [_, _, _, _]) rfl rfl rfl (by repeat (first | exact Pick.here _ _ _ | apply Pick.next)) cn_41 (by rfl) (by rfl) (by rfl) (by first | (refine .inl ?_; simp; done) | (refine .inr ?_; simp [keys]; done)) ?_
                        refine d_take 13 rfl (by kernel_rfl) (by kernel_rfl) (by kernel_rfl) rfl (p_assign rfl) ?_
                        refine draw_done (by kernel_rfl) ?_
                        exact ⟨⟨b17, b15⟩, _, trivial, (by repeat (first | exact Knows.nil | refine Knows.cons (by rfl) ?_)), (by repeat (first | exact Back.refl _ _ | refine Back.cons (by rfl) ?_)), (by repeat (first | exact Picks.nil _ | exact Pick.here _ _ _ | apply Pick.next | apply Picks.cons))⟩
                      exact all_nil
                    exact all_nil
                  exact all_nil
                exact all_nil
              refine all_cons rfl rfl ?_ ?_
              · skip
                refine w_alloc rfl z_41 fun b18 => ?_
                refine draw_all [3] (by kernel_rfl) (by simp) ?_
                refine all_cons rfl rfl ?_ ?_
                · skip
                  refine w_callR rfl rfl rfl cl_27 (c_laws_toPort b hl1) ?_
                  refine draw_all [4] (by kernel_rfl) (by simp) ?_
                  refine all_cons rfl rfl ?_ ?_
                  · skip
                    refine w_callR rfl rfl rfl cl_47 (cy_spec_LoopPorts a b hl0 hl1 hA) ?_
                    refine d_take 5 rfl (by kernel_rfl) (by kernel_rfl) (by kernel_rfl) rfl (p_move rfl) ?_
                    refine d_take 6 rfl (by kernel_rfl) (by kernel_rfl) (by kernel_rfl) rfl (p_extract rfl rfl) ?_
                    refine d_take 7 rfl (by kernel_rfl) (by kernel_rfl) (by kernel_rfl) rfl (p_extract rfl rfl) ?_
                    refine d_take 8 rfl (by kernel_rfl) (by kernel_rfl) (by kernel_rfl) rfl (p_extract rfl rfl) ?_
                    refine draw_all [11] (by kernel_rfl) (by simp) ?_
                    refine all_cons rfl rfl ?_ ?_
                    · skip
                      refine w_store (cells' := [_, _, _, _]) rfl rfl rfl (by repeat (first | exact Pick.here _ _ _ | apply Pick.next)) cn_41 (by rfl) (by rfl) (by rfl) (by first | (refine .inl ?_; simp; done) | (refine .inr ?_; simp [keys]; done)) ?_
                      refine draw_all [12] (by kernel_rfl) (by simp) ?_
                      refine all_cons rfl rfl ?_ ?_
                      · skip
                        refine w_store (cells' := [_, _, _, _]) rfl rfl rfl (by repeat (first | exact Pick.here _ _ _ | apply Pick.next)) cn_41 (by rfl) (by rfl) (by rfl) (by first | (refine .inl ?_; simp; done) | (refine .inr ?_; simp [keys]; done)) ?_
                        refine d_take 13 rfl (by kernel_rfl) (by kernel_rfl) (by kernel_rfl) rfl (p_assign rfl) ?_
                        refine draw_done (by kernel_rfl) ?_
                        exact ⟨⟨b18, b15⟩, _, trivial, (by repeat (first | exact Knows.nil | refine Knows.cons (by rfl) ?_)), (by repeat (first | exact Back.refl _ _ | refine Back.cons (by rfl) ?_)), (by repeat (first | exact Picks.nil _ | exact Pick.here _ _ _ | apply Pick.next | apply Picks.cons))⟩
                      exact all_nil
                    exact all_nil
                  exact all_nil
                exact all_nil
              exact all_nil
            exact all_nil
          refine all_cons rfl rfl ?_ ?_
          · skip
            refine w_alloc rfl z_41 fun b19 => ?_
            refine draw_all [1, 10] (by kernel_rfl) (by simp) ?_
            refine all_cons rfl rfl ?_ ?_
            · skip
              refine w_callR rfl rfl rfl cl_27 (c_laws_toPort a hl0) ?_
              refine draw_all [3, 10] (by kernel_rfl) (by simp) ?_
              refine all_cons rfl rfl ?_ ?_
              · skip
                refine w_callR rfl rfl rfl cl_27 (c_laws_toPort b hl1) ?_
                refine draw_all [4, 10] (by kernel_rfl) (by simp) ?_
                refine all_cons rfl rfl ?_ ?_
                · skip
                  refine w_callR rfl rfl rfl cl_47 (cy_spec_LoopPorts a b hl0 hl1 hA) ?_
                  refine d_take 5 rfl (by kernel_rfl) (by kernel_rfl) (by kernel_rfl) rfl (p_move rfl) ?_
                  refine d_take 6 rfl (by kernel_rfl) (by kernel_rfl) (by kernel_rfl) rfl (p_extract rfl rfl) ?_
                  refine d_take 7 rfl (by kernel_rfl) (by kernel_rfl) (by kernel_rfl) rfl (p_extract rfl rfl) ?_
                  refine d_take 8 rfl (by kernel_rfl) (by kernel_rfl) (by kernel_rfl) rfl (p_extract rfl rfl) ?_
                  refine draw_all [10] (by kernel_rfl) (by simp) ?_
                  refine all_cons rfl rfl ?_ ?_
                  · skip
                    refine w_alloc rfl z_41 fun b20 => ?_
                    refine draw_all [11] (by kernel_rfl) (by simp) ?_
                    refine all_cons rfl rfl ?_ ?_
                    · skip
                      refine w_store (cells' := [_, _, _, _]) rfl rfl rfl (by repeat (first | exact Pick.here _ _ _ | apply Pick.next)) cn_41 (by rfl) (by rfl) (by rfl) (by first | (refine .inl ?_; simp; done) | (refine .inr ?_; simp [keys]; done)) ?_
                      refine draw_all [12] (by kernel_rfl) (by simp) ?_
                      refine all_cons rfl rfl ?_ ?_
                      · skip
                        refine w_store (cells' := [_, _, _, _]) rfl rfl rfl (by repeat (first | exact Pick.here _ _ _ | apply Pick.next)) cn_41 (by rfl) (by rfl) (by rfl) (by first | (refine .inl ?_; simp; done) | (refine .inr ?_; simp [keys]; done)) ?_
                        refine d_take 13 rfl (by kernel_rfl) (by kernel_rfl) (by kernel_rfl) rfl (p_assign rfl) ?_
                        refine draw_done (by kernel_rfl) ?_
                        exact ⟨⟨b19, b20⟩, _, trivial, (by repeat (first | exact Knows.nil | refine Knows.cons (by rfl) ?_)), (by repeat (first | exact Back.refl _ _ | refine Back.cons (by rfl) ?_)), (by repeat (first | exact Picks.nil _ | exact Pick.here _ _ _ | apply Pick.next | apply Picks.cons))⟩
                      exact all_nil
                    exact all_nil
                  exact all_nil
                refine all_cons rfl rfl ?_ ?_
                · skip
                  refine w_alloc rfl z_41 fun b21 => ?_
                  refine draw_all [4] (by kernel_rfl) (by simp) ?_
                  refine all_cons rfl rfl ?_ ?_
                  · skip
                    refine w_callR rfl rfl rfl cl_47 (cy_spec_LoopPorts a b hl0 hl1 hA) ?_
                    refine d_take 5 rfl (by kernel_rfl) (by kernel_rfl) (by kernel_rfl) rfl (p_move rfl) ?_
                    refine d_take 6 rfl (by kernel_rfl) (by kernel_rfl) (by kernel_rfl) rfl (p_extract rfl rfl) ?_
                    refine d_take 7 rfl (by kernel_rfl) (by kernel_rfl) (by kernel_rfl) rfl (p_extract rfl rfl) ?_
                    refine d_take 8 rfl (by kernel_rfl) (by kernel_rfl) (by kernel_rfl) rfl (p_extract rfl rfl) ?_
                    refine draw_all [11] (by kernel_rfl) (by simp) ?_
                    refine all_cons rfl rfl ?_ ?_
                    · skip
                      refine w_store (cells' := [_, _, _, _]) rfl rfl rfl (by repeat (first | exact Pick.here _ _ _ | apply Pick.next)) cn_41 (by rfl) (by rfl) (by rfl) (by first | (refine .inl ?_; simp; done) | (refine .inr ?_; simp [keys]; done)) ?_
                      refine draw_all [12] (by kernel_rfl) (by simp) ?_
                      refine all_cons rfl rfl ?_ ?_
                      · skip
                        refine w_store (cells' := [_, _, _, _]) rfl rfl rfl (by repeat (first | exact Pick.here _ _ _ | apply Pick.next)) cn_41 (by rfl) (by rfl) (by rfl) (by first | (refine .inl ?_; simp; done) | (refine .inr ?_; simp [keys]; done)) ?_
                        refine d_take 13 rfl (by kernel_rfl) (by kernel_rfl) (by kernel_rfl) rfl (p_assign rfl) ?_
                        refine draw_done (by kernel_rfl) ?_
                        exact ⟨⟨b19, b21⟩, _, trivial, (by repeat (first | exact Knows.nil | refine Knows.cons (by rfl) ?_)), (by repeat (first | exact Back.refl _ _ | refine Back.cons (by rfl) ?_)), (by repeat (first | exact Picks.nil _ | exact Pick.here _ _ _ | apply Pick.next | apply Picks.cons))⟩
                      exact all_nil
                    exact all_nil
                  exact all_nil
                exact all_nil
              refine all_cons rfl rfl ?_ ?_
              · skip
                refine w_alloc rfl z_41 fun b22 => ?_
                refine draw_all [3] (by kernel_rfl) (by simp) ?_
                refine all_cons rfl rfl ?_ ?_
                · skip
                  refine w_callR rfl rfl rfl cl_27 (c_laws_toPort b hl1) ?_
                  refine draw_all [4] (by kernel_rfl) (by simp) ?_
                  refine all_cons rfl rfl ?_ ?_
                  · skip
                    refine w_callR rfl rfl rfl cl_47 (cy_spec_LoopPorts a b hl0 hl1 hA) ?_
                    refine d_take 5 rfl (by kernel_rfl) (by kernel_rfl) (by kernel_rfl) rfl (p_move rfl) ?_
                    refine d_take 6 rfl (by kernel_rfl) (by kernel_rfl) (by kernel_rfl) rfl (p_extract rfl rfl) ?_
                    refine d_take 7 rfl (by kernel_rfl) (by kernel_rfl) (by kernel_rfl) rfl (p_extract rfl rfl) ?_
                    refine d_take 8 rfl (by kernel_rfl) (by kernel_rfl) (by kernel_rfl) rfl (p_extract rfl rfl) ?_
                    refine draw_all [11] (by kernel_rfl) (by simp) ?_
                    refine all_cons rfl rfl ?_ ?_
                    · skip
                      refine w_store (cells' := [_, _, _, _]) rfl rfl rfl (by repeat (first | exact Pick.here _ _ _ | apply Pick.next)) cn_41 (by rfl) (by rfl) (by rfl) (by first | (refine .inl ?_; simp; done) | (refine .inr ?_; simp [keys]; done)) ?_
                      refine draw_all [12] (by kernel_rfl) (by simp) ?_
                      refine all_cons rfl rfl ?_ ?_
                      · skip
                        refine w_store (cells' := [_, _, _, _]) rfl rfl rfl (by repeat (first | exact Pick.here _ _ _ | apply Pick.next)) cn_41 (by rfl) (by rfl) (by rfl) (by first | (refine .inl ?_; simp; done) | (refine .inr ?_; simp [keys]; done)) ?_
                        refine d_take 13 rfl (by kernel_rfl) (by kernel_rfl) (by kernel_rfl) rfl (p_assign rfl) ?_
                        refine draw_done (by kernel_rfl) ?_
                        exact ⟨⟨b19, b22⟩, _, trivial, (by repeat (first | exact Knows.nil | refine Knows.cons (by rfl) ?_)), (by repeat (first | exact Back.refl _ _ | refine Back.cons (by rfl) ?_)), (by repeat (first | exact Picks.nil _ | exact Pick.here _ _ _ | apply Pick.next | apply Picks.cons))⟩
                      exact all_nil
                    exact all_nil
                  exact all_nil
                exact all_nil
              exact all_nil
            refine all_cons rfl rfl ?_ ?_
            · skip
              refine w_alloc rfl z_41 fun b23 => ?_
              refine draw_all [1] (by kernel_rfl) (by simp) ?_
              refine all_cons rfl rfl ?_ ?_
              · skip
                refine w_callR rfl rfl rfl cl_27 (c_laws_toPort a hl0) ?_
                refine draw_all [3] (by kernel_rfl) (by simp) ?_
                refine all_cons rfl rfl ?_ ?_
                · skip
                  refine w_callR rfl rfl rfl cl_27 (c_laws_toPort b hl1) ?_
                  refine draw_all [4] (by kernel_rfl) (by simp) ?_
                  refine all_cons rfl rfl ?_ ?_
                  · skip
                    refine w_callR rfl rfl rfl cl_47 (cy_spec_LoopPorts a b hl0 hl1 hA) ?_
                    refine d_take 5 rfl (by kernel_rfl) (by kernel_rfl) (by kernel_rfl) rfl (p_move rfl) ?_
                    refine d_take 6 rfl (by kernel_rfl) (by kernel_rfl) (by kernel_rfl) rfl (p_extract rfl rfl) ?_
                    refine d_take 7 rfl (by kernel_rfl) (by kernel_rfl) (by kernel_rfl) rfl (p_extract rfl rfl) ?_
                    refine d_take 8 rfl (by kernel_rfl) (by kernel_rfl) (by kernel_rfl) rfl (p_extract rfl rfl) ?_
                    refine draw_all [11] (by kernel_rfl) (by simp) ?_
                    refine all_cons rfl rfl ?_ ?_
                    · skip
                      refine w_store (cells' := [_, _, _, _]) rfl rfl rfl (by repeat (first | exact Pick.here _ _ _ | apply Pick.next)) cn_41 (by rfl) (by rfl) (by rfl) (by first | (refine .inl ?_; simp; done) | (refine .inr ?_; simp [keys]; done)) ?_
                      refine draw_all [12] (by kernel_rfl) (by simp) ?_
                      refine all_cons rfl rfl ?_ ?_
                      · skip
                        refine w_store (cells' := [_, _, _, _]) rfl rfl rfl (by repeat (first | exact Pick.here _ _ _ | apply Pick.next)) cn_41 (by rfl) (by rfl) (by rfl) (by first | (refine .inl ?_; simp; done) | (refine .inr ?_; simp [keys]; done)) ?_
                        refine d_take 13 rfl (by kernel_rfl) (by kernel_rfl) (by kernel_rfl) rfl (p_assign rfl) ?_
                        refine draw_done (by kernel_rfl) ?_
                        exact ⟨⟨b19, b23⟩, _, trivial, (by repeat (first | exact Knows.nil | refine Knows.cons (by rfl) ?_)), (by repeat (first | exact Back.refl _ _ | refine Back.cons (by rfl) ?_)), (by repeat (first | exact Picks.nil _ | exact Pick.here _ _ _ | apply Pick.next | apply Picks.cons))⟩
                      exact all_nil
                    exact all_nil
                  exact all_nil
                exact all_nil
              exact all_nil
            exact all_nil
          refine all_cons rfl rfl ?_ ?_
          · skip
            refine w_alloc rfl z_41 fun b24 => ?_
            refine draw_all [1, 9] (by kernel_rfl) (by simp) ?_
            refine all_cons rfl rfl ?_ ?_
            · skip
              refine w_callR rfl rfl rfl cl_27 (c_laws_toPort a hl0) ?_
              refine draw_all [3, 9] (by kernel_rfl) (by simp) ?_
              refine all_cons rfl rfl ?_ ?_
              · skip
                refine w_callR rfl rfl rfl cl_27 (c_laws_toPort b hl1) ?_
                refine draw_all [4, 9] (by kernel_rfl) (by simp) ?_
                refine all_cons rfl rfl ?_ ?_
                · skip
                  refine w_callR rfl rfl rfl cl_47 (cy_spec_LoopPorts a b hl0 hl1 hA) ?_
                  refine d_take 5 rfl (by kernel_rfl) (by kernel_rfl) (by kernel_rfl) rfl (p_move rfl) ?_
                  refine d_take 6 rfl (by kernel_rfl) (by kernel_rfl) (by kernel_rfl) rfl (p_extract rfl rfl) ?_
                  refine d_take 7 rfl (by kernel_rfl) (by kernel_rfl) (by kernel_rfl) rfl (p_extract rfl rfl) ?_
                  refine d_take 8 rfl (by kernel_rfl) (by kernel_rfl) (by kernel_rfl) rfl (p_extract rfl rfl) ?_
                  refine draw_all [9] (by kernel_rfl) (by simp) ?_
                  refine all_cons rfl rfl ?_ ?_
                  · skip
                    refine w_alloc rfl z_41 fun b25 => ?_
                    refine draw_all [11] (by kernel_rfl) (by simp) ?_
                    refine all_cons rfl rfl ?_ ?_
                    · skip
                      refine w_store (cells' := [_, _, _, _]) rfl rfl rfl (by repeat (first | exact Pick.here _ _ _ | apply Pick.next)) cn_41 (by rfl) (by rfl) (by rfl) (by first | (refine .inl ?_; simp; done) | (refine .inr ?_; simp [keys]; done)) ?_
                      refine draw_all [12] (by kernel_rfl) (by simp) ?_
                      refine all_cons rfl rfl ?_ ?_
                      · skip
                        refine w_store (cells' := [_, _, _, _]) rfl rfl rfl (by repeat (first | exact Pick.here _ _ _ | apply Pick.next)) cn_41 (by rfl) (by rfl) (by rfl) (by first | (refine .inl ?_; simp; done) | (refine .inr ?_; simp [keys]; done)) ?_
                        refine d_take 13 rfl (by kernel_rfl) (by kernel_rfl) (by kernel_rfl) rfl (p_assign rfl) ?_
                        refine draw_done (by kernel_rfl) ?_
                        exact ⟨⟨b25, b24⟩, _, trivial, (by repeat (first | exact Knows.nil | refine Knows.cons (by rfl) ?_)), (by repeat (first | exact Back.refl _ _ | refine Back.cons (by rfl) ?_)), (by repeat (first | exact Picks.nil _ | exact Pick.here _ _ _ | apply Pick.next | apply Picks.cons))⟩
                      exact all_nil
                    exact all_nil
                  exact all_nil
                refine all_cons rfl rfl ?_ ?_
                · skip
                  refine w_alloc rfl z_41 fun b26 => ?_
                  refine draw_all [4] (by kernel_rfl) (by simp) ?_
                  refine all_cons rfl rfl ?_ ?_
                  · skip
                    refine w_callR rfl rfl rfl cl_47 (cy_spec_LoopPorts a b hl0 hl1 hA) ?_
                    refine d_take 5 rfl (by kernel_rfl) (by kernel_rfl) (by kernel_rfl) rfl (p_move rfl) ?_
                    refine d_take 6 rfl (by kernel_rfl) (by kernel_rfl) (by kernel_rfl) rfl (p_extract rfl rfl) ?_
                    refine d_take 7 rfl (by kernel_rfl) (by kernel_rfl) (by kernel_rfl) rfl (p_extract rfl rfl) ?_
                    refine d_take 8 rfl (by kernel_rfl) (by kernel_rfl) (by kernel_rfl) rfl (p_extract rfl rfl) ?_
                    refine draw_all [11] (by kernel_rfl) (by simp) ?_
                    refine all_cons rfl rfl ?_ ?_
                    · skip
                      refine w_store (cells' := [_, _, _, _]) rfl rfl rfl (by repeat (first | exact Pick.here _ _ _ | apply Pick.next)) cn_41 (by rfl) (by rfl) (by rfl) (by first | (refine .inl ?_; simp; done) | (refine .inr ?_; simp [keys]; done)) ?_
                      refine draw_all [12] (by kernel_rfl) (by simp) ?_
                      refine all_cons rfl rfl ?_ ?_
                      · skip
                        refine w_store (cells' := [_, _, _, _]) rfl rfl rfl (by repeat (first | exact Pick.here _ _ _ | apply Pick.next)) cn_41 (by rfl) (by rfl) (by rfl) (by first | (refine .inl ?_; simp; done) | (refine .inr ?_; simp [keys]; done)) ?_
                        refine d_take 13 rfl (by kernel_rfl) (by kernel_rfl) (by kernel_rfl) rfl (p_assign rfl) ?_
                        refine draw_done (by kernel_rfl) ?_
                        exact ⟨⟨b26, b24⟩, _, trivial, (by repeat (first | exact Knows.nil | refine Knows.cons (by rfl) ?_)), (by repeat (first | exact Back.refl _ _ | refine Back.cons (by rfl) ?_)), (by repeat (first | exact Picks.nil _ | exact Pick.here _ _ _ | apply Pick.next | apply Picks.cons))⟩
                      exact all_nil
                    exact all_nil
                  exact all_nil
                exact all_nil
              refine all_cons rfl rfl ?_ ?_
              · skip
                refine w_alloc rfl z_41 fun b27 => ?_
                refine draw_all [3] (by kernel_rfl) (by simp) ?_
                refine all_cons rfl rfl ?_ ?_
                · skip
                  refine w_callR rfl rfl rfl cl_27 (c_laws_toPort b hl1) ?_
                  refine draw_all [4] (by kernel_rfl) (by simp) ?_
                  refine all_cons rfl rfl ?_ ?_
                  · skip
                    refine w_callR rfl rfl rfl cl_47 (cy_spec_LoopPorts a b hl0 hl1 hA) ?_
                    refine d_take 5 rfl (by kernel_rfl) (by kernel_rfl) (by kernel_rfl) rfl (p_move rfl) ?_
                    refine d_take 6 rfl (by kernel_rfl) (by kernel_rfl) (by kernel_rfl) rfl (p_extract rfl rfl) ?_
                    refine d_take 7 rfl (by kernel_rfl) (by kernel_rfl) (by kernel_rfl) rfl (p_extract rfl rfl) ?_
                    refine d_take 8 rfl (by kernel_rfl) (by kernel_rfl) (by kernel_rfl) rfl (p_extract rfl rfl) ?_
                    refine draw_all [11] (by kernel_rfl) (by simp) ?_
                    refine all_cons rfl rfl ?_ ?_
                    · skip
                      refine w_store (cells' := [_, _, _, _]) rfl rfl rfl (by repeat (first | exact Pick.here _ _ _ | apply Pick.next)) cn_41 (by rfl) (by rfl) (by rfl) (by first | (refine .inl ?_; simp; done) | (refine .inr ?_; simp [keys]; done)) ?_
                      refine draw_all [12] (by kernel_rfl) (by simp) ?_
                      refine all_cons rfl rfl ?_ ?_
                      · skip
                        refine w_store (cells' := [_, _, _, _]) rfl rfl rfl (by repeat (first | exact Pick.here _ _ _ | apply Pick.next)) cn_41 (by rfl) (by rfl) (by rfl) (by first | (refine .inl ?_; simp; done) | (refine .inr ?_; simp [keys]; done)) ?_
                        refine d_take 13 rfl (by kernel_rfl) (by kernel_rfl) (by kernel_rfl) rfl (p_assign rfl) ?_
                        refine draw_done (by kernel_rfl) ?_
                        exact ⟨⟨b27, b24⟩, _, trivial, (by repeat (first | exact Knows.nil | refine Knows.cons (by rfl) ?_)), (by repeat (first | exact Back.refl _ _ | refine Back.cons (by rfl) ?_)), (by repeat (first | exact Picks.nil _ | exact Pick.here _ _ _ | apply Pick.next | apply Picks.cons))⟩
                      exact all_nil
                    exact all_nil
                  exact all_nil
                exact all_nil
              exact all_nil
            refine all_cons rfl rfl ?_ ?_
            · skip
              refine w_alloc rfl z_41 fun b28 => ?_
              refine draw_all [1] (by kernel_rfl) (by simp) ?_
              refine all_cons rfl rfl ?_ ?_
              · skip
                refine w_callR rfl rfl rfl cl_27 (c_laws_toPort a hl0) ?_
                refine draw_all [3] (by kernel_rfl) (by simp) ?_
                refine all_cons rfl rfl ?_ ?_
                · skip
                  refine w_callR rfl rfl rfl cl_27 (c_laws_toPort b hl1) ?_
                  refine draw_all [4] (by kernel_rfl) (by simp) ?_
                  refine all_cons rfl rfl ?_ ?_
                  · skip
                    refine w_callR rfl rfl rfl cl_47 (cy_spec_LoopPorts a b hl0 hl1 hA) ?_
                    refine d_take 5 rfl (by kernel_rfl) (by kernel_rfl) (by kernel_rfl) rfl (p_move rfl) ?_
                    refine d_take 6 rfl (by kernel_rfl) (by kernel_rfl) (by kernel_rfl) rfl (p_extract rfl rfl) ?_
                    refine d_take 7 rfl (by kernel_rfl) (by kernel_rfl) (by kernel_rfl) rfl (p_extract rfl rfl) ?_
                    refine d_take 8 rfl (by kernel_rfl) (by kernel_rfl) (by kernel_rfl) rfl (p_extract rfl rfl) ?_
                    refine draw_all [11] (by kernel_rfl) (by simp) ?_
                    refine all_cons rfl rfl ?_ ?_
                    · skip
                      refine w_store (cells' := [_, _, _, _]) rfl rfl rfl (by repeat (first | exact Pick.here _ _ _ | apply Pick.next)) cn_41 (by rfl) (by rfl) (by rfl) (by first | (refine .inl ?_; simp; done) | (refine .inr ?_; simp [keys]; done)) ?_
                      refine draw_all [12] (by kernel_rfl) (by simp) ?_
                      refine all_cons rfl rfl ?_ ?_
                      · skip
                        refine w_store (cells' := [_, _, _, _]) rfl rfl rfl (by repeat (first | exact Pick.here _ _ _ | apply Pick.next)) cn_41 (by rfl) (by rfl) (by rfl) (by first | (refine .inl ?_; simp; done) | (refine .inr ?_; simp [keys]; done)) ?_
                        refine d_take 13 rfl (by kernel_rfl) (by kernel_rfl) (by kernel_rfl) rfl (p_assign rfl) ?_
                        refine draw_done (by kernel_rfl) ?_
                        exact ⟨⟨b28, b24⟩, _, trivial, (by repeat (first | exact Knows.nil | refine Knows.cons (by rfl) ?_)), (by repeat (first | exact Back.refl _ _ | refine Back.cons (by rfl) ?_)), (by repeat (first | exact Picks.nil _ | exact Pick.here _ _ _ | apply Pick.next | apply Picks.cons))⟩
                      exact all_nil
                    exact all_nil
                  exact all_nil
                exact all_nil
              exact all_nil
            exact all_nil
          exact all_nil
        · rintro ⟨q1, q2⟩ -
          refine a_seq ?_
          refine a_region ?_
          refine aops_cons rfl (w_pure rfl (p_load_v_all ag_38 rfl (by rfl) noX) ?_)
          refine aops_cons rfl (w_call rfl rfl rfl cl_27 (co_laws_toPort a hl0) ?_)
          rintro _ _ ⟨b29, b30, rfl, rfl⟩
          refine aops_cons rfl (w_alloc rfl z_41 fun b31 => ?_)
          refine aops_cons rfl (w_store (cells' := [_, _, _, _]) rfl rfl rfl (by repeat (first | exact Pick.here _ _ _ | apply Pick.next)) cn_41 (by rfl) (by rfl) (by rfl) trivial ?_)
          refine aops_nil ?_
          refine a_seq ?_
          refine a_region ?_
          refine aops_cons rfl (w_pure rfl (p_load_v_all ag_38 rfl (by rfl) noX) ?_)
          refine aops_cons rfl (w_call rfl rfl rfl cl_27 (co_laws_toPort b hl1) ?_)
          rintro _ _ ⟨b32, b33, rfl, rfl⟩
          refine aops_cons rfl (w_alloc rfl z_41 fun b34 => ?_)
          refine aops_cons rfl (w_store (cells' := [_, _, _, _]) rfl rfl rfl (by repeat (first | exact Pick.here _ _ _ | apply Pick.next)) cn_41 (by rfl) (by rfl) (by rfl) trivial ?_)
          refine aops_nil ?_
          refine a_seq ?_
          refine a_region ?_
          refine aops_cons rfl (w_pure rfl (p_load_box_all ag_41 rfl (by repeat (first | exact Pick.here _ _ _ | apply Pick.next)) (by rfl) noX) ?_)
          refine aops_cons rfl (w_pure rfl (p_load_box_all ag_41 rfl (by repeat (first | exact Pick.here _ _ _ | apply Pick.next)) (by rfl) noX) ?_)
          refine aops_cons rfl (w_callL rfl rfl rfl cl_48 (.cons (.agg (.cons (.own (by repeat (first | exact List.Mem.head _ | apply List.Mem.tail)) (by first | (simp; done) | (simp [mkL]; done))) (.cons (.own (by repeat (first | exact List.Mem.head _ | apply List.Mem.tail)) (by first | (simp; done) | (simp [mkL]; done))) (.cons (.refl _) (.cons (.refl _) .nil))))) (.cons (.agg (.cons (.own (by repeat (first | exact List.Mem.head _ | apply List.Mem.tail)) (by first | (simp; done) | (simp [mkL]; done))) (.cons (.own (by repeat (first | exact List.Mem.head _ | apply List.Mem.tail)) (by first | (simp; done) | (simp [mkL]; done))) (.cons (.refl _) (.cons (.refl _) .nil))))) .nil)) (cy_impl_LoopPorts a b hl0 hl1 hA) ?_)
          rintro _ _ ⟨b35, b36, b37, b38, rfl, rfl⟩
          refine ⟨(closed_tup (all_cons' (closed_agg (all_cons' (closed_own _ _ _ _) (all_cons' (closed_own _ _ _ _) (all_cons' (closed_int _ _) (all_cons' (closed_bool _) all_nil'))))) (all_cons' (closed_agg (all_cons' (closed_own _ _ _ _) (all_cons' (closed_own _ _ _ _) (all_cons' (closed_int _ _) (all_cons' (closed_bool _) all_nil'))))) (all_cons' (closed_bool _) all_nil')))), (closedS_cons (closedAll _ _ _ _ cl_eInt) (closedS_cons (closedAll _ _ _ _ cl_eInt) (closedS_cons (closedAll _ _ _ _ cl_eInt) (closedS_cons (closedAll _ _ _ _ cl_eInt) closedS_nil)))), ?_⟩
          refine aops_cons rfl (w_pure rfl (p_move rfl) ?_)
          refine aops_cons rfl (w_pure rfl (p_extract rfl rfl) ?_)
          refine aops_cons rfl (w_pure rfl (p_extract rfl rfl) ?_)
          refine aops_cons rfl (w_pure rfl (p_extract rfl rfl) ?_)
          refine aops_cons rfl (w_alloc rfl z_41 fun b39 => ?_)
          refine aops_cons rfl (w_alloc rfl z_41 fun b40 => ?_)
          refine aops_cons rfl (w_store (cells' := [_, _, _, _]) rfl rfl rfl (by repeat (first | exact Pick.here _ _ _ | apply Pick.next)) cn_41 (by rfl) (by rfl) (by rfl) trivial ?_)
          refine aops_cons rfl (w_store (cells' := [_, _, _, _]) rfl rfl rfl (by repeat (first | exact Pick.here _ _ _ | apply Pick.next)) cn_41 (by rfl) (by rfl) (by rfl) trivial ?_)
          refine aops_cons rfl (w_pure rfl (p_assign rfl) ?_)
          refine aops_nil ?_
          refine a_seq ?_
          refine a_seq ?_
          refine a_region ?_
          refine aops_cons rfl (w_pure rfl (p_load_box_all ag_41 rfl (by repeat (first | exact Pick.here _ _ _ | apply Pick.next)) (by rfl) noX) ?_)
          refine aops_cons rfl (w_pure rfl (p_load_box_all ag_41 rfl (by repeat (first | exact Pick.here _ _ _ | apply Pick.next)) (by rfl) noX) ?_)
          refine aops_cons rfl (w_callLR rfl rfl rfl cl_29 (.cons (.agg (.cons (.own (by repeat (first | exact List.Mem.head _ | apply List.Mem.tail)) (by first | (simp; done) | (simp [mkL]; done))) (.cons (.own (by repeat (first | exact List.Mem.head _ | apply List.Mem.tail)) (by first | (simp; done) | (simp [mkL]; done))) (.cons (.refl _) (.cons (.refl _) .nil))))) (.cons (.refl _) .nil)) (c_laws_eqPort (loopP a b) (small_loop hA.1 hA.2)) (closed_bool _) ?_)
          refine aops_cons rfl (w_pure rfl (p_not rfl) ?_)
          refine aops_cons rfl (w_pure rfl (p_move rfl) ?_)
          refine aops_guard_t rfl rfl rfl (w_pure rfl (p_load_box_all ag_41 rfl (by repeat (first | exact Pick.here _ _ _ | apply Pick.next)) (by rfl) noX) ?_)
          refine aops_guard_t rfl rfl rfl (w_pure rfl (p_load_box_all ag_41 rfl (by repeat (first | exact Pick.here _ _ _ | apply Pick.next)) (by rfl) noX) ?_)
          refine aops_guard_t rfl rfl rfl (w_callLR rfl rfl rfl cl_29 (.cons (.agg (.cons (.own (by repeat (first | exact List.Mem.head _ | apply List.Mem.tail)) (by first | (simp; done) | (simp [mkL]; done))) (.cons (.own (by repeat (first | exact List.Mem.head _ | apply List.Mem.tail)) (by first | (simp; done) | (simp [mkL]; done))) (.cons (.refl _) (.cons (.refl _) .nil))))) (.cons (.refl _) .nil)) (c_laws_eqPort (loopP b a) (small_loop hA.2 hA.1)) (closed_bool _) ?_)
          refine aops_guard_t rfl rfl rfl (w_pure rfl (p_not rfl) ?_)
          refine aops_cons rfl (w_pure rfl (p_pick_f rfl rfl) ?_)
          refine aops_cons rfl (w_pure rfl (p_move rfl) ?_)
          refine aops_guard_t rfl rfl rfl (w_pure rfl (p_move rfl) ?_)
          refine aops_guard_t rfl rfl rfl (w_pure rfl (p_move rfl) ?_)
          refine aops_guard_t rfl rfl rfl (w_pure rfl (p_neq_bsame um_4 rfl rfl) ?_)
          refine aops_cons rfl (w_pure rfl (p_pick_f rfl rfl) ?_)
          refine aops_nil ?_
          refine a_cond_f rfl ?_
          refine a_skip ?_
          refine a_seq ?_
          refine a_seq ?_
          refine a_draw [] (by kernel_rfl) ?_
          show ADraw _ _ _ _ _ _ 5 _ _ _ _
          refine d_load 0 rfl (by kernel_rfl) (by kernel_rfl) (by kernel_rfl) rfl (p_load_box_all ag_41 rfl (by repeat (first | exact Pick.here _ _ _ | apply Pick.next)) (by rfl) noX) ?_
          refine d_load 1 rfl (by kernel_rfl) (by kernel_rfl) (by kernel_rfl) rfl (p_load_v_all ag_38 rfl (by rfl) noX) ?_
          refine draw_all [2] (by kernel_rfl) (by simp) ?_
          refine all_cons rfl rfl ?_ ?_
          · skip
            refine w_callR rfl rfl rfl cl_27 (c_laws_toPort a hl0) ?_
            refine draw_all [3] (by kernel_rfl) (by simp) ?_
            refine all_cons rfl rfl ?_ ?_
            · skip
              refine w_callLR rfl rfl rfl cl_29 (.cons (.agg (.cons (.own (by repeat (first | exact List.Mem.head _ | apply List.Mem.tail)) (by first | (simp; done) | (simp [mkL]; done))) (.cons (.own (by repeat (first | exact List.Mem.head _ | apply List.Mem.tail)) (by first | (simp; done) | (simp [mkL]; done))) (.cons (.refl _) (.cons (.refl _) .nil))))) (.cons (.refl _) .nil)) (c_laws_eqPort a hl0) (closed_bool _) ?_
              refine d_take 4 rfl (by kernel_rfl) (by kernel_rfl) (by kernel_rfl) rfl (p_not rfl) ?_
              refine draw_done (by kernel_rfl) ?_
              refine a_cond_f rfl ?_
              refine a_skip ?_
              refine a_seq ?_
              refine a_seq ?_
              refine a_draw [] (by kernel_rfl) ?_
              show ADraw _ _ _ _ _ _ 5 _ _ _ _
              refine d_load 0 rfl (by kernel_rfl) (by kernel_rfl) (by kernel_rfl) rfl (p_load_box_all ag_41 rfl (by repeat (first | exact Pick.here _ _ _ | apply Pick.next)) (by rfl) noX) ?_
              refine d_load 1 rfl (by kernel_rfl) (by kernel_rfl) (by kernel_rfl) rfl (p_load_v_all ag_38 rfl (by rfl) noX) ?_
              refine draw_all [2] (by kernel_rfl) (by simp) ?_
              refine all_cons rfl rfl ?_ ?_
              · skip
                refine w_callR rfl rfl rfl cl_27 (c_laws_toPort b hl1) ?_
                refine draw_all [3] (by kernel_rfl) (by simp) ?_
                refine all_cons rfl rfl ?_ ?_
                · skip
                  refine w_callLR rfl rfl rfl cl_29 (.cons (.agg (.cons (.own (by repeat (first | exact List.Mem.head _ | apply List.Mem.tail)) (by first | (simp; done) | (simp [mkL]; done))) (.cons (.own (by repeat (first | exact List.Mem.head _ | apply List.Mem.tail)) (by first | (simp; done) | (simp [mkL]; done))) (.cons (.refl _) (.cons (.refl _) .nil))))) (.cons (.refl _) .nil)) (c_laws_eqPort b hl1) (closed_bool _) ?_
                  refine d_take 4 rfl (by kernel_rfl) (by kernel_rfl) (by kernel_rfl) rfl (p_not rfl) ?_
                  refine draw_done (by kernel_rfl) ?_
                  refine a_cond_f rfl ?_
                  refine a_skip ?_
                  refine a_seq ?_
                  refine a_region ?_
                  refine aops_cons rfl (w_pure rfl (p_assign rfl) ?_)
                  refine aops_nil ?_
                  refine a_seq ?_
                  refine a_region ?_
                  refine aops_cons rfl (w_pure rfl (p_load_box_all ag_41 rfl (by repeat (first | exact Pick.here _ _ _ | apply Pick.next)) (by rfl) noX) ?_)
                  refine aops_cons rfl (w_pure rfl (p_move rfl) ?_)
                  refine aops_cons rfl (w_callM rfl rfl rfl cl_36 (.cons (by repeat (first | exact Pick.here _ _ _ | apply Pick.next)) (.cons (by repeat (first | exact Pick.here _ _ _ | apply Pick.next)) (.nil _))) (.cons (.refl _) (.cons (.refl _) .nil)) (c_laws_markPort _ _ a hl0 _ (by first | omega | (simp; done) | (simp; omega)) (by first | omega | (simp; done) | (simp; omega))) trivial ?_)
                  rintro _ _ ⟨rfl, rfl⟩
                  refine ⟨(closed_int _ _), (closedS_cons (closedAll _ _ _ _ cl_eInt) (closedS_cons (closedAll _ _ _ _ cl_eInt) closedS_nil)), ?_⟩
                  refine aops_cons rfl (w_pure rfl (p_assign rfl) ?_)
                  refine aops_nil ?_
                  refine a_seq ?_
                  refine a_region ?_
                  refine aops_cons rfl (w_pure rfl (p_load_box_all ag_41 rfl (by repeat (first | exact Pick.here _ _ _ | apply Pick.next)) (by rfl) noX) ?_)
                  refine aops_cons rfl (w_pure rfl (p_move rfl) ?_)
                  refine aops_cons rfl (w_callM rfl rfl rfl cl_36 (.cons (by repeat (first | exact Pick.here _ _ _ | apply Pick.next)) (.cons (by repeat (first | exact Pick.here _ _ _ | apply Pick.next)) (.nil _))) (.cons (.refl _) (.cons (.refl _) .nil)) (c_laws_markPort _ _ b hl1 _ (by first | omega | (simp; done) | (simp; omega)) (by first | omega | (simp; done) | (simp; omega))) trivial ?_)
                  rintro _ _ ⟨rfl, rfl⟩
                  refine ⟨(closed_int _ _), (closedS_cons (closedAll _ _ _ _ cl_eInt) (closedS_cons (closedAll _ _ _ _ cl_eInt) closedS_nil)), ?_⟩
                  refine aops_cons rfl (w_pure rfl (p_assign rfl) ?_)
                  refine aops_nil ?_
                  refine a_seq ?_
                  refine a_seq ?_
                  refine a_region ?_
                  refine aops_cons rfl (w_pure rfl (p_move rfl) ?_)
                  refine aops_cons rfl (w_pure rfl (p_lss rfl rfl) ?_)
                  refine aops_cons rfl (w_pure rfl (p_move rfl) ?_)
                  first | refine aops_split_d 83 rfl (fun h5 => ?_) (fun h6 => ?_) | refine aops_split 83 rfl (fun h5 => ?_) (fun h6 => ?_)
                  · (try simp only [Bool.not_eq_true', Bool.not_eq_false', Bool.not_eq_true, Bool.not_eq_false, decide_eq_true_eq, decide_eq_false_iff_not, List.length_map, List.length_range] at h5)
                    refine g_pass' rfl rfl rfl rfl rfl ?_
                    refine g_pass' rfl rfl rfl rfl rfl ?_
                    refine g_pass' rfl rfl rfl rfl rfl ?_
                    refine g_pass' rfl rfl rfl rfl rfl ?_
                    refine aops_cons rfl (w_pure rfl (p_pick_t rfl rfl) ?_)
                    refine aops_cons rfl (w_pure rfl (p_move rfl) ?_)
                    refine g_pass' rfl rfl rfl rfl rfl ?_
                    refine g_pass' rfl rfl rfl rfl rfl ?_
                    refine g_pass' rfl rfl rfl rfl rfl ?_
                    refine g_pass' rfl rfl rfl rfl rfl ?_
                    refine aops_cons rfl (w_pure rfl (p_pick_t rfl rfl) ?_)
                    refine aops_cons rfl (w_pure rfl (p_move rfl) ?_)
                    refine g_pass' rfl rfl rfl rfl rfl ?_
                    refine g_pass' rfl rfl rfl rfl rfl ?_
                    refine g_pass' rfl rfl rfl rfl rfl ?_
                    refine aops_cons rfl (w_pure rfl (p_pick_t rfl rfl) ?_)
                    refine aops_nil ?_
                    refine a_cond_t rfl ?_
                    refine a_seq ?_
                    refine a_region ?_
                    refine aops_cons rfl (w_pure rfl (p_assign rfl) ?_)
                    refine aops_nil ?_
                    refine a_ret ?_
                    refine ret_ok (hands1 rfl (.tmp rfl)) (.nil _) ?_
                    first | exact ⟨rfl, rfl⟩ | (exfalso; omega)
                  · (try simp only [Bool.not_eq_true', Bool.not_eq_false', Bool.not_eq_true, Bool.not_eq_false, decide_eq_true_eq, decide_eq_false_iff_not, List.length_map, List.length_range] at h6)
                    refine aops_guard_t rfl rfl rfl (w_pure rfl (p_load_box_all ag_41 rfl (by repeat (first | exact Pick.here _ _ _ | apply Pick.next)) (by rfl) noX) ?_)
                    refine aops_guard_t rfl rfl rfl (w_pure rfl (p_load_box_all ag_41 rfl (by repeat (first | exact Pick.here _ _ _ | apply Pick.next)) (by rfl) noX) ?_)
                    refine aops_guard_t rfl rfl rfl (w_callLR rfl rfl rfl cl_29 (.cons (.agg (.cons (.own (by repeat (first | exact List.Mem.head _ | apply List.Mem.tail)) (by first | (simp; done) | (simp [mkL]; done))) (.cons (.own (by repeat (first | exact List.Mem.head _ | apply List.Mem.tail)) (by first | (simp; done) | (simp [mkL]; done))) (.cons (.refl _) (.cons (.refl _) .nil))))) (.cons (.refl _) .nil)) (c_laws_eqPort (loopP a b) (small_loop hA.1 hA.2)) (closed_bool _) ?_)
                    refine aops_guard_t rfl rfl rfl (w_pure rfl (p_not rfl) ?_)
                    refine aops_cons rfl (w_pure rfl (p_pick_f rfl rfl) ?_)
                    refine aops_cons rfl (w_pure rfl (p_move rfl) ?_)
                    refine aops_guard_t rfl rfl rfl (w_pure rfl (p_load_box_all ag_41 rfl (by repeat (first | exact Pick.here _ _ _ | apply Pick.next)) (by rfl) noX) ?_)
                    refine aops_guard_t rfl rfl rfl (w_pure rfl (p_load_box_all ag_41 rfl (by repeat (first | exact Pick.here _ _ _ | apply Pick.next)) (by rfl) noX) ?_)
                    refine aops_guard_t rfl rfl rfl (w_callLR rfl rfl rfl cl_29 (.cons (.agg (.cons (.own (by repeat (first | exact List.Mem.head _ | apply List.Mem.tail)) (by first | (simp; done) | (simp [mkL]; done))) (.cons (.own (by repeat (first | exact List.Mem.head _ | apply List.Mem.tail)) (by first | (simp; done) | (simp [mkL]; done))) (.cons (.refl _) (.cons (.refl _) .nil))))) (.cons (.refl _) .nil)) (c_laws_eqPort (loopP b a) (small_loop hA.2 hA.1)) (closed_bool _) ?_)
                    refine aops_guard_t rfl rfl rfl (w_pure rfl (p_not rfl) ?_)
                    refine aops_cons rfl (w_pure rfl (p_pick_f rfl rfl) ?_)
                    refine aops_cons rfl (w_pure rfl (p_move rfl) ?_)
                    refine aops_guard_t rfl rfl rfl (w_pure rfl (p_move rfl) ?_)
                    refine aops_guard_t rfl rfl rfl (w_pure rfl (p_move rfl) ?_)
                    refine aops_guard_t rfl rfl rfl (w_pure rfl (p_neq_bsame um_4 rfl rfl) ?_)
                    refine aops_cons rfl (w_pure rfl (p_pick_f rfl rfl) ?_)
                    refine aops_nil ?_
                    refine a_cond_f rfl ?_
                    refine a_skip ?_
                    refine a_seq ?_
                    refine a_region ?_
                    refine aops_cons rfl (w_pure rfl (p_assign rfl) ?_)
                    refine aops_nil ?_
                    refine a_seq ?_
                    refine a_region ?_
                    refine aops_cons rfl (w_pure rfl (p_load_box_all ag_41 rfl (by repeat (first | exact Pick.here _ _ _ | apply Pick.next)) (by rfl) noX) ?_)
                    refine aops_cons rfl (w_pure rfl (p_move rfl) ?_)
                    refine aops_cons rfl (w_callM rfl rfl rfl cl_36 (.cons (by repeat (first | exact Pick.here _ _ _ | apply Pick.next)) (.cons (by repeat (first | exact Pick.here _ _ _ | apply Pick.next)) (.nil _))) (.cons (.refl _) (.cons (.refl _) .nil)) (c_laws_markPort _ _ (loopP a b) (small_loop hA.1 hA.2) _ (by first | omega | (simp; done) | (simp; omega)) (by first | omega | (simp; done) | (simp; omega))) trivial ?_)
                    rintro _ _ ⟨rfl, rfl⟩
                    refine ⟨(closed_int _ _), (closedS_cons (closedAll _ _ _ _ cl_eInt) (closedS_cons (closedAll _ _ _ _ cl_eInt) closedS_nil)), ?_⟩
                    refine aops_cons rfl (w_pure rfl (p_assign rfl) ?_)
                    refine aops_nil ?_
                    refine a_seq ?_
                    refine a_region ?_
                    refine aops_cons rfl (w_pure rfl (p_load_box_all ag_41 rfl (by repeat (first | exact Pick.here _ _ _ | apply Pick.next)) (by rfl) noX) ?_)
                    refine aops_cons rfl (w_pure rfl (p_move rfl) ?_)
                    refine aops_cons rfl (w_callM rfl rfl rfl cl_36 (.cons (by repeat (first | exact Pick.here _ _ _ | apply Pick.next)) (.cons (by repeat (first | exact Pick.here _ _ _ | apply Pick.next)) (.nil _))) (.cons (.refl _) (.cons (.refl _) .nil)) (c_laws_markPort _ _ (loopP b a) (small_loop hA.2 hA.1) _ (by first | omega | (simp; done) | (simp; omega)) (by first | omega | (simp; done) | (simp; omega))) trivial ?_)
                    rintro _ _ ⟨rfl, rfl⟩
                    refine ⟨(closed_int _ _), (closedS_cons (closedAll _ _ _ _ cl_eInt) (closedS_cons (closedAll _ _ _ _ cl_eInt) closedS_nil)), ?_⟩
                    refine aops_cons rfl (w_pure rfl (p_assign rfl) ?_)
                    refine aops_nil ?_
                    refine a_seq ?_
                    refine a_region ?_
                    refine aops_cons rfl (w_pure rfl (p_assign rfl) ?_)
                    refine aops_nil ?_
                    refine a_seq ?_
                    refine a_region ?_
                    refine aops_cons rfl (w_pure rfl (p_load_box_all ag_41 rfl (by repeat (first | exact Pick.here _ _ _ | apply Pick.next)) (by rfl) noX) ?_)
                    refine aops_cons rfl (w_pure rfl (p_move rfl) ?_)
                    refine aops_cons rfl (w_callLR rfl rfl rfl cl_37 (.cons (.agg (.cons (.own (by repeat (first | exact List.Mem.head _ | apply List.Mem.tail)) (by first | (simp; done) | (simp [mkL]; done))) (.cons (.own (by repeat (first | exact List.Mem.head _ | apply List.Mem.tail)) (by first | (simp; done) | (simp [mkL]; done))) (.cons (.refl _) (.cons (.refl _) .nil))))) (.cons (.refl _) .nil)) (c_laws_heldPort (loopP a b) (small_loop hA.1 hA.2) _ (by first | omega | (simp; done) | (simp; omega)) (by first | omega | (simp; done) | (simp; omega))) (closed_int _ _) ?_)
                    refine aops_cons rfl (w_pure rfl (p_assign rfl) ?_)
                    refine aops_nil ?_
                    refine a_seq ?_
                    refine a_seq ?_
                    refine a_region ?_
                    refine aops_cons rfl (w_pure rfl (p_move rfl) ?_)
                    refine aops_cons rfl (w_pure rfl (p_lss rfl rfl) ?_)
                    refine aops_nil ?_
                    first | refine a_cond_d rfl (fun h7 => ?_) (fun h8 => ?_) | refine a_cond_n rfl (fun h7 => ?_) (fun h8 => ?_) | refine a_cond_nb rfl (fun h7 => ?_) (fun h8 => ?_) | refine a_cond rfl (fun h7 => ?_) (fun h8 => ?_)
                    · (try simp only [Bool.not_eq_true', Bool.not_eq_false', Bool.not_eq_true, Bool.not_eq_false, decide_eq_true_eq, decide_eq_false_iff_not, List.length_map, List.length_range] at h7)
                      refine a_seq ?_
                      refine a_region ?_
                      refine aops_cons rfl (w_pure rfl (p_assign rfl) ?_)
                      refine aops_nil ?_
                      refine a_ret ?_
                      refine ret_ok (hands1 rfl (.tmp rfl)) (.nil _) ?_
                      first | exact ⟨rfl, rfl⟩ | (exfalso; omega)
                    · (try simp only [Bool.not_eq_true', Bool.not_eq_false', Bool.not_eq_true, Bool.not_eq_false, decide_eq_true_eq, decide_eq_false_iff_not, List.length_map, List.length_range] at h8)
                      refine a_skip ?_
                      refine a_seq ?_
                      refine a_region ?_
                      refine aops_cons rfl (w_pure rfl (p_load_box_all ag_41 rfl (by repeat (first | exact Pick.here _ _ _ | apply Pick.next)) (by rfl) noX) ?_)
                      refine aops_cons rfl (w_pure rfl (p_move rfl) ?_)
                      refine aops_cons rfl (w_callLR rfl rfl rfl cl_37 (.cons (.agg (.cons (.own (by repeat (first | exact List.Mem.head _ | apply List.Mem.tail)) (by first | (simp; done) | (simp [mkL]; done))) (.cons (.own (by repeat (first | exact List.Mem.head _ | apply List.Mem.tail)) (by first | (simp; done) | (simp [mkL]; done))) (.cons (.refl _) (.cons (.refl _) .nil))))) (.cons (.refl _) .nil)) (c_laws_heldPort (loopP b a) (small_loop hA.2 hA.1) _ (by first | omega | (simp; done) | (simp; omega)) (by first | omega | (simp; done) | (simp; omega))) (closed_int _ _) ?_)
                      refine aops_cons rfl (w_pure rfl (p_assign rfl) ?_)
                      refine aops_nil ?_
                      refine a_seq ?_
                      refine a_seq ?_
                      refine a_region ?_
                      refine aops_cons rfl (w_pure rfl (p_move rfl) ?_)
                      refine aops_cons rfl (w_pure rfl (p_lss rfl rfl) ?_)
                      refine aops_nil ?_
                      first | refine a_cond_d rfl (fun h9 => ?_) (fun h10 => ?_) | refine a_cond_n rfl (fun h9 => ?_) (fun h10 => ?_) | refine a_cond_nb rfl (fun h9 => ?_) (fun h10 => ?_) | refine a_cond rfl (fun h9 => ?_) (fun h10 => ?_)
                      · (try simp only [Bool.not_eq_true', Bool.not_eq_false', Bool.not_eq_true, Bool.not_eq_false, decide_eq_true_eq, decide_eq_false_iff_not, List.length_map, List.length_range] at h9)
                        refine a_seq ?_
                        refine a_region ?_
                        refine aops_cons rfl (w_pure rfl (p_assign rfl) ?_)
                        refine aops_nil ?_
                        refine a_ret ?_
                        refine ret_ok (hands1 rfl (.tmp rfl)) (.nil _) ?_
                        first | exact ⟨rfl, rfl⟩ | (exfalso; omega)
                      · (try simp only [Bool.not_eq_true', Bool.not_eq_false', Bool.not_eq_true, Bool.not_eq_false, decide_eq_true_eq, decide_eq_false_iff_not, List.length_map, List.length_range] at h10)
                        refine a_skip ?_
                        refine a_seq ?_
                        refine a_seq ?_
                        refine a_region ?_
                        refine aops_cons rfl (w_pure rfl (p_move rfl) ?_)
                        refine aops_cons rfl (w_pure rfl (p_move rfl) ?_)
                        refine aops_cons rfl (w_pure rfl (p_neq_same rfl rfl) ?_)
                        refine aops_nil ?_
                        refine a_cond_f rfl ?_
                        refine a_skip ?_
                        refine a_seq_join (ι := Nat × Nat) (fun ⟨q1, q2⟩ => True) (fun ⟨q1, q2⟩ => [(17, .ptr q1 0), (18, .ptr q2 0), (19, .bool true)]) (fun ⟨q1, q2⟩ => [(q1, .box (ePort (loopP a b))), (q2, .box (ePort (loopP b a)))]) (old := []) (by repeat (first | exact Picks.nil _ | exact Pick.here _ _ _ | apply Pick.next | apply Picks.cons)) ?_ ?_
                        · skip
                          refine a_draw [] (by kernel_rfl) ?_
                          show ADraw _ _ _ _ _ _ 14 _ _ _ _
                          refine d_load 0 rfl (by kernel_rfl) (by kernel_rfl) (by kernel_rfl) rfl (p_load_v_all ag_38 rfl (by rfl) noX) ?_
                          refine d_load 2 rfl (by kernel_rfl) (by kernel_rfl) (by kernel_rfl) rfl (p_load_v_all ag_38 rfl (by rfl) noX) ?_
                          refine draw_all [1, 9, 10] (by kernel_rfl) (by simp) ?_
                          refine all_cons rfl rfl ?_ ?_
                          · skip
                            refine w_callR rfl rfl rfl cl_27 (c_laws_toPort a hl0) ?_
                            refine draw_all [3, 9, 10] (by kernel_rfl) (by simp) ?_
                            refine all_cons rfl rfl ?_ ?_
                            · skip
                              refine w_callR rfl rfl rfl cl_27 (c_laws_toPort b hl1) ?_
                              refine draw_all [4, 9, 10] (by kernel_rfl) (by simp) ?_
                              refine all_cons rfl rfl ?_ ?_
                              · skip
                                refine w_callR rfl rfl rfl cl_48 (cf_impl_LoopPorts a b hl0 hl1 hA) ?_
                                refine d_take 5 rfl (by kernel_rfl) (by kernel_rfl) (by kernel_rfl) rfl (p_move rfl) ?_
                                refine d_take 6 rfl (by kernel_rfl) (by kernel_rfl) (by kernel_rfl) rfl (p_extract rfl rfl) ?_
                                refine d_take 7 rfl (by kernel_rfl) (by kernel_rfl) (by kernel_rfl) rfl (p_extract rfl rfl) ?_
                                refine d_take 8 rfl (by kernel_rfl) (by kernel_rfl) (by kernel_rfl) rfl (p_extract rfl rfl) ?_
                                refine draw_all [9, 10] (by kernel_rfl) (by simp) ?_
                                refine all_cons rfl rfl ?_ ?_
                                · skip
                                  refine w_alloc rfl z_41 fun b41 => ?_
                                  refine draw_all [10] (by kernel_rfl) (by simp) ?_
                                  refine all_cons rfl rfl ?_ ?_
                                  · skip
                                    refine w_alloc rfl z_41 fun b42 => ?_
                                    refine draw_all [11] (by kernel_rfl) (by simp) ?_
                                    refine all_cons rfl rfl ?_ ?_
                                    · skip
                                      refine w_store (cells' := [_, _, _, _]) rfl rfl rfl (by repeat (first | exact Pick.here _ _ _ | apply Pick.next)) cn_41 (by rfl) (by rfl) (by rfl) (by first | (refine .inl ?_; simp; done) | (refine .inr ?_; simp [keys]; done)) ?_
                                      refine draw_all [12] (by kernel_rfl) (by simp) ?_
                                      refine all_cons rfl rfl ?_ ?_
                                      · skip
                                        refine w_store (cells' := [_, _, _, _]) rfl rfl rfl (by repeat (first | exact Pick.here _ _ _ | apply Pick.next)) cn_41 (by rfl) (by rfl) (by rfl) (by first | (refine .inl ?_; simp; done) | (refine .inr ?_; simp [keys]; done)) ?_
                                        refine d_take 13 rfl (by kernel_rfl) (by kernel_rfl) (by kernel_rfl) rfl (p_assign rfl) ?_
                                        refine draw_done (by kernel_rfl) ?_
                                        exact ⟨⟨b41, b42⟩, _, trivial, (by repeat (first | exact Knows.nil | refine Knows.cons (by rfl) ?_)), (by repeat (first | exact Back.refl _ _ | refine Back.cons (by rfl) ?_)), (by repeat (first | exact Picks.nil _ | exact Pick.here _ _ _ | apply Pick.next | apply Picks.cons))⟩
                                      exact all_nil
                                    exact all_nil
                                  exact all_nil
                                refine all_cons rfl rfl ?_ ?_
                                · skip
                                  refine w_alloc rfl z_41 fun b43 => ?_
                                  refine draw_all [9] (by kernel_rfl) (by simp) ?_
                                  refine all_cons rfl rfl ?_ ?_
                                  · skip
                                    refine w_alloc rfl z_41 fun b44 => ?_
                                    refine draw_all [11] (by kernel_rfl) (by simp) ?_
                                    refine all_cons rfl rfl ?_ ?_
                                    · skip
                                      refine w_store (cells' := [_, _, _, _]) rfl rfl rfl (by repeat (first | exact Pick.here _ _ _ | apply Pick.next)) cn_41 (by rfl) (by rfl) (by rfl) (by first | (refine .inl ?_; simp; done) | (refine .inr ?_; simp [keys]; done)) ?_
                                      refine draw_all [12] (by kernel_rfl) (by simp) ?_
                                      refine all_cons rfl rfl ?_ ?_
                                      · skip
                                        refine w_store (cells' := [_, _, _, _]) rfl rfl rfl (by repeat (first | exact Pick.here _ _ _ | apply Pick.next)) cn_41 (by rfl) (by rfl) (by rfl) (by first | (refine .inl ?_; simp; done) | (refine .inr ?_; simp [keys]; done)) ?_
                                        refine d_take 13 rfl (by kernel_rfl) (by kernel_rfl) (by kernel_rfl) rfl (p_assign rfl) ?_
                                        refine draw_done (by kernel_rfl) ?_
                                        exact ⟨⟨b44, b43⟩, _, trivial, (by repeat (first | exact Knows.nil | refine Knows.cons (by rfl) ?_)), (by repeat (first | exact Back.refl _ _ | refine Back.cons (by rfl) ?_)), (by repeat (first | exact Picks.nil _ | exact Pick.here _ _ _ | apply Pick.next | apply Picks.cons))⟩
                                      exact all_nil
                                    exact all_nil
                                  exact all_nil
                                exact all_nil
                              refine all_cons rfl rfl ?_ ?_
                              · skip
                                refine w_alloc rfl z_41 fun b45 => ?_
                                refine draw_all [4, 10] (by kernel_rfl) (by simp) ?_
                                refine all_cons rfl rfl ?_ ?_
                                · skip
                                  refine w_callR rfl rfl rfl cl_48 (cf_impl_LoopPorts a b hl0 hl1 hA) ?_
                                  refine d_take 5 rfl (by kernel_rfl) (by kernel_rfl) (by kernel_rfl) rfl (p_move rfl) ?_
                                  refine d_take 6 rfl (by kernel_rfl) (by kernel_rfl) (by kernel_rfl) rfl (p_extract rfl rfl) ?_
                                  refine d_take 7 rfl (by kernel_rfl) (by kernel_rfl) (by kernel_rfl) rfl (p_extract rfl rfl) ?_
                                  refine d_take 8 rfl (by kernel_rfl) (by kernel_rfl) (by kernel_rfl) rfl (p_extract rfl rfl) ?_
                                  refine draw_all [10] (by kernel_rfl) (by simp) ?_
                                  refine all_cons rfl rfl ?_ ?_
                                  · skip
                                    refine w_alloc rfl z_41 fun b46 => ?_
                                    refine draw_all [11] (by kernel_rfl) (by simp) ?_
                                    refine all_cons rfl rfl ?_ ?_
                                    · skip
                                      refine w_store (cells' := [_, _, _, _]) rfl rfl rfl (by repeat (first | exact Pick.here _ _ _ | apply Pick.next)) cn_41 (by rfl) (by rfl) (by rfl) (by first | (refine .inl ?_; simp; done) | (refine .inr ?_; simp [keys]; done)) ?_
                                      refine draw_all [12] (by kernel_rfl) (by simp) ?_
                                      refine all_cons rfl rfl ?_ ?_
                                      · skip
                                        refine w_store (cells' := [_, _, _, _]) rfl rfl rfl (by repeat (first | exact Pick.here _ _ _ | apply Pick.next)) cn_41 (by rfl) (by rfl) (by rfl) (by first | (refine .inl ?_; simp; done) | (refine .inr ?_; simp [keys]; done)) ?_
                                        refine d_take 13 rfl (by kernel_rfl) (by kernel_rfl) (by kernel_rfl) rfl (p_assign rfl) ?_
                                        refine draw_done (by kernel_rfl) ?_
                                        exact ⟨⟨b45, b46⟩, _, trivial, (by repeat (first | exact Knows.nil | refine Knows.cons (by rfl) ?_)), (by repeat (first | exact Back.refl _ _ | refine Back.cons (by rfl) ?_)), (by repeat (first | exact Picks.nil _ | exact Pick.here _ _ _ | apply Pick.next | apply Picks.cons))⟩
                                      exact all_nil
                                    exact all_nil
                                  exact all_nil
                                refine all_cons rfl rfl ?_ ?_
                                · skip
                                  refine w_alloc rfl z_41 fun b47 => ?_
                                  refine draw_all [4] (by kernel_rfl) (by simp) ?_
                                  refine all_cons rfl rfl ?_ ?_
                                  · skip
                                    refine w_callR rfl rfl rfl cl_48 (cf_impl_LoopPorts a b hl0 hl1 hA) ?_
                                    refine d_take 5 rfl (by kernel_rfl) (by kernel_rfl) (by kernel_rfl) rfl (p_move rfl) ?_
                                    refine d_take 6 rfl (by kernel_rfl) (by kernel_rfl) (by kernel_rfl) rfl (p_extract rfl rfl) ?_
                                    refine d_take 7 rfl (by kernel_rfl) (by kernel_rfl) (by kernel_rfl) rfl (p_extract rfl rfl) ?_
                                    refine d_take 8 rfl (by kernel_rfl) (by kernel_rfl) (by kernel_rfl) rfl (p_extract rfl rfl) ?_
                                    refine draw_all [11] (by kernel_rfl) (by simp) ?_
                                    refine all_cons rfl rfl ?_ ?_
                                    · skip
                                      refine w_store (cells' := [_, _, _, _]) rfl rfl rfl (by repeat (first | exact Pick.here _ _ _ | apply Pick.next)) cn_41 (by rfl) (by rfl) (by rfl) (by first | (refine .inl ?_; simp; done) | (refine .inr ?_; simp [keys]; done)) ?_
                                      refine draw_all [12] (by kernel_rfl) (by simp) ?_
                                      refine all_cons rfl rfl ?_ ?_
                                      · skip
                                        refine w_store (cells' := [_, _, _, _]) rfl rfl rfl (by repeat (first | exact Pick.here _ _ _ | apply Pick.next)) cn_41 (by rfl) (by rfl) (by rfl) (by first | (refine .inl ?_; simp; done) | (refine .inr ?_; simp [keys]; done)) ?_
                                        refine d_take 13 rfl (by kernel_rfl) (by kernel_rfl) (by kernel_rfl) rfl (p_assign rfl) ?_
                                        refine draw_done (by kernel_rfl) ?_
                                        exact ⟨⟨b45, b47⟩, _, trivial, (by repeat (first | exact Knows.nil | refine Knows.cons (by rfl) ?_)), (by repeat (first | exact Back.refl _ _ | refine Back.cons (by rfl) ?_)), (by repeat (first | exact Picks.nil _ | exact Pick.here _ _ _ | apply Pick.next | apply Picks.cons))⟩
                                      exact all_nil
                                    exact all_nil
                                  exact all_nil
                                exact all_nil
                              refine all_cons rfl rfl ?_ ?_
                              · skip
                                refine w_alloc rfl z_41 fun b48 => ?_
                                refine draw_all [4, 9] (by kernel_rfl) (by simp) ?_
                                refine all_cons rfl rfl ?_ ?_
                                · skip
                                  refine w_callR rfl rfl rfl cl_48 (cf_impl_LoopPorts a b hl0 hl1 hA) ?_
                                  refine d_take 5 rfl (by kernel_rfl) (by kernel_rfl) (by kernel_rfl) rfl (p_move rfl) ?_
                                  refine d_take 6 rfl (by kernel_rfl) (by kernel_rfl) (by kernel_rfl) rfl (p_extract rfl rfl) ?_
                                  refine d_take 7 rfl (by kernel_rfl) (by kernel_rfl) (by kernel_rfl) rfl (p_extract rfl rfl) ?_
                                  refine d_take 8 rfl (by kernel_rfl) (by kernel_rfl) (by kernel_rfl) rfl (p_extract rfl rfl) ?_
                                  refine draw_all [9] (by kernel_rfl) (by simp) ?_
                                  refine all_cons rfl rfl ?_ ?_
                                  · skip
                                    refine w_alloc rfl z_41 fun b49 => ?_
                                    refine draw_all [11] (by kernel_rfl) (by simp) ?_
                                    refine all_cons rfl rfl ?_ ?_
                                    · skip
                                      refine w_store (cells' := [_, _, _, _]) rfl rfl rfl (by repeat (first | exact Pick.here _ _ _ | apply Pick.next)) cn_41 (by rfl) (by rfl) (by rfl) (by first | (refine .inl ?_; simp; done) | (refine .inr ?_; simp [keys]; done)) ?_
                                      refine draw_all [12] (by kernel_rfl) (by simp) ?_
                                      refine all_cons rfl rfl ?_ ?_
                                      · skip
                                        refine w_store (cells' := [_, _, _, _]) rfl rfl rfl (by repeat (first | exact Pick.here _ _ _ | apply Pick.next)) cn_41 (by rfl) (by rfl) (by rfl) (by first | (refine .inl ?_; simp; done) | (refine .inr ?_; simp [keys]; done)) ?_
                                        refine d_take 13 rfl (by kernel_rfl) (by kernel_rfl) (by kernel_rfl) rfl (p_assign rfl) ?_
                                        refine draw_done (by kernel_rfl) ?_
                                        exact ⟨⟨b49, b48⟩, _, trivial, (by repeat (first | exact Knows.nil | refine Knows.cons (by rfl) ?_)), (by repeat (first | exact Back.refl _ _ | refine Back.cons (by rfl) ?_)), (by repeat (first | exact Picks.nil _ | exact Pick.here _ _ _ | apply Pick.next | apply Picks.cons))⟩
                                      exact all_nil
                                    exact all_nil
                                  exact all_nil
                                refine all_cons rfl rfl ?_ ?_
                                · skip
                                  refine w_alloc rfl z_41 fun b50 => ?_
                                  refine draw_all [4] (by kernel_rfl) (by simp) ?_
                                  refine all_cons rfl rfl ?_ ?_
                                  · skip
                                    refine w_callR rfl rfl rfl cl_48 (cf_impl_LoopPorts a b hl0 hl1 hA) ?_
                                    refine d_take 5 rfl (by kernel_rfl) (by kernel_rfl) (by kernel_rfl) rfl (p_move rfl) ?_
                                    refine d_take 6 rfl (by kernel_rfl) (by kernel_rfl) (by kernel_rfl) rfl (p_extract rfl rfl) ?_
                                    refine d_take 7 rfl (by kernel_rfl) (by kernel_rfl) (by kernel_rfl) rfl (p_extract rfl rfl) ?_
                                    refine d_take 8 rfl (by kernel_rfl) (by kernel_rfl) (by kernel_rfl) rfl (p_extract rfl rfl) ?_
                                    refine draw_all [11] (by kernel_rfl) (by simp) ?_
                                    refine all_cons rfl rfl ?_ ?_
                                    · skip
                                      refine w_store (cells' := [_, _, _, _]) rfl rfl rfl (by repeat (first | exact Pick.here _ _ _ | apply Pick.next)) cn_41 (by rfl) (by rfl) (by rfl) (by first | (refine .inl ?_; simp; done) | (refine .inr ?_; simp [keys]; done)) ?_
                                      refine draw_all [12] (by kernel_rfl) (by simp) ?_
                                      refine all_cons rfl rfl ?_ ?_
                                      · skip
                                        refine w_store (cells' := [_, _, _, _]) rfl rfl rfl (by repeat (first | exact Pick.here _ _ _ | apply Pick.next)) cn_41 (by rfl) (by rfl) (by rfl) (by first | (refine .inl ?_; simp; done) | (refine .inr ?_; simp [keys]; done)) ?_
                                        refine d_take 13 rfl (by kernel_rfl) (by kernel_rfl) (by kernel_rfl) rfl (p_assign rfl) ?_
                                        refine draw_done (by kernel_rfl) ?_
                                        exact ⟨⟨b50, b48⟩, _, trivial, (by repeat (first | exact Knows.nil | refine Knows.cons (by rfl) ?_)), (by repeat (first | exact Back.refl _ _ | refine Back.cons (by rfl) ?_)), (by repeat (first | exact Picks.nil _ | exact Pick.here _ _ _ | apply Pick.next | apply Picks.cons))⟩
                                      exact all_nil
                                    exact all_nil
                                  exact all_nil
                                exact all_nil
                              exact all_nil
                            refine all_cons rfl rfl ?_ ?_
                            · skip
                              refine w_alloc rfl z_41 fun b51 => ?_
                              refine draw_all [3, 10] (by kernel_rfl) (by simp) ?_
                              refine all_cons rfl rfl ?_ ?_
                              · skip
                                refine w_callR rfl rfl rfl cl_27 (c_laws_toPort b hl1) ?_
                                refine draw_all [4, 10] (by kernel_rfl) (by simp) ?_
                                refine all_cons rfl rfl ?_ ?_
                                · skip
                                  refine w_callR rfl rfl rfl cl_48 (cf_impl_LoopPorts a b hl0 hl1 hA) ?_
                                  refine d_take 5 rfl (by kernel_rfl) (by kernel_rfl) (by kernel_rfl) rfl (p_move rfl) ?_
                                  refine d_take 6 rfl (by kernel_rfl) (by kernel_rfl) (by kernel_rfl) rfl (p_extract rfl rfl) ?_
                                  refine d_take 7 rfl (by kernel_rfl) (by kernel_rfl) (by kernel_rfl) rfl (p_extract rfl rfl) ?_
                                  refine d_take 8 rfl (by kernel_rfl) (by kernel_rfl) (by kernel_rfl) rfl (p_extract rfl rfl) ?_
                                  refine draw_all [10] (by kernel_rfl) (by simp) ?_
                                  refine all_cons rfl rfl ?_ ?_
                                  · skip
                                    refine w_alloc rfl z_41 fun b52 => ?_
                                    refine draw_all [11] (by kernel_rfl) (by simp) ?_
                                    refine all_cons rfl rfl ?_ ?_
                                    · skip
                                      refine w_store (cells' := [_, _, _, _]) rfl rfl rfl (by repeat (first | exact Pick.here _ _ _ | apply Pick.next)) cn_41 (by rfl) (by rfl) (by rfl) (by first | (refine .inl ?_; simp; done) | (refine .inr ?_; simp [keys]; done)) ?_
                                      refine draw_all [12] (by kernel_rfl) (by simp) ?_
                                      refine all_cons rfl rfl ?_ ?_
                                      · skip
                                        refine w_store (cells' := [_, _, _, _]) rfl rfl rfl (by repeat (first | exact Pick.here _ _ _ | apply Pick.next)) cn_41 (by rfl) (by rfl) (by rfl) (by first | (refine .inl ?_; simp; done) | (refine .inr ?_; simp [keys]; done)) ?_
                                        refine d_take 13 rfl (by kernel_rfl) (by kernel_rfl) (by kernel_rfl) rfl (p_assign rfl) ?_
                                        refine draw_done (by kernel_rfl) ?_
                                        exact ⟨⟨b51, b52⟩, _, trivial, (by repeat (first | exact Knows.nil | refine Knows.cons (by rfl) ?_)), (by repeat (first | exact Back.refl _ _ | refine Back.cons (by rfl) ?_)), (by repeat (first | exact Picks.nil _ | exact Pick.here _ _ _ | apply Pick.next | apply Picks.cons))⟩
                                      exact all_nil
                                    exact all_nil
                                  exact all_nil
                                refine all_cons rfl rfl ?_ ?_
                                · skip
                                  refine w_alloc rfl z_41 fun b53 => ?_
                                  refine draw_all [4] (by kernel_rfl) (by simp) ?_
                                  refine all_cons rfl rfl ?_ ?_
                                  · skip
                                    refine w_callR rfl rfl rfl cl_48 (cf_impl_LoopPorts a b hl0 hl1 hA) ?_
                                    refine d_take 5 rfl (by kernel_rfl) (by kernel_rfl) (by kernel_rfl) rfl (p_move rfl) ?_
                                    refine d_take 6 rfl (by kernel_rfl) (by kernel_rfl) (by kernel_rfl) rfl (p_extract rfl rfl) ?_
                                    refine d_take 7 rfl (by kernel_rfl) (by kernel_rfl) (by kernel_rfl) rfl (p_extract rfl rfl) ?_
                                    refine d_take 8 rfl (by kernel_rfl) (by kernel_rfl) (by kernel_rfl) rfl (p_extract rfl rfl) ?_
                                    refine draw_all [11] (by kernel_rfl) (by simp) ?_
                                    refine all_cons rfl rfl ?_ ?_
                                    · skip
                                      refine w_store (cells' := [_, _, _, _]) rfl rfl rfl (by repeat (first | exact Pick.here _ _ _ | apply Pick.next)) cn_41 (by rfl) (by rfl) (by rfl) (by first | (refine .inl ?_; simp; done) | (refine .inr ?_; simp [keys]; done)) ?_
                                      refine draw_all [12] (by kernel_rfl) (by simp) ?_
                                      refine all_cons rfl rfl ?_ ?_
                                      · skip
                                        refine w_store (cells' := [_, _, _, _]) rfl rfl rfl (by repeat (first | exact Pick.here _ _ _ | apply Pick.next)) cn_41 (by rfl) (by rfl) (by rfl) (by first | (refine .inl ?_; simp; done) | (refine .inr ?_; simp [keys]; done)) ?_
                                        refine d_take 13 rfl (by kernel_rfl) (by kernel_rfl) (by kernel_rfl) rfl (p_assign rfl) ?_
                                        refine draw_done (by kernel_rfl) ?_
                                        exact ⟨⟨b51, b53⟩, _, trivial, (by repeat (first | exact Knows.nil | refine Knows.cons (by rfl) ?_)), (by repeat (first | exact Back.refl _ _ | refine Back.cons (by rfl) ?_)), (by repeat (first | exact Picks.nil _ | exact Pick.here _ _ _ | apply Pick.next | apply Picks.cons))⟩
                                      exact all_nil
                                    exact all_nil
                                  exact all_nil
                                exact all_nil
                              refine all_cons rfl rfl ?_ ?_
                              · skip
                                refine w_alloc rfl z_41 fun b54 => ?_
                                refine draw_all [3] (by kernel_rfl) (by simp) ?_
                                refine all_cons rfl rfl ?_ ?_
                                · skip
                                  refine w_callR rfl rfl rfl cl_27 (c_laws_toPort b hl1) ?_
                                  refine draw_all [4] (by kernel_rfl) (by simp) ?_
                                  refine all_cons rfl rfl ?_ ?_
                                  · skip
                                    refine w_callR rfl rfl rfl cl_48 (cf_impl_LoopPorts a b hl0 hl1 hA) ?_
                                    refine d_take 5 rfl (by kernel_rfl) (by kernel_rfl) (by kernel_rfl) rfl (p_move rfl) ?_
                                    refine d_take 6 rfl (by kernel_rfl) (by kernel_rfl) (by kernel_rfl) rfl (p_extract rfl rfl) ?_
                                    refine d_take 7 rfl (by kernel_rfl) (by kernel_rfl) (by kernel_rfl) rfl (p_extract rfl rfl) ?_
                                    refine d_take 8 rfl (by kernel_rfl) (by kernel_rfl) (by kernel_rfl) rfl (p_extract rfl rfl) ?_
                                    refine draw_all [11] (by kernel_rfl) (by simp) ?_
                                    refine all_cons rfl rfl ?_ ?_
                                    · skip
                                      refine w_store (cells' := [_, _, _, _]) rfl rfl rfl (by repeat (first | exact Pick.here _ _ _ | apply Pick.next)) cn_41 (by rfl) (by rfl) (by rfl) (by first | (refine .inl ?_; simp; done) | (refine .inr ?_; simp [keys]; done)) ?_
                                      refine draw_all [12] (by kernel_rfl) (by simp) ?_
                                      refine all_cons rfl rfl ?_ ?_
                                      · skip
                                        refine w_store (cells' := [_, _, _, _]) rfl rfl rfl (by repeat (first | exact Pick.here _ _ _ | apply Pick.next)) cn_41 (by rfl) (by rfl) (by rfl) (by first | (refine .inl ?_; simp; done) | (refine .inr ?_; simp [keys]; done)) ?_
                                        refine d_take 13 rfl (by kernel_rfl) (by kernel_rfl) (by kernel_rfl) rfl (p_assign rfl) ?_
                                        refine draw_done (by kernel_rfl) ?_
                                        exact ⟨⟨b51, b54⟩, _, trivial, (by repeat (first | exact Knows.nil | refine Knows.cons (by rfl) ?_)), (by repeat (first | exact Back.refl _ _ | refine Back.cons (by rfl) ?_)), (by repeat (first | exact Picks.nil _ | exact Pick.here _ _ _ | apply Pick.next | apply Picks.cons))⟩
                                      exact all_nil
                                    exact all_nil
                                  exact all_nil
                                exact all_nil
                              exact all_nil
                            refine all_cons rfl rfl ?_ ?_
                            · skip
                              refine w_alloc rfl z_41 fun b55 => ?_
                              refine draw_all [3, 9] (by kernel_rfl) (by simp) ?_
                              refine all_cons rfl rfl ?_ ?_
                              · skip
                                refine w_callR rfl rfl rfl cl_27 (c_laws_toPort b hl1) ?_
                                refine draw_all [4, 9] (by kernel_rfl) (by simp) ?_
                                refine all_cons rfl rfl ?_ ?_
                                · skip
                                  refine w_callR rfl rfl rfl cl_48 (cf_impl_LoopPorts a b hl0 hl1 hA) ?_
                                  refine d_take 5 rfl (by kernel_rfl) (by kernel_rfl) (by kernel_rfl) rfl (p_move rfl) ?_
                                  refine d_take 6 rfl (by kernel_rfl) (by kernel_rfl) (by kernel_rfl) rfl (p_extract rfl rfl) ?_
                                  refine d_take 7 rfl (by kernel_rfl) (by kernel_rfl) (by kernel_rfl) rfl (p_extract rfl rfl) ?_
                                  refine d_take 8 rfl (by kernel_rfl) (by kernel_rfl) (by kernel_rfl) rfl (p_extract rfl rfl) ?_
                                  refine draw_all [9] (by kernel_rfl) (by simp) ?_
                                  refine all_cons rfl rfl ?_ ?_
                                  · skip
                                    refine w_alloc rfl z_41 fun b56 => ?_
                                    refine draw_all [11] (by kernel_rfl) (by simp) ?_
                                    refine all_cons rfl rfl ?_ ?_
                                    · skip
                                      refine w_store (cells' := [_, _, _, _]) rfl rfl rfl (by repeat (first | exact Pick.here _ _ _ | apply Pick.next)) cn_41 (by rfl) (by rfl) (by rfl) (by first | (refine .inl ?_; simp; done) | (refine .inr ?_; simp [keys]; done)) ?_
                                      refine draw_all [12] (by kernel_rfl) (by simp) ?_
                                      refine all_cons rfl rfl ?_ ?_
                                      · skip
                                        refine w_store (cells' := [_, _, _, _]) rfl rfl rfl (by repeat (first | exact Pick.here _ _ _ | apply Pick.next)) cn_41 (by rfl) (by rfl) (by rfl) (by first | (refine .inl ?_; simp; done) | (refine .inr ?_; simp [keys]; done)) ?_
                                        refine d_take 13 rfl (by kernel_rfl) (by kernel_rfl) (by kernel_rfl) rfl (p_assign rfl) ?_
                                        refine draw_done (by kernel_rfl) ?_
                                        exact ⟨⟨b56, b55⟩, _, trivial, (by repeat (first | exact Knows.nil | refine Knows.cons (by rfl) ?_)), (by repeat (first | exact Back.refl _ _ | refine Back.cons (by rfl) ?_)), (by repeat (first | exact Picks.nil _ | exact Pick.here _ _ _ | apply Pick.next | apply Picks.cons))⟩
                                      exact all_nil
                                    exact all_nil
                                  exact all_nil
                                refine all_cons rfl rfl ?_ ?_
                                · skip
                                  refine w_alloc rfl z_41 fun b57 => ?_
                                  refine draw_all [4] (by kernel_rfl) (by simp) ?_
                                  refine all_cons rfl rfl ?_ ?_
                                  · skip
                                    refine w_callR rfl rfl rfl cl_48 (cf_impl_LoopPorts a b hl0 hl1 hA) ?_
                                    refine d_take 5 rfl (by kernel_rfl) (by kernel_rfl) (by kernel_rfl) rfl (p_move rfl) ?_
                                    refine d_take 6 rfl (by kernel_rfl) (by kernel_rfl) (by kernel_rfl) rfl (p_extract rfl rfl) ?_
                                    refine d_take 7 rfl (by kernel_rfl) (by kernel_rfl) (by kernel_rfl) rfl (p_extract rfl rfl) ?_
                                    refine d_take 8 rfl (by kernel_rfl) (by kernel_rfl) (by kernel_rfl) rfl (p_extract rfl rfl) ?_
                                    refine draw_all [11] (by kernel_rfl) (by simp) ?_
                                    refine all_cons rfl rfl ?_ ?_
                                    · skip
                                      refine w_store (cells' := [_, _, _, _]) rfl rfl rfl (by repeat (first | exact Pick.here _ _ _ | apply Pick.next)) cn_41 (by rfl) (by rfl) (by rfl) (by first | (refine .inl ?_; simp; done) | (refine .inr ?_; simp [keys]; done)) ?_
                                      refine draw_all [12] (by kernel_rfl) (by simp) ?_
                                      refine all_cons rfl rfl ?_ ?_
                                      · skip
                                        refine w_store (cells' := [_, _, _, _]) rfl rfl rfl (by repeat (first | exact Pick.here _ _ _ | apply Pick.next)) cn_41 (by rfl) (by rfl) (by rfl) (by first | (refine .inl ?_; simp; done) | (refine .inr ?_; simp [keys]; done)) ?_
                                        refine d_take 13 rfl (by kernel_rfl) (by kernel_rfl) (by kernel_rfl) rfl (p_assign rfl) ?_
                                        refine draw_done (by kernel_rfl) ?_
                                        exact ⟨⟨b57, b55⟩, _, trivial, (by repeat (first | exact Knows.nil | refine Knows.cons (by rfl) ?_)), (by repeat (first | exact Back.refl _ _ | refine Back.cons (by rfl) ?_)), (by repeat (first | exact Picks.nil _ | exact Pick.here _ _ _ | apply Pick.next | apply Picks.cons))⟩
                                      exact all_nil
                                    exact all_nil
                                  exact all_nil
                                exact all_nil
                              refine all_cons rfl rfl ?_ ?_
                              · skip
                                refine w_alloc rfl z_41 fun b58 => ?_
                                refine draw_all [3] (by kernel_rfl) (by simp) ?_
                                refine all_cons rfl rfl ?_ ?_
                                · skip
                                  refine w_callR rfl rfl rfl cl_27 (c_laws_toPort b hl1) ?_
                                  refine draw_all [4] (by kernel_rfl) (by simp) ?_
                                  refine all_cons rfl rfl ?_ ?_
                                  · skip
                                    refine w_callR rfl rfl rfl cl_48 (cf_impl_LoopPorts a b hl0 hl1 hA) ?_
                                    refine d_take 5 rfl (by kernel_rfl) (by kernel_rfl) (by kernel_rfl) rfl (p_move rfl) ?_
                                    refine d_take 6 rfl (by kernel_rfl) (by kernel_rfl) (by kernel_rfl) rfl (p_extract rfl rfl) ?_
                                    refine d_take 7 rfl (by kernel_rfl) (by kernel_rfl) (by kernel_rfl) rfl (p_extract rfl rfl) ?_
                                    refine d_take 8 rfl (by kernel_rfl) (by kernel_rfl) (by kernel_rfl) rfl (p_extract rfl rfl) ?_
                                    refine draw_all [11] (by kernel_rfl) (by simp) ?_
                                    refine all_cons rfl rfl ?_ ?_
                                    · skip
                                      refine w_store (cells' := [_, _, _, _]) rfl rfl rfl (by repeat (first | exact Pick.here _ _ _ | apply Pick.next)) cn_41 (by rfl) (by rfl) (by rfl) (by first | (refine .inl ?_; simp; done) | (refine .inr ?_; simp [keys]; done)) ?_
                                      refine draw_all [12] (by kernel_rfl) (by simp) ?_
                                      refine all_cons rfl rfl ?_ ?_
                                      · skip
                                        refine w_store (cells' := [_, _, _, _]) rfl rfl rfl (by repeat (first | exact Pick.here _ _ _ | apply Pick.next)) cn_41 (by rfl) (by rfl) (by rfl) (by first | (refine .inl ?_; simp; done) | (refine .inr ?_; simp [keys]; done)) ?_
                                        refine d_take 13 rfl (by kernel_rfl) (by kernel_rfl) (by kernel_rfl) rfl (p_assign rfl) ?_
                                        refine draw_done (by kernel_rfl) ?_
                                        exact ⟨⟨b58, b55⟩, _, trivial, (by repeat (first | exact Knows.nil | refine Knows.cons (by rfl) ?_)), (by repeat (first | exact Back.refl _ _ | refine Back.cons (by rfl) ?_)), (by repeat (first | exact Picks.nil _ | exact Pick.here _ _ _ | apply Pick.next | apply Picks.cons))⟩
                                      exact all_nil
                                    exact all_nil
                                  exact all_nil
                                exact all_nil
                              exact all_nil
                            exact all_nil
                          refine all_cons rfl rfl ?_ ?_
                          · skip
                            refine w_alloc rfl z_41 fun b59 => ?_
                            refine draw_all [1, 10] (by kernel_rfl) (by simp) ?_
                            refine all_cons rfl rfl ?_ ?_
                            · skip
                              refine w_callR rfl rfl rfl cl_27 (c_laws_toPort a hl0) ?_
                              refine draw_all [3, 10] (by kernel_rfl) (by simp) ?_
                              refine all_cons rfl rfl ?_ ?_
                              · skip
                                refine w_callR rfl rfl rfl cl_27 (c_laws_toPort b hl1) ?_
                                refine draw_all [4, 10] (by kernel_rfl) (by simp) ?_
                                refine all_cons rfl rfl ?_ ?_
                                · skip
                                  refine w_callR rfl rfl rfl cl_48 (cf_impl_LoopPorts a b hl0 hl1 hA) ?_
                                  refine d_take 5 rfl (by kernel_rfl) (by kernel_rfl) (by kernel_rfl) rfl (p_move rfl) ?_
                                  refine d_take 6 rfl (by kernel_rfl) (by kernel_rfl) (by kernel_rfl) rfl (p_extract rfl rfl) ?_
                                  refine d_take 7 rfl (by kernel_rfl) (by kernel_rfl) (by kernel_rfl) rfl (p_extract rfl rfl) ?_
                                  refine d_take 8 rfl (by kernel_rfl) (by kernel_rfl) (by kernel_rfl) rfl (p_extract rfl rfl) ?_
                                  refine draw_all [10] (by kernel_rfl) (by simp) ?_
                                  refine all_cons rfl rfl ?_ ?_
                                  · skip
                                    refine w_alloc rfl z_41 fun b60 => ?_
                                    refine draw_all [11] (by kernel_rfl) (by simp) ?_
                                    refine all_cons rfl rfl ?_ ?_
                                    · skip
                                      refine w_store (cells' := [_, _, _, _]) rfl rfl rfl (by repeat (first | exact Pick.here _ _ _ | apply Pick.next)) cn_41 (by rfl) (by rfl) (by rfl) (by first | (refine .inl ?_; simp; done) | (refine .inr ?_; simp [keys]; done)) ?_
                                      refine draw_all [12] (by kernel_rfl) (by simp) ?_
                                      refine all_cons rfl rfl ?_ ?_
                                      · skip
                                        refine w_store (cells' := [_, _, _, _]) rfl rfl rfl (by repeat (first | exact Pick.here _ _ _ | apply Pick.next)) cn_41 (by rfl) (by rfl) (by rfl) (by first | (refine .inl ?_; simp; done) | (refine .inr ?_; simp [keys]; done)) ?_
                                        refine d_take 13 rfl (by kernel_rfl) (by kernel_rfl) (by kernel_rfl) rfl (p_assign rfl) ?_
                                        refine draw_done (by kernel_rfl) ?_
                                        exact ⟨⟨b59, b60⟩, _, trivial, (by repeat (first | exact Knows.nil | refine Knows.cons (by rfl) ?_)), (by repeat (first | exact Back.refl _ _ | refine Back.cons (by rfl) ?_)), (by repeat (first | exact Picks.nil _ | exact Pick.here _ _ _ | apply Pick.next | apply Picks.cons))⟩
                                      exact all_nil
                                    exact all_nil
                                  exact all_nil
                                refine all_cons rfl rfl ?_ ?_
                                · skip
                                  refine w_alloc rfl z_41 fun b61 => ?_
                                  refine draw_all [4] (by kernel_rfl) (by simp) ?_
                                  refine all_cons rfl rfl ?_ ?_
                                  · skip
                                    refine w_callR rfl rfl rfl cl_48 (cf_impl_LoopPorts a b hl0 hl1 hA) ?_
                                    refine d_take 5 rfl (by kernel_rfl) (by kernel_rfl) (by kernel_rfl) rfl (p_move rfl) ?_
                                    refine d_take 6 rfl (by kernel_rfl) (by kernel_rfl) (by kernel_rfl) rfl (p_extract rfl rfl) ?_
                                    refine d_take 7 rfl (by kernel_rfl) (by kernel_rfl) (by kernel_rfl) rfl (p_extract rfl rfl) ?_
                                    refine d_take 8 rfl (by kernel_rfl) (by kernel_rfl) (by kernel_rfl) rfl (p_extract rfl rfl) ?_
                                    refine draw_all [11] (by kernel_rfl) (by simp) ?_
                                    refine all_cons rfl rfl ?_ ?_
                                    · skip
                                      refine w_store (cells' := [_, _, _, _]) rfl rfl rfl (by repeat (first | exact Pick.here _ _ _ | apply Pick.next)) cn_41 (by rfl) (by rfl) (by rfl) (by first | (refine .inl ?_; simp; done) | (refine .inr ?_; simp [keys]; done)) ?_
                                      refine draw_all [12] (by kernel_rfl) (by simp) ?_
                                      refine all_cons rfl rfl ?_ ?_
                                      · skip
                                        refine w_store (cells' := [_, _, _, _]) rfl rfl rfl (by repeat (first | exact Pick.here _ _ _ | apply Pick.next)) cn_41 (by rfl) (by rfl) (by rfl) (by first | (refine .inl ?_; simp; done) | (refine .inr ?_; simp [keys]; done)) ?_
                                        refine d_take 13 rfl (by kernel_rfl) (by kernel_rfl) (by kernel_rfl) rfl (p_assign rfl) ?_
                                        refine draw_done (by kernel_rfl) ?_
                                        exact ⟨⟨b59, b61⟩, _, trivial, (by repeat (first | exact Knows.nil | refine Knows.cons (by rfl) ?_)), (by repeat (first | exact Back.refl _ _ | refine Back.cons (by rfl) ?_)), (by repeat (first | exact Picks.nil _ | exact Pick.here _ _ _ | apply Pick.next | apply Picks.cons))⟩
                                      exact all_nil
                                    exact all_nil
                                  exact all_nil
                                exact all_nil
                              refine all_cons rfl rfl ?_ ?_
                              · skip
                                refine w_alloc rfl z_41 fun b62 => ?_
                                refine draw_all [3] (by kernel_rfl) (by simp) ?_
                                refine all_cons rfl rfl ?_ ?_
                                · skip
                                  refine w_callR rfl rfl rfl cl_27 (c_laws_toPort b hl1) ?_
                                  refine draw_all [4] (by kernel_rfl) (by simp) ?_
                                  refine all_cons rfl rfl ?_ ?_
                                  · skip
                                    refine w_callR rfl rfl rfl cl_48 (cf_impl_LoopPorts a b hl0 hl1 hA) ?_
                                    refine d_take 5 rfl (by kernel_rfl) (by kernel_rfl) (by kernel_rfl) rfl (p_move rfl) ?_
                                    refine d_take 6 rfl (by kernel_rfl) (by kernel_rfl) (by kernel_rfl) rfl (p_extract rfl rfl) ?_
                                    refine d_take 7 rfl (by kernel_rfl) (by kernel_rfl) (by kernel_rfl) rfl (p_extract rfl rfl) ?_
                                    refine d_take 8 rfl (by kernel_rfl) (by kernel_rfl) (by kernel_rfl) rfl (p_extract rfl rfl) ?_
                                    refine draw_all [11] (by kernel_rfl) (by simp) ?_
                                    refine all_cons rfl rfl ?_ ?_
                                    · skip
                                      refine w_store (cells' := [_, _, _, _]) rfl rfl rfl (by repeat (first | exact Pick.here _ _ _ | apply Pick.next)) cn_41 (by rfl) (by rfl) (by rfl) (by first | (refine .inl ?_; simp; done) | (refine .inr ?_; simp [keys]; done)) ?_
                                      refine draw_all [12] (by kernel_rfl) (by simp) ?_
                                      refine all_cons rfl rfl ?_ ?_
                                      · skip
                                        refine w_store (cells' := [_, _, _, _]) rfl rfl rfl (by repeat (first | exact Pick.here _ _ _ | apply Pick.next)) cn_41 (by rfl) (by rfl) (by rfl) (by first | (refine .inl ?_; simp; done) | (refine .inr ?_; simp [keys]; done)) ?_
                                        refine d_take 13 rfl (by kernel_rfl) (by kernel_rfl) (by kernel_rfl) rfl (p_assign rfl) ?_
                                        refine draw_done (by kernel_rfl) ?_
                                        exact ⟨⟨b59, b62⟩, _, trivial, (by repeat (first | exact Knows.nil | refine Knows.cons (by rfl) ?_)), (by repeat (first | exact Back.refl _ _ | refine Back.cons (by rfl) ?_)), (by repeat (first | exact Picks.nil _ | exact Pick.here _ _ _ | apply Pick.next | apply Picks.cons))⟩
                                      exact all_nil
                                    exact all_nil
                                  exact all_nil
                                exact all_nil
                              exact all_nil
                            refine all_cons rfl rfl ?_ ?_
                            · skip
                              refine w_alloc rfl z_41 fun b63 => ?_
                              refine draw_all [1] (by kernel_rfl) (by simp) ?_
                              refine all_cons rfl rfl ?_ ?_
                              · skip
                                refine w_callR rfl rfl rfl cl_27 (c_laws_toPort a hl0) ?_
                                refine draw_all [3] (by kernel_rfl) (by simp) ?_
                                refine all_cons rfl rfl ?_ ?_
                                · skip
                                  refine w_callR rfl rfl rfl cl_27 (c_laws_toPort b hl1) ?_
                                  refine draw_all [4] (by kernel_rfl) (by simp) ?_
                                  refine all_cons rfl rfl ?_ ?_
                                  · skip
                                    refine w_callR rfl rfl rfl cl_48 (cf_impl_LoopPorts a b hl0 hl1 hA) ?_
                                    refine d_take 5 rfl (by kernel_rfl) (by kernel_rfl) (by kernel_rfl) rfl (p_move rfl) ?_
                                    refine d_take 6 rfl (by kernel_rfl) (by kernel_rfl) (by kernel_rfl) rfl (p_extract rfl rfl) ?_
                                    refine d_take 7 rfl (by kernel_rfl) (by kernel_rfl) (by kernel_rfl) rfl (p_extract rfl rfl) ?_
                                    refine d_take 8 rfl (by kernel_rfl) (by kernel_rfl) (by kernel_rfl) rfl (p_extract rfl rfl) ?_
                                    refine draw_all [11] (by kernel_rfl) (by simp) ?_
                                    refine all_cons rfl rfl ?_ ?_
                                    · skip
                                      refine w_store (cells' := [_, _, _, _]) rfl rfl rfl (by repeat (first | exact Pick.here _ _ _ | apply Pick.next)) cn_41 (by rfl) (by rfl) (by rfl) (by first | (refine .inl ?_; simp; done) | (refine .inr ?_; simp [keys]; done)) ?_
                                      refine draw_all [12] (by kernel_rfl) (by simp) ?_
                                      refine all_cons rfl rfl ?_ ?_
                                      · skip
                                        refine w_store (cells' := [_, _, _, _]) rfl rfl rfl (by repeat (first | exact Pick.here _ _ _ | apply Pick.next)) cn_41 (by rfl) (by rfl) (by rfl) (by first | (refine .inl ?_; simp; done) | (refine .inr ?_; simp [keys]; done)) ?_
                                        refine d_take 13 rfl (by kernel_rfl) (by kernel_rfl) (by kernel_rfl) rfl (p_assign rfl) ?_
                                        refine draw_done (by kernel_rfl) ?_
                                        exact ⟨⟨b59, b63⟩, _, trivial, (by repeat (first | exact Knows.nil | refine Knows.cons (by rfl) ?_)), (by repeat (first | exact Back.refl _ _ | refine Back.cons (by rfl) ?_)), (by repeat (first | exact Picks.nil _ | exact Pick.here _ _ _ | apply Pick.next | apply Picks.cons))⟩
                                      exact all_nil
                                    exact all_nil
                                  exact all_nil
                                exact all_nil
                              exact all_nil
                            exact all_nil
                          refine all_cons rfl rfl ?_ ?_
                          · skip
                            refine w_alloc rfl z_41 fun b64 => ?_
                            refine draw_all [1, 9] (by kernel_rfl) (by simp) ?_
                            refine all_cons rfl rfl ?_ ?_
                            · skip
                              refine w_callR rfl rfl rfl cl_27 (c_laws_toPort a hl0) ?_
                              refine draw_all [3, 9] (by kernel_rfl) (by simp) ?_
                              refine all_cons rfl rfl ?_ ?_
                              · skip
                                refine w_callR rfl rfl rfl cl_27 (c_laws_toPort b hl1) ?_
                                refine draw_all [4, 9] (by kernel_rfl) (by simp) ?_
                                refine all_cons rfl rfl ?_ ?_
                                · skip
                                  refine w_callR rfl rfl rfl cl_48 (cf_impl_LoopPorts a b hl0 hl1 hA) ?_
                                  refine d_take 5 rfl (by kernel_rfl) (by kernel_rfl) (by kernel_rfl) rfl (p_move rfl) ?_
                                  refine d_take 6 rfl (by kernel_rfl) (by kernel_rfl) (by kernel_rfl) rfl (p_extract rfl rfl) ?_
                                  refine d_take 7 rfl (by kernel_rfl) (by kernel_rfl) (by kernel_rfl) rfl (p_extract rfl rfl) ?_
                                  refine d_take 8 rfl (by kernel_rfl) (by kernel_rfl) (by kernel_rfl) rfl (p_extract rfl rfl) ?_
                                  refine draw_all [9] (by kernel_rfl) (by simp) ?_
                                  refine all_cons rfl rfl ?_ ?_
                                  · skip
                                    refine w_alloc rfl z_41 fun b65 => ?_
                                    refine draw_all [11] (by kernel_rfl) (by simp) ?_
                                    refine all_cons rfl rfl ?_ ?_
                                    · skip
                                      refine w_store (cells' := [_, _, _, _]) rfl rfl rfl (by repeat (first | exact Pick.here _ _ _ | apply Pick.next)) cn_41 (by rfl) (by rfl) (by rfl) (by first | (refine .inl ?_; simp; done) | (refine .inr ?_; simp [keys]; done)) ?_
                                      refine draw_all [12] (by kernel_rfl) (by simp) ?_
                                      refine all_cons rfl rfl ?_ ?_
                                      · skip
                                        refine w_store (cells' := [_, _, _, _]) rfl rfl rfl (by repeat (first | exact Pick.here _ _ _ | apply Pick.next)) cn_41 (by rfl) (by rfl) (by rfl) (by first | (refine .inl ?_; simp; done) | (refine .inr ?_; simp [keys]; done)) ?_
                                        refine d_take 13 rfl (by kernel_rfl) (by kernel_rfl) (by kernel_rfl) rfl (p_assign rfl) ?_
                                        refine draw_done (by kernel_rfl) ?_
                                        exact ⟨⟨b65, b64⟩, _, trivial, (by repeat (first | exact Knows.nil | refine Knows.cons (by rfl) ?_)), (by repeat (first | exact Back.refl _ _ | refine Back.cons (by rfl) ?_)), (by repeat (first | exact Picks.nil _ | exact Pick.here _ _ _ | apply Pick.next | apply Picks.cons))⟩
                                      exact all_nil
                                    exact all_nil
                                  exact all_nil
                                refine all_cons rfl rfl ?_ ?_
                                · skip
                                  refine w_alloc rfl z_41 fun b66 => ?_
                                  refine draw_all [4] (by kernel_rfl) (by simp) ?_
                                  refine all_cons rfl rfl ?_ ?_
                                  · skip
                                    refine w_callR rfl rfl rfl cl_48 (cf_impl_LoopPorts a b hl0 hl1 hA) ?_
                                    refine d_take 5 rfl (by kernel_rfl) (by kernel_rfl) (by kernel_rfl) rfl (p_move rfl) ?_
                                    refine d_take 6 rfl (by kernel_rfl) (by kernel_rfl) (by kernel_rfl) rfl (p_extract rfl rfl) ?_
                                    refine d_take 7 rfl (by kernel_rfl) (by kernel_rfl) (by kernel_rfl) rfl (p_extract rfl rfl) ?_
                                    refine d_take 8 rfl (by kernel_rfl) (by kernel_rfl) (by kernel_rfl) rfl (p_extract rfl rfl) ?_
                                    refine draw_all [11] (by kernel_rfl) (by simp) ?_
                                    refine all_cons rfl rfl ?_ ?_
                                    · skip
                                      refine w_store (cells' := [_, _, _, _]) rfl rfl rfl (by repeat (first | exact Pick.here _ _ _ | apply Pick.next)) cn_41 (by rfl) (by rfl) (by rfl) (by first | (refine .inl ?_; simp; done) | (refine .inr ?_; simp [keys]; done)) ?_
                                      refine draw_all [12] (by kernel_rfl) (by simp) ?_
                                      refine all_cons rfl rfl ?_ ?_
                                      · skip
                                        refine w_store (cells' := [_, _, _, _]) rfl rfl rfl (by repeat (first | exact Pick.here _ _ _ | apply Pick.next)) cn_41 (by rfl) (by rfl) (by rfl) (by first | (refine .inl ?_; simp; done) | (refine .inr ?_; simp [keys]; done)) ?_
                                        refine d_take 13 rfl (by kernel_rfl) (by kernel_rfl) (by kernel_rfl) rfl (p_assign rfl) ?_
                                        refine draw_done (by kernel_rfl) ?_
                                        exact ⟨⟨b66, b64⟩, _, trivial, (by repeat (first | exact Knows.nil | refine Knows.cons (by rfl) ?_)), (by repeat (first | exact Back.refl _ _ | refine Back.cons (by rfl) ?_)), (by repeat (first | exact Picks.nil _ | exact Pick.here _ _ _ | apply Pick.next | apply Picks.cons))⟩
                                      exact all_nil
                                    exact all_nil
                                  exact all_nil
                                exact all_nil
                              refine all_cons rfl rfl ?_ ?_
                              · skip
                                refine w_alloc rfl z_41 fun b67 => ?_
                                refine draw_all [3] (by kernel_rfl) (by simp) ?_
                                refine all_cons rfl rfl ?_ ?_
                                · skip
                                  refine w_callR rfl rfl rfl cl_27 (c_laws_toPort b hl1) ?_
                                  refine draw_all [4] (by kernel_rfl) (by simp) ?_
                                  refine all_cons rfl rfl ?_ ?_
                                  · skip
                                    refine w_callR rfl rfl rfl cl_48 (cf_impl_LoopPorts a b hl0 hl1 hA) ?_
                                    refine d_take 5 rfl (by kernel_rfl) (by kernel_rfl) (by kernel_rfl) rfl (p_move rfl) ?_
                                    refine d_take 6 rfl (by kernel_rfl) (by kernel_rfl) (by kernel_rfl) rfl (p_extract rfl rfl) ?_
                                    refine d_take 7 rfl (by kernel_rfl) (by kernel_rfl) (by kernel_rfl) rfl (p_extract rfl rfl) ?_
                                    refine d_take 8 rfl (by kernel_rfl) (by kernel_rfl) (by kernel_rfl) rfl (p_extract rfl rfl) ?_
                                    refine draw_all [11] (by kernel_rfl) (by simp) ?_
                                    refine all_cons rfl rfl ?_ ?_
                                    · skip
                                      refine w_store (cells' := [_, _, _, _]) rfl rfl rfl (by repeat (first | exact Pick.here _ _ _ | apply Pick.next)) cn_41 (by rfl) (by rfl) (by rfl) (by first | (refine .inl ?_; simp; done) | (refine .inr ?_; simp [keys]; done)) ?_
                                      refine draw_all [12] (by kernel_rfl) (by simp) ?_
                                      refine all_cons rfl rfl ?_ ?_
                                      · skip
                                        refine w_store (cells' := [_, _, _, _]) rfl rfl rfl (by repeat (first | exact Pick.here _ _ _ | apply Pick.next)) cn_41 (by rfl) (by rfl) (by rfl) (by first | (refine .inl ?_; simp; done) | (refine .inr ?_; simp [keys]; done)) ?_
                                        refine d_take 13 rfl (by kernel_rfl) (by kernel_rfl) (by kernel_rfl) rfl (p_assign rfl) ?_
                                        refine draw_done (by kernel_rfl) ?_
                                        exact ⟨⟨b67, b64⟩, _, trivial, (by repeat (first | exact Knows.nil | refine Knows.cons (by rfl) ?_)), (by repeat (first | exact Back.refl _ _ | refine Back.cons (by rfl) ?_)), (by repeat (first | exact Picks.nil _ | exact Pick.here _ _ _ | apply Pick.next | apply Picks.cons))⟩
                                      exact all_nil
                                    exact all_nil
                                  exact all_nil
                                exact all_nil
                              exact all_nil
                            refine all_cons rfl rfl ?_ ?_
                            · skip
                              refine w_alloc rfl z_41 fun b68 => ?_
                              refine draw_all [1] (by kernel_rfl) (by simp) ?_
                              refine all_cons rfl rfl ?_ ?_
                              · skip
                                refine w_callR rfl rfl rfl cl_27 (c_laws_toPort a hl0) ?_
                                refine draw_all [3] (by kernel_rfl) (by simp) ?_
                                refine all_cons rfl rfl ?_ ?_
                                · skip
                                  refine w_callR rfl rfl rfl cl_27 (c_laws_toPort b hl1) ?_
                                  refine draw_all [4] (by kernel_rfl) (by simp) ?_
                                  refine all_cons rfl rfl ?_ ?_
                                  · skip
                                    refine w_callR rfl rfl rfl cl_48 (cf_impl_LoopPorts a b hl0 hl1 hA) ?_
                                    refine d_take 5 rfl (by kernel_rfl) (by kernel_rfl) (by kernel_rfl) rfl (p_move rfl) ?_
                                    refine d_take 6 rfl (by kernel_rfl) (by kernel_rfl) (by kernel_rfl) rfl (p_extract rfl rfl) ?_
                                    refine d_take 7 rfl (by kernel_rfl) (by kernel_rfl) (by kernel_rfl) rfl (p_extract rfl rfl) ?_
                                    refine d_take 8 rfl (by kernel_rfl) (by kernel_rfl) (by kernel_rfl) rfl (p_extract rfl rfl) ?_
                                    refine draw_all [11] (by kernel_rfl) (by simp) ?_
                                    refine all_cons rfl rfl ?_ ?_
                                    · skip
                                      refine w_store (cells' := [_, _, _, _]) rfl rfl rfl (by repeat (first | exact Pick.here _ _ _ | apply Pick.next)) cn_41 (by rfl) (by rfl) (by rfl) (by first | (refine .inl ?_; simp; done) | (refine .inr ?_; simp [keys]; done)) ?_
                                      refine draw_all [12] (by kernel_rfl) (by simp) ?_
                                      refine all_cons rfl rfl ?_ ?_
                                      · skip
                                        refine w_store (cells' := [_, _, _, _]) rfl rfl rfl (by repeat (first | exact Pick.here _ _ _ | apply Pick.next)) cn_41 (by rfl) (by rfl) (by rfl) (by first | (refine .inl ?_; simp; done) | (refine .inr ?_; simp [keys]; done)) ?_
                                        refine d_take 13 rfl (by kernel_rfl) (by kernel_rfl) (by kernel_rfl) rfl (p_assign rfl) ?_
                                        refine draw_done (by kernel_rfl) ?_
                                        exact ⟨⟨b68, b64⟩, _, trivial, (by repeat (first | exact Knows.nil | refine Knows.cons (by rfl) ?_)), (by repeat (first | exact Back.refl _ _ | refine Back.cons (by rfl) ?_)), (by repeat (first | exact Picks.nil _ | exact Pick.here _ _ _ | apply Pick.next | apply Picks.cons))⟩
                                      exact all_nil
                                    exact all_nil
                                  exact all_nil
                                exact all_nil
                              exact all_nil
                            exact all_nil
                          exact all_nil
                        · rintro ⟨q1, q2⟩ -
                          refine a_seq ?_
                          refine a_seq ?_
                          refine a_region ?_
                          refine aops_cons rfl (w_pure rfl (p_load_box_all ag_41 rfl (by repeat (first | exact Pick.here _ _ _ | apply Pick.next)) (by rfl) noX) ?_)
                          refine aops_cons rfl (w_pure rfl (p_load_box_all ag_41 rfl (by repeat (first | exact Pick.here _ _ _ | apply Pick.next)) (by rfl) noX) ?_)
                          refine aops_cons rfl (w_callLR rfl rfl rfl cl_29 (.cons (.refl _) (.cons (.refl _) .nil)) (c_laws_eqPort (loopP a b) (small_loop hA.1 hA.2)) (closed_bool _) ?_)
                          refine aops_cons rfl (w_pure rfl (p_not rfl) ?_)
                          refine aops_cons rfl (w_pure rfl (p_move rfl) ?_)
                          refine aops_guard_t rfl rfl rfl (w_pure rfl (p_load_box_all ag_41 rfl (by repeat (first | exact Pick.here _ _ _ | apply Pick.next)) (by rfl) noX) ?_)
                          refine aops_guard_t rfl rfl rfl (w_pure rfl (p_load_box_all ag_41 rfl (by repeat (first | exact Pick.here _ _ _ | apply Pick.next)) (by rfl) noX) ?_)
                          refine aops_guard_t rfl rfl rfl (w_callLR rfl rfl rfl cl_29 (.cons (.refl _) (.cons (.refl _) .nil)) (c_laws_eqPort (loopP b a) (small_loop hA.2 hA.1)) (closed_bool _) ?_)
                          refine aops_guard_t rfl rfl rfl (w_pure rfl (p_not rfl) ?_)
                          refine aops_cons rfl (w_pure rfl (p_pick_f rfl rfl) ?_)
                          refine aops_cons rfl (w_pure rfl (p_move rfl) ?_)
                          refine aops_guard_t rfl rfl rfl (w_pure rfl (p_move rfl) ?_)
                          refine aops_guard_t rfl rfl rfl (w_pure rfl (p_move rfl) ?_)
                          refine aops_guard_t rfl rfl rfl (w_pure rfl (p_neq_bsame um_4 rfl rfl) ?_)
                          refine aops_cons rfl (w_pure rfl (p_pick_f rfl rfl) ?_)
                          refine aops_nil ?_
                          refine a_cond_f rfl ?_
                          refine a_skip ?_
                          refine a_seq ?_
                          refine a_region ?_
                          refine aops_cons rfl (w_pure rfl (p_assign rfl) ?_)
                          refine aops_nil ?_
                          refine a_seq ?_
                          refine a_region ?_
                          refine aops_cons rfl (w_pure rfl (p_load_box_all ag_41 rfl (by repeat (first | exact Pick.here _ _ _ | apply Pick.next)) (by rfl) noX) ?_)
                          refine aops_cons rfl (w_pure rfl (p_move rfl) ?_)
                          refine aops_cons rfl (w_callLR rfl rfl rfl cl_37 (.cons (.agg (.cons (.own (by repeat (first | exact List.Mem.head _ | apply List.Mem.tail)) (by first | (simp; done) | (simp [mkL]; done))) (.cons (.own (by repeat (first | exact List.Mem.head _ | apply List.Mem.tail)) (by first | (simp; done) | (simp [mkL]; done))) (.cons (.refl _) (.cons (.refl _) .nil))))) (.cons (.refl _) .nil)) (c_laws_heldPort (loopP a b) (small_loop hA.1 hA.2) _ (by first | omega | (simp; done) | (simp; omega)) (by first | omega | (simp; done) | (simp; omega))) (closed_int _ _) ?_)
                          refine aops_cons rfl (w_pure rfl (p_assign rfl) ?_)
                          refine aops_nil ?_
                          refine a_seq ?_
                          refine a_seq ?_
                          refine a_region ?_
                          refine aops_cons rfl (w_pure rfl (p_move rfl) ?_)
                          refine aops_cons rfl (w_pure rfl (p_lss rfl rfl) ?_)
                          refine aops_nil ?_
                          first | refine a_cond_d rfl (fun h11 => ?_) (fun h12 => ?_) | refine a_cond_n rfl (fun h11 => ?_) (fun h12 => ?_) | refine a_cond_nb rfl (fun h11 => ?_) (fun h12 => ?_) | refine a_cond rfl (fun h11 => ?_) (fun h12 => ?_)
                          · (try simp only [Bool.not_eq_true', Bool.not_eq_false', Bool.not_eq_true, Bool.not_eq_false, decide_eq_true_eq, decide_eq_false_iff_not, List.length_map, List.length_range] at h11)
                            refine a_seq ?_
                            refine a_region ?_
                            refine aops_cons rfl (w_pure rfl (p_assign rfl) ?_)
                            refine aops_nil ?_
                            refine a_ret ?_
                            refine ret_ok (hands1 rfl (.tmp rfl)) (.nil _) ?_
                            first | exact ⟨rfl, rfl⟩ | (exfalso; omega)
                          · (try simp only [Bool.not_eq_true', Bool.not_eq_false', Bool.not_eq_true, Bool.not_eq_false, decide_eq_true_eq, decide_eq_false_iff_not, List.length_map, List.length_range] at h12)
                            refine a_skip ?_
                            refine a_seq ?_
                            refine a_region ?_
                            refine aops_cons rfl (w_pure rfl (p_load_box_all ag_41 rfl (by repeat (first | exact Pick.here _ _ _ | apply Pick.next)) (by rfl) noX) ?_)
                            refine aops_cons rfl (w_pure rfl (p_move rfl) ?_)
                            refine aops_cons rfl (w_callLR rfl rfl rfl cl_37 (.cons (.agg (.cons (.own (by repeat (first | exact List.Mem.head _ | apply List.Mem.tail)) (by first | (simp; done) | (simp [mkL]; done))) (.cons (.own (by repeat (first | exact List.Mem.head _ | apply List.Mem.tail)) (by first | (simp; done) | (simp [mkL]; done))) (.cons (.refl _) (.cons (.refl _) .nil))))) (.cons (.refl _) .nil)) (c_laws_heldPort (loopP b a) (small_loop hA.2 hA.1) _ (by first | omega | (simp; done) | (simp; omega)) (by first | omega | (simp; done) | (simp; omega))) (closed_int _ _) ?_)
                            refine aops_cons rfl (w_pure rfl (p_assign rfl) ?_)
                            refine aops_nil ?_
                            refine a_seq ?_
                            refine a_seq ?_
                            refine a_region ?_
                            refine aops_cons rfl (w_pure rfl (p_move rfl) ?_)
                            refine aops_cons rfl (w_pure rfl (p_lss rfl rfl) ?_)
                            refine aops_nil ?_
                            first | refine a_cond_d rfl (fun h13 => ?_) (fun h14 => ?_) | refine a_cond_n rfl (fun h13 => ?_) (fun h14 => ?_) | refine a_cond_nb rfl (fun h13 => ?_) (fun h14 => ?_) | refine a_cond rfl (fun h13 => ?_) (fun h14 => ?_)
                            · (try simp only [Bool.not_eq_true', Bool.not_eq_false', Bool.not_eq_true, Bool.not_eq_false, decide_eq_true_eq, decide_eq_false_iff_not, List.length_map, List.length_range] at h13)
                              refine a_seq ?_
                              refine a_region ?_
                              refine aops_cons rfl (w_pure rfl (p_assign rfl) ?_)
                              refine aops_nil ?_
                              refine a_ret ?_
                              refine ret_ok (hands1 rfl (.tmp rfl)) (.nil _) ?_
                              first | exact ⟨rfl, rfl⟩ | (exfalso; omega)
                            · (try simp only [Bool.not_eq_true', Bool.not_eq_false', Bool.not_eq_true, Bool.not_eq_false, decide_eq_true_eq, decide_eq_false_iff_not, List.length_map, List.length_range] at h14)
                              refine a_skip ?_
                              refine a_seq ?_
                              refine a_seq ?_
                              refine a_region ?_
                              refine aops_cons rfl (w_pure rfl (p_move rfl) ?_)
                              refine aops_cons rfl (w_pure rfl (p_move rfl) ?_)
                              refine aops_cons rfl (w_pure rfl (p_neq_same rfl rfl) ?_)
                              refine aops_nil ?_
                              refine a_cond_f rfl ?_
                              refine a_skip ?_
                              refine a_seq ?_
                              refine a_region ?_
                              refine aops_cons rfl (w_pure rfl (p_assign rfl) ?_)
                              refine aops_nil ?_
                              refine a_ret ?_
                              refine ret_ok (hands1 rfl (.tmp rfl)) (.nil _) ?_
                              first | exact ⟨rfl, rfl⟩ | (exfalso; omega)
                exact all_nil
              exact all_nil
            exact all_nil
          exact all_nil
  · skip
    refine a_seq ?_
    refine a_region ?_
    refine aops_cons rfl (w_box_v rfl rfl rfl ?_)
    refine aops_cons rfl (w_box_v rfl rfl rfl ?_)
    refine aops_cons rfl (w_pure rfl (p_assign rfl) ?_)
    refine aops_nil ?_
    refine a_seq ?_
    refine a_region ?_
    refine aops_cons rfl (w_pure rfl (p_assign rfl) ?_)
    refine aops_nil ?_
    refine a_seq ?_
    refine a_region ?_
    refine aops_cons rfl (w_pure rfl (p_load_v_all ag_38 rfl (by rfl) noX) ?_)
    refine aops_cons rfl (w_pure rfl (p_move rfl) ?_)
    refine aops_cons rfl (w_callR rfl rfl rfl cl_25 (c_laws_szPort _ (by assumption) _ (by omega) (by omega)) ?_)
    refine aops_cons rfl (w_pure rfl (p_assign rfl) ?_)
    refine aops_nil ?_
    refine a_seq ?_
    refine a_seq ?_
    refine a_region ?_
    refine aops_cons rfl (w_pure rfl (p_move rfl) ?_)
    refine aops_cons rfl (w_pure rfl (p_lss rfl rfl) ?_)
    refine aops_nil ?_
    first | refine a_cond_d rfl (fun h1 => ?_) (fun h2 => ?_) | refine a_cond_n rfl (fun h1 => ?_) (fun h2 => ?_) | refine a_cond_nb rfl (fun h1 => ?_) (fun h2 => ?_) | refine a_cond rfl (fun h1 => ?_) (fun h2 => ?_)
    · (try simp only [Bool.not_eq_true', Bool.not_eq_false', Bool.not_eq_true, Bool.not_eq_false, decide_eq_true_eq, decide_eq_false_iff_not, List.length_map, List.length_range] at h1)
      refine a_seq ?_
      refine a_region ?_
      refine aops_cons rfl (w_pure rfl (p_assign rfl) ?_)
      refine aops_nil ?_
      refine a_ret ?_
      refine ret_ok (hands1 rfl (.tmp rfl)) (.nil _) ?_
      first | exact ⟨rfl, rfl⟩ | (exfalso; omega)
    · (try simp only [Bool.not_eq_true', Bool.not_eq_false', Bool.not_eq_true, Bool.not_eq_false, decide_eq_true_eq, decide_eq_false_iff_not, List.length_map, List.length_range] at h2)
      refine a_skip ?_
      refine a_seq ?_
      refine a_region ?_
      refine aops_cons rfl (w_pure rfl (p_load_v_all ag_38 rfl (by rfl) noX) ?_)
      refine aops_cons rfl (w_pure rfl (p_move rfl) ?_)
      refine aops_cons rfl (w_callR rfl rfl rfl cl_25 (c_laws_szPort _ (by assumption) _ (by omega) (by omega)) ?_)
      refine aops_cons rfl (w_pure rfl (p_assign rfl) ?_)
      refine aops_nil ?_
      refine a_seq ?_
      refine a_seq ?_
      refine a_region ?_
      refine aops_cons rfl (w_pure rfl (p_move rfl) ?_)
      refine aops_cons rfl (w_pure rfl (p_lss rfl rfl) ?_)
      refine aops_nil ?_
      first | refine a_cond_d rfl (fun h3 => ?_) (fun h4 => ?_) | refine a_cond_n rfl (fun h3 => ?_) (fun h4 => ?_) | refine a_cond_nb rfl (fun h3 => ?_) (fun h4 => ?_) | refine a_cond rfl (fun h3 => ?_) (fun h4 => ?_)
      · (try simp only [Bool.not_eq_true', Bool.not_eq_false', Bool.not_eq_true, Bool.not_eq_false, decide_eq_true_eq, decide_eq_false_iff_not, List.length_map, List.length_range] at h3)
        refine a_seq ?_
        refine a_region ?_
        refine aops_cons rfl (w_pure rfl (p_assign rfl) ?_)
        refine aops_nil ?_
        refine a_ret ?_
        refine ret_ok (hands1 rfl (.tmp rfl)) (.nil _) ?_
        first | exact ⟨rfl, rfl⟩ | (exfalso; omega)
      · (try simp only [Bool.not_eq_true', Bool.not_eq_false', Bool.not_eq_true, Bool.not_eq_false, decide_eq_true_eq, decide_eq_false_iff_not, List.length_map, List.length_range] at h4)
        refine a_skip ?_
        have hl0 : SmallPort a := szPort_le (left := 1048576) (by omega) (by omega) ‹_›; have hz0_ := hl0; simp only [SmallPort] at hz0_; obtain ⟨hz0_0, hz0_1⟩ := hz0_; have hl1 : SmallPort b := szPort_le (left := (szPort a 1048576)) (by omega) (by omega) ‹_›; have hz1_ := hl1; simp only [SmallPort] at hz1_; obtain ⟨hz1_0, hz1_1⟩ := hz1_
        refine a_seq_join (ι := Nat × Nat) (fun ⟨q1, q2⟩ => True) (fun ⟨q1, q2⟩ => [(6, .ptr q1 0), (7, .ptr q2 0), (8, .bool false)]) (fun ⟨q1, q2⟩ => [(q1, .box [.nil, .nil, .int .i64 0, .bool false]), (q2, .box [.nil, .nil, .int .i64 0, .bool false])]) (old := []) (by repeat (first | exact Picks.nil _ | exact Pick.here _ _ _ | apply Pick.next | apply Picks.cons)) ?_ ?_
        · skip
          refine a_draw [] (by kernel_rfl) ?_
          show ADraw _ _ _ _ _ _ 14 _ _ _ _
          refine d_load 0 rfl (by kernel_rfl) (by kernel_rfl) (by kernel_rfl) rfl (p_load_v_all ag_38 rfl (by rfl) noX) ?_
          refine d_load 2 rfl (by kernel_rfl) (by kernel_rfl) (by kernel_rfl) rfl (p_load_v_all ag_38 rfl (by rfl) noX) ?_
          refine draw_all [1, 9, 10] (by kernel_rfl) (by simp) ?_
          refine all_cons rfl rfl ?_ ?_
          · skip
            refine w_callR rfl rfl rfl cl_27 (c_laws_toPort a hl0) ?_
            refine draw_all [3, 9, 10] (by kernel_rfl) (by simp) ?_
            refine all_cons rfl rfl ?_ ?_
            · skip
              refine w_callR rfl rfl rfl cl_27 (c_laws_toPort b hl1) ?_
              refine draw_all [4, 9, 10] (by kernel_rfl) (by simp) ?_
              refine all_cons rfl rfl ?_ ?_
              · skip
                refine w_callR rfl rfl rfl cl_47 (cn_spec_LoopPorts a b hl0 hl1 hA) ?_
                refine d_take 5 rfl (by kernel_rfl) (by kernel_rfl) (by kernel_rfl) rfl (p_move rfl) ?_
                refine d_take 6 rfl (by kernel_rfl) (by kernel_rfl) (by kernel_rfl) rfl (p_extract rfl rfl) ?_
                refine d_take 7 rfl (by kernel_rfl) (by kernel_rfl) (by kernel_rfl) rfl (p_extract rfl rfl) ?_
                refine d_take 8 rfl (by kernel_rfl) (by kernel_rfl) (by kernel_rfl) rfl (p_extract rfl rfl) ?_
                refine draw_all [9, 10] (by kernel_rfl) (by simp) ?_
                refine all_cons rfl rfl ?_ ?_
                · skip
                  refine w_alloc rfl z_41 fun b1 => ?_
                  refine draw_all [10] (by kernel_rfl) (by simp) ?_
                  refine all_cons rfl rfl ?_ ?_
                  · skip
                    refine w_alloc rfl z_41 fun b2 => ?_
                    refine draw_all [11] (by kernel_rfl) (by simp) ?_
                    refine all_cons rfl rfl ?_ ?_
                    · skip
                      refine w_store (cells' := [_, _, _, _]) rfl rfl rfl (by repeat (first | exact Pick.here _ _ _ | apply Pick.next)) cn_41 (by rfl) (by rfl) (by rfl) (by first | (refine .inl ?_; simp; done) | (refine .inr ?_; simp [keys]; done)) ?_
                      refine draw_all [12] (by kernel_rfl) (by simp) ?_
                      refine all_cons rfl rfl ?_ ?_
                      · skip
                        refine w_store (cells' := [_, _, _, _]) rfl rfl rfl (by repeat (first | exact Pick.here _ _ _ | apply Pick.next)) cn_41 (by rfl) (by rfl) (by rfl) (by first | (refine .inl ?_; simp; done) | (refine .inr ?_; simp [keys]; done)) ?_
                        refine d_take 13 rfl (by kernel_rfl) (by kernel_rfl) (by kernel_rfl) rfl (p_assign rfl) ?_
                        refine draw_done (by kernel_rfl) ?_
                        exact ⟨⟨b1, b2⟩, _, trivial, (by repeat (first | exact Knows.nil | refine Knows.cons (by rfl) ?_)), (by repeat (first | exact Back.refl _ _ | refine Back.cons (by rfl) ?_)), (by repeat (first | exact Picks.nil _ | exact Pick.here _ _ _ | apply Pick.next | apply Picks.cons))⟩
                      exact all_nil
                    exact all_nil
                  exact all_nil
                refine all_cons rfl rfl ?_ ?_
                · skip
                  refine w_alloc rfl z_41 fun b3 => ?_
                  refine draw_all [9] (by kernel_rfl) (by simp) ?_
                  refine all_cons rfl rfl ?_ ?_
                  · skip
                    refine w_alloc rfl z_41 fun b4 => ?_
                    refine draw_all [11] (by kernel_rfl) (by simp) ?_
                    refine all_cons rfl rfl ?_ ?_
                    · skip
                      refine w_store (cells' := [_, _, _, _]) rfl rfl rfl (by repeat (first | exact Pick.here _ _ _ | apply Pick.next)) cn_41 (by rfl) (by rfl) (by rfl) (by first | (refine .inl ?_; simp; done) | (refine .inr ?_; simp [keys]; done)) ?_
                      refine draw_all [12] (by kernel_rfl) (by simp) ?_
                      refine all_cons rfl rfl ?_ ?_
                      · skip
                        refine w_store (cells' := [_, _, _, _]) rfl rfl rfl (by repeat (first | exact Pick.here _ _ _ | apply Pick.next)) cn_41 (by rfl) (by rfl) (by rfl) (by first | (refine .inl ?_; simp; done) | (refine .inr ?_; simp [keys]; done)) ?_
                        refine d_take 13 rfl (by kernel_rfl) (by kernel_rfl) (by kernel_rfl) rfl (p_assign rfl) ?_
                        refine draw_done (by kernel_rfl) ?_
                        exact ⟨⟨b4, b3⟩, _, trivial, (by repeat (first | exact Knows.nil | refine Knows.cons (by rfl) ?_)), (by repeat (first | exact Back.refl _ _ | refine Back.cons (by rfl) ?_)), (by repeat (first | exact Picks.nil _ | exact Pick.here _ _ _ | apply Pick.next | apply Picks.cons))⟩
                      exact all_nil
                    exact all_nil
                  exact all_nil
                exact all_nil
              refine all_cons rfl rfl ?_ ?_
              · skip
                refine w_alloc rfl z_41 fun b5 => ?_
                refine draw_all [4, 10] (by kernel_rfl) (by simp) ?_
                refine all_cons rfl rfl ?_ ?_
                · skip
                  refine w_callR rfl rfl rfl cl_47 (cn_spec_LoopPorts a b hl0 hl1 hA) ?_
                  refine d_take 5 rfl (by kernel_rfl) (by kernel_rfl) (by kernel_rfl) rfl (p_move rfl) ?_
                  refine d_take 6 rfl (by kernel_rfl) (by kernel_rfl) (by kernel_rfl) rfl (p_extract rfl rfl) ?_
                  refine d_take 7 rfl (by kernel_rfl) (by kernel_rfl) (by kernel_rfl) rfl (p_extract rfl rfl) ?_
                  refine d_take 8 rfl (by kernel_rfl) (by kernel_rfl) (by kernel_rfl) rfl (p_extract rfl rfl) ?_
                  refine draw_all [10] (by kernel_rfl) (by simp) ?_
                  refine all_cons rfl rfl ?_ ?_
                  · skip
                    refine w_alloc rfl z_41 fun b6 => ?_
                    refine draw_all [11] (by kernel_rfl) (by simp) ?_
                    refine all_cons rfl rfl ?_ ?_
                    · skip
                      refine w_store (cells' := [_, _, _, _]) rfl rfl rfl (by repeat (first | exact Pick.here _ _ _ | apply Pick.next)) cn_41 (by rfl) (by rfl) (by rfl) (by first | (refine .inl ?_; simp; done) | (refine .inr ?_; simp [keys]; done)) ?_
                      refine draw_all [12] (by kernel_rfl) (by simp) ?_
                      refine all_cons rfl rfl ?_ ?_
                      · skip
                        refine w_store (cells' := [_, _, _, _]) rfl rfl rfl (by repeat (first | exact Pick.here _ _ _ | apply Pick.next)) cn_41 (by rfl) (by rfl) (by rfl) (by first | (refine .inl ?_; simp; done) | (refine .inr ?_; simp [keys]; done)) ?_
                        refine d_take 13 rfl (by kernel_rfl) (by kernel_rfl) (by kernel_rfl) rfl (p_assign rfl) ?_
                        refine draw_done (by kernel_rfl) ?_
                        exact ⟨⟨b5, b6⟩, _, trivial, (by repeat (first | exact Knows.nil | refine Knows.cons (by rfl) ?_)), (by repeat (first | exact Back.refl _ _ | refine Back.cons (by rfl) ?_)), (by repeat (first | exact Picks.nil _ | exact Pick.here _ _ _ | apply Pick.next | apply Picks.cons))⟩
                      exact all_nil
                    exact all_nil
                  exact all_nil
                refine all_cons rfl rfl ?_ ?_
                · skip
                  refine w_alloc rfl z_41 fun b7 => ?_
                  refine draw_all [4] (by kernel_rfl) (by simp) ?_
                  refine all_cons rfl rfl ?_ ?_
                  · skip
                    refine w_callR rfl rfl rfl cl_47 (cn_spec_LoopPorts a b hl0 hl1 hA) ?_
                    refine d_take 5 rfl (by kernel_rfl) (by kernel_rfl) (by kernel_rfl) rfl (p_move rfl) ?_
                    refine d_take 6 rfl (by kernel_rfl) (by kernel_rfl) (by kernel_rfl) rfl (p_extract rfl rfl) ?_
                    refine d_take 7 rfl (by kernel_rfl) (by kernel_rfl) (by kernel_rfl) rfl (p_extract rfl rfl) ?_
                    refine d_take 8 rfl (by kernel_rfl) (by kernel_rfl) (by kernel_rfl) rfl (p_extract rfl rfl) ?_
                    refine draw_all [11] (by kernel_rfl) (by simp) ?_
                    refine all_cons rfl rfl ?_ ?_
                    · skip
                      refine w_store (cells' := [_, _, _, _]) rfl rfl rfl (by repeat (first | exact Pick.here _ _ _ | apply Pick.next)) cn_41 (by rfl) (by rfl) (by rfl) (by first | (refine .inl ?_; simp; done) | (refine .inr ?_; simp [keys]; done)) ?_
                      refine draw_all [12] (by kernel_rfl) (by simp) ?_
                      refine all_cons rfl rfl ?_ ?_
                      · skip
                        refine w_store (cells' := [_, _, _, _]) rfl rfl rfl (by repeat (first | exact Pick.here _ _ _ | apply Pick.next)) cn_41 (by rfl) (by rfl) (by rfl) (by first | (refine .inl ?_; simp; done) | (refine .inr ?_; simp [keys]; done)) ?_
                        refine d_take 13 rfl (by kernel_rfl) (by kernel_rfl) (by kernel_rfl) rfl (p_assign rfl) ?_
                        refine draw_done (by kernel_rfl) ?_
                        exact ⟨⟨b5, b7⟩, _, trivial, (by repeat (first | exact Knows.nil | refine Knows.cons (by rfl) ?_)), (by repeat (first | exact Back.refl _ _ | refine Back.cons (by rfl) ?_)), (by repeat (first | exact Picks.nil _ | exact Pick.here _ _ _ | apply Pick.next | apply Picks.cons))⟩
                      exact all_nil
                    exact all_nil
                  exact all_nil
                exact all_nil
              refine all_cons rfl rfl ?_ ?_
              · skip
                refine w_alloc rfl z_41 fun b8 => ?_
                refine draw_all [4, 9] (by kernel_rfl) (by simp) ?_
                refine all_cons rfl rfl ?_ ?_
                · skip
                  refine w_callR rfl rfl rfl cl_47 (cn_spec_LoopPorts a b hl0 hl1 hA) ?_
                  refine d_take 5 rfl (by kernel_rfl) (by kernel_rfl) (by kernel_rfl) rfl (p_move rfl) ?_
                  refine d_take 6 rfl (by kernel_rfl) (by kernel_rfl) (by kernel_rfl) rfl (p_extract rfl rfl) ?_
                  refine d_take 7 rfl (by kernel_rfl) (by kernel_rfl) (by kernel_rfl) rfl (p_extract rfl rfl) ?_
                  refine d_take 8 rfl (by kernel_rfl) (by kernel_rfl) (by kernel_rfl) rfl (p_extract rfl rfl) ?_
                  refine draw_all [9] (by kernel_rfl) (by simp) ?_
                  refine all_cons rfl rfl ?_ ?_
                  · skip
                    refine w_alloc rfl z_41 fun b9 => ?_
                    refine draw_all [11] (by kernel_rfl) (by simp) ?_
                    refine all_cons rfl rfl ?_ ?_
                    · skip
                      refine w_store (cells' := [_, _, _, _]) rfl rfl rfl (by repeat (first | exact Pick.here _ _ _ | apply Pick.next)) cn_41 (by rfl) (by rfl) (by rfl) (by first | (refine .inl ?_; simp; done) | (refine .inr ?_; simp [keys]; done)) ?_
                      refine draw_all [12] (by kernel_rfl) (by simp) ?_
                      refine all_cons rfl rfl ?_ ?_
                      · skip
                        refine w_store (cells' := [_, _, _, _]) rfl rfl rfl (by repeat (first | exact Pick.here _ _ _ | apply Pick.next)) cn_41 (by rfl) (by rfl) (by rfl) (by first | (refine .inl ?_; simp; done) | (refine .inr ?_; simp [keys]; done)) ?_
                        refine d_take 13 rfl (by kernel_rfl) (by kernel_rfl) (by kernel_rfl) rfl (p_assign rfl) ?_
                        refine draw_done (by kernel_rfl) ?_
                        exact ⟨⟨b9, b8⟩, _, trivial, (by repeat (first | exact Knows.nil | refine Knows.cons (by rfl) ?_)), (by repeat (first | exact Back.refl _ _ | refine Back.cons (by rfl) ?_)), (by repeat (first | exact Picks.nil _ | exact Pick.here _ _ _ | apply Pick.next | apply Picks.cons))⟩
                      exact all_nil
                    exact all_nil
                  exact all_nil
                refine all_cons rfl rfl ?_ ?_
                · skip
                  refine w_alloc rfl z_41 fun b10 => ?_
                  refine draw_all [4] (by kernel_rfl) (by simp) ?_
                  refine all_cons rfl rfl ?_ ?_
                  · skip
                    refine w_callR rfl rfl rfl cl_47 (cn_spec_LoopPorts a b hl0 hl1 hA) ?_
                    refine d_take 5 rfl (by kernel_rfl) (by kernel_rfl) (by kernel_rfl) rfl (p_move rfl) ?_
                    refine d_take 6 rfl (by kernel_rfl) (by kernel_rfl) (by kernel_rfl) rfl (p_extract rfl rfl) ?_
                    refine d_take 7 rfl (by kernel_rfl) (by kernel_rfl) (by kernel_rfl) rfl (p_extract rfl rfl) ?_
                    refine d_take 8 rfl (by kernel_rfl) (by kernel_rfl) (by kernel_rfl) rfl (p_extract rfl rfl) ?_
                    refine draw_all [11] (by kernel_rfl) (by simp) ?_
                    refine all_cons rfl rfl ?_ ?_
                    · skip
                      refine w_store (cells' := [_, _, _, _]) rfl rfl rfl (by repeat (first | exact Pick.here _ _ _ | apply Pick.next)) cn_41 (by rfl) (by rfl) (by rfl) (by first | (refine .inl ?_; simp; done) | (refine .inr ?_; simp [keys]; done)) ?_
                      refine draw_all [12] (by kernel_rfl) (by simp) ?_
                      refine all_cons rfl rfl ?_ ?_
                      · skip
                        refine w_store (cells' := [_, _, _, _]) rfl rfl rfl (by repeat (first | exact Pick.here _ _ _ | apply Pick.next)) cn_41 (by rfl) (by rfl) (by rfl) (by first | (refine .inl ?_; simp; done) | (refine .inr ?_; simp [keys]; done)) ?_
                        refine d_take 13 rfl (by kernel_rfl) (by kernel_rfl) (by kernel_rfl) rfl (p_assign rfl) ?_
                        refine draw_done (by kernel_rfl) ?_
                        exact ⟨⟨b10, b8⟩, _, trivial, (by repeat (first | exact Knows.nil | refine Knows.cons (by rfl) ?_)), (by repeat (first | exact Back.refl _ _ | refine Back.cons (by rfl) ?_)), (by repeat (first | exact Picks.nil _ | exact Pick.here _ _ _ | apply Pick.next | apply Picks.cons))⟩
                      exact all_nil
                    exact all_nil
                  exact all_nil
                exact all_nil
              exact all_nil
            refine all_cons rfl rfl ?_ ?_
            · skip
              refine w_alloc rfl z_41 fun b11 => ?_
              refine draw_all [3, 10] (by kernel_rfl) (by simp) ?_
              refine all_cons rfl rfl ?_ ?_
              · skip
                refine w_callR rfl rfl rfl cl_27 (c_laws_toPort b hl1) ?_
                refine draw_all [4, 10] (by kernel_rfl) (by simp) ?_
                refine all_cons rfl rfl ?_ ?_
                · skip
                  refine w_callR rfl rfl rfl cl_47 (cn_spec_LoopPorts a b hl0 hl1 hA) ?_
                  refine d_take 5 rfl (by kernel_rfl) (by kernel_rfl) (by kernel_rfl) rfl (p_move rfl) ?_
                  refine d_take 6 rfl (by kernel_rfl) (by kernel_rfl) (by kernel_rfl) rfl (p_extract rfl rfl) ?_
                  refine d_take 7 rfl (by kernel_rfl) (by kernel_rfl) (by kernel_rfl) rfl (p_extract rfl rfl) ?_
                  refine d_take 8 rfl (by kernel_rfl) (by kernel_rfl) (by kernel_rfl) rfl (p_extract rfl rfl) ?_
                  refine draw_all [10] (by kernel_rfl) (by simp) ?_
                  refine all_cons rfl rfl ?_ ?_
                  · skip
                    refine w_alloc rfl z_41 fun b12 => ?_
                    refine draw_all [11] (by kernel_rfl) (by simp) ?_
                    refine all_cons rfl rfl ?_ ?_
                    · skip
                      refine w_store (cells' := [_, _, _, _]) rfl rfl rfl (by repeat (first | exact Pick.here _ _ _ | apply Pick.next)) cn_41 (by rfl) (by rfl) (by rfl) (by first | (refine .inl ?_; simp; done) | (refine .inr ?_; simp [keys]; done)) ?_
                      refine draw_all [12] (by kernel_rfl) (by simp) ?_
                      refine all_cons rfl rfl ?_ ?_
                      · skip
                        refine w_store (cells' := [_, _, _, _]) rfl rfl rfl (by repeat (first | exact Pick.here _ _ _ | apply Pick.next)) cn_41 (by rfl) (by rfl) (by rfl) (by first | (refine .inl ?_; simp; done) | (refine .inr ?_; simp [keys]; done)) ?_
                        refine d_take 13 rfl (by kernel_rfl) (by kernel_rfl) (by kernel_rfl) rfl (p_assign rfl) ?_
                        refine draw_done (by kernel_rfl) ?_
                        exact ⟨⟨b11, b12⟩, _, trivial, (by repeat (first | exact Knows.nil | refine Knows.cons (by rfl) ?_)), (by repeat (first | exact Back.refl _ _ | refine Back.cons (by rfl) ?_)), (by repeat (first | exact Picks.nil _ | exact Pick.here _ _ _ | apply Pick.next | apply Picks.cons))⟩
                      exact all_nil
                    exact all_nil
                  exact all_nil
                refine all_cons rfl rfl ?_ ?_
                · skip
                  refine w_alloc rfl z_41 fun b13 => ?_
                  refine draw_all [4] (by kernel_rfl) (by simp) ?_
                  refine all_cons rfl rfl ?_ ?_
                  · skip
                    refine w_callR rfl rfl rfl cl_47 (cn_spec_LoopPorts a b hl0 hl1 hA) ?_
                    refine d_take 5 rfl (by kernel_rfl) (by kernel_rfl) (by kernel_rfl) rfl (p_move rfl) ?_
                    refine d_take 6 rfl (by kernel_rfl) (by kernel_rfl) (by kernel_rfl) rfl (p_extract rfl rfl) ?_
                    refine d_take 7 rfl (by kernel_rfl) (by kernel_rfl) (by kernel_rfl) rfl (p_extract rfl rfl) ?_
                    refine d_take 8 rfl (by kernel_rfl) (by kernel_rfl) (by kernel_rfl) rfl (p_extract rfl rfl) ?_
                    refine draw_all [11] (by kernel_rfl) (by simp) ?_
                    refine all_cons rfl rfl ?_ ?_
                    · skip
                      refine w_store (cells' := [_, _, _, _]) rfl rfl rfl (by repeat (first | exact Pick.here _ _ _ | apply Pick.next)) cn_41 (by rfl) (by rfl) (by rfl) (by first | (refine .inl ?_; simp; done) | (refine .inr ?_; simp [keys]; done)) ?_
                      refine draw_all [12] (by kernel_rfl) (by simp) ?_
                      refine all_cons rfl rfl ?_ ?_
                      · skip
                        refine w_store (cells' := [_, _, _, _]) rfl rfl rfl (by repeat (first | exact Pick.here _ _ _ | apply Pick.next)) cn_41 (by rfl) (by rfl) (by rfl) (by first | (refine .inl ?_; simp; done) | (refine .inr ?_; simp [keys]; done)) ?_
                        refine d_take 13 rfl (by kernel_rfl) (by kernel_rfl) (by kernel_rfl) rfl (p_assign rfl) ?_
                        refine draw_done (by kernel_rfl) ?_
                        exact ⟨⟨b11, b13⟩, _, trivial, (by repeat (first | exact Knows.nil | refine Knows.cons (by rfl) ?_)), (by repeat (first | exact Back.refl _ _ | refine Back.cons (by rfl) ?_)), (by repeat (first | exact Picks.nil _ | exact Pick.here _ _ _ | apply Pick.next | apply Picks.cons))⟩
                      exact all_nil
                    exact all_nil
                  exact all_nil
                exact all_nil
              refine all_cons rfl rfl ?_ ?_
              · skip
                refine w_alloc rfl z_41 fun b14 => ?_
                refine draw_all [3] (by kernel_rfl) (by simp) ?_
                refine all_cons rfl rfl ?_ ?_
                · skip
                  refine w_callR rfl rfl rfl cl_27 (c_laws_toPort b hl1) ?_
                  refine draw_all [4] (by kernel_rfl) (by simp) ?_
                  refine all_cons rfl rfl ?_ ?_
                  · skip
                    refine w_callR rfl rfl rfl cl_47 (cn_spec_LoopPorts a b hl0 hl1 hA) ?_
                    refine d_take 5 rfl (by kernel_rfl) (by kernel_rfl) (by kernel_rfl) rfl (p_move rfl) ?_
                    refine d_take 6 rfl (by kernel_rfl) (by kernel_rfl) (by kernel_rfl) rfl (p_extract rfl rfl) ?_
                    refine d_take 7 rfl (by kernel_rfl) (by kernel_rfl) (by kernel_rfl) rfl (p_extract rfl rfl) ?_
                    refine d_take 8 rfl (by kernel_rfl) (by kernel_rfl) (by kernel_rfl) rfl (p_extract rfl rfl) ?_
                    refine draw_all [11] (by kernel_rfl) (by simp) ?_
                    refine all_cons rfl rfl ?_ ?_
                    · skip
                      refine w_store (cells' := [_, _, _, _]) rfl rfl rfl (by repeat (first | exact Pick.here _ _ _ | apply Pick.next)) cn_41 (by rfl) (by rfl) (by rfl) (by first | (refine .inl ?_; simp; done) | (refine .inr ?_; simp [keys]; done)) ?_
                      refine draw_all [12] (by kernel_rfl) (by simp) ?_
                      refine all_cons rfl rfl ?_ ?_
                      · skip
                        refine w_store (cells' := [_, _, _, _]) rfl rfl rfl (by repeat (first | exact Pick.here _ _ _ | apply Pick.next)) cn_41 (by rfl) (by rfl) (by rfl) (by first | (refine .inl ?_; simp; done) | (refine .inr ?_; simp [keys]; done)) ?_
                        refine d_take 13 rfl (by kernel_rfl) (by kernel_rfl) (by kernel_rfl) rfl (p_assign rfl) ?_
                        refine draw_done (by kernel_rfl) ?_
                        exact ⟨⟨b11, b14⟩, _, trivial, (by repeat (first | exact Knows.nil | refine Knows.cons (by rfl) ?_)), (by repeat (first | exact Back.refl _ _ | refine Back.cons (by rfl) ?_)), (by repeat (first | exact Picks.nil _ | exact Pick.here _ _ _ | apply Pick.next | apply Picks.cons))⟩
                      exact all_nil
                    exact all_nil
                  exact all_nil
                exact all_nil
              exact all_nil
            refine all_cons rfl rfl ?_ ?_
            · skip
              refine w_alloc rfl z_41 fun b15 => ?_
              refine draw_all [3, 9] (by kernel_rfl) (by simp) ?_
              refine all_cons rfl rfl ?_ ?_
              · skip
                refine w_callR rfl rfl rfl cl_27 (c_laws_toPort b hl1) ?_
                refine draw_all [4, 9] (by kernel_rfl) (by simp) ?_
                refine all_cons rfl rfl ?_ ?_
                · skip
                  refine w_callR rfl rfl rfl cl_47 (cn_spec_LoopPorts a b hl0 hl1 hA) ?_
                  refine d_take 5 rfl (by kernel_rfl) (by kernel_rfl) (by kernel_rfl) rfl (p_move rfl) ?_
                  refine d_take 6 rfl (by kernel_rfl) (by kernel_rfl) (by kernel_rfl) rfl (p_extract rfl rfl) ?_
                  refine d_take 7 rfl (by kernel_rfl) (by kernel_rfl) (by kernel_rfl) rfl (p_extract rfl rfl) ?_
                  refine d_take 8 rfl (by kernel_rfl) (by kernel_rfl) (by kernel_rfl) rfl (p_extract rfl rfl) ?_
                  refine draw_all [9] (by kernel_rfl) (by simp) ?_
                  refine all_cons rfl rfl ?_ ?_
                  · skip
                    refine w_alloc rfl z_41 fun b16 => ?_
                    refine draw_all [11] (by kernel_rfl) (by simp) ?_
                    refine all_cons rfl rfl ?_ ?_
                    · skip
                      refine w_store (cells' := [_, _, _, _]) rfl rfl rfl (by repeat (first | exact Pick.here _ _ _ | apply Pick.next)) cn_41 (by rfl) (by rfl) (by rfl) (by first | (refine .inl ?_; simp; done) | (refine .inr ?_; simp [keys]; done)) ?_
                      refine draw_all [12] (by kernel_rfl) (by simp) ?_
                      refine all_cons rfl rfl ?_ ?_
                      · skip
                        refine w_store (cells' := [_, _, _, _]) rfl rfl rfl (by repeat (first | exact Pick.here _ _ _ | apply Pick.next)) cn_41 (by rfl) (by rfl) (by rfl) (by first | (refine .inl ?_; simp; done) | (refine .inr ?_; simp [keys]; done)) ?_
                        refine d_take 13 rfl (by kernel_rfl) (by kernel_rfl) (by kernel_rfl) rfl (p_assign rfl) ?_
                        refine draw_done (by kernel_rfl) ?_
                        exact ⟨⟨b16, b15⟩, _, trivial, (by repeat (first | exact Knows.nil | refine Knows.cons (by rfl) ?_)), (by repeat (first | exact Back.refl _ _ | refine Back.cons (by rfl) ?_)), (by repeat (first | exact Picks.nil _ | exact Pick.here _ _ _ | apply Pick.next | apply Picks.cons))⟩
                      exact all_nil
                    exact all_nil
                  exact all_nil
                refine all_cons rfl rfl ?_ ?_
                · skip
                  refine w_alloc rfl z_41 fun b17 => ?_
                  refine draw_all [4] (by kernel_rfl) (by simp) ?_
                  refine all_cons rfl rfl ?_ ?_
                  · skip
                    refine w_callR rfl rfl rfl cl_47 (cn_spec_LoopPorts a b hl0 hl1 hA) ?_
                    refine d_take 5 rfl (by kernel_rfl) (by kernel_rfl) (by kernel_rfl) rfl (p_move rfl) ?_
                    refine d_take 6 rfl (by kernel_rfl) (by kernel_rfl) (by kernel_rfl) rfl (p_extract rfl rfl) ?_
                    refine d_take 7 rfl (by kernel_rfl) (by kernel_rfl) (by kernel_rfl) rfl (p_extract rfl rfl) ?_
                    refine d_take 8 rfl (by kernel_rfl) (by kernel_rfl) (by kernel_rfl) rfl (p_extract rfl rfl) ?_
                    refine draw_all [11] (by kernel_rfl) (by simp) ?_
                    refine all_cons rfl rfl ?_ ?_
                    · skip
                      refine w_store (cells' := [_, _, _, _]) rfl rfl rfl (by repeat (first | exact Pick.here _ _ _ | apply Pick.next)) cn_41 (by rfl) (by rfl) (by rfl) (by first | (refine .inl ?_; simp; done) | (refine .inr ?_; simp [keys]; done)) ?_
                      refine draw_all [12] (by kernel_rfl) (by simp) ?_
                      refine all_cons rfl rfl ?_ ?_
                      · skip
                        refine w_store (cells' := [_, _, _, _]) rfl rfl rfl (by repeat (first | exact Pick.here _ _ _ | apply Pick.next)) cn_41 (by rfl) (by rfl) (by rfl) (by first | (refine .inl ?_; simp; done) | (refine .inr ?_; simp [keys]; done)) ?_
                        refine d_take 13 rfl (by kernel_rfl) (by kernel_rfl) (by kernel_rfl) rfl (p_assign rfl) ?_
                        refine draw_done (by kernel_rfl) ?_
                        exact ⟨⟨b17, b15⟩, _, trivial, (by repeat (first | exact Knows.nil | refine Knows.cons (by rfl) ?_)), (by repeat (first | exact Back.refl _ _ | refine Back.cons (by rfl) ?_)), (by repeat (first | exact Picks.nil _ | exact Pick.here _ _ _ | apply Pick.next | apply Picks.cons))⟩
                      exact all_nil
                    exact all_nil
                  exact all_nil
                exact all_nil
              refine all_cons rfl rfl ?_ ?_
              · skip
                refine w_alloc rfl z_41 fun b18 => ?_
                refine draw_all [3] (by kernel_rfl) (by simp) ?_
                refine all_cons rfl rfl ?_ ?_
                · skip
                  refine w_callR rfl rfl rfl cl_27 (c_laws_toPort b hl1) ?_
                  refine draw_all [4] (by kernel_rfl) (by simp) ?_
                  refine all_cons rfl rfl ?_ ?_
                  · skip
                    refine w_callR rfl rfl rfl cl_47 (cn_spec_LoopPorts a b hl0 hl1 hA) ?_
                    refine d_take 5 rfl (by kernel_rfl) (by kernel_rfl) (by kernel_rfl) rfl (p_move rfl) ?_
                    refine d_take 6 rfl (by kernel_rfl) (by kernel_rfl) (by kernel_rfl) rfl (p_extract rfl rfl) ?_
                    refine d_take 7 rfl (by kernel_rfl) (by kernel_rfl) (by kernel_rfl) rfl (p_extract rfl rfl) ?_
                    refine d_take 8 rfl (by kernel_rfl) (by kernel_rfl) (by kernel_rfl) rfl (p_extract rfl rfl) ?_
                    refine draw_all [11] (by kernel_rfl) (by simp) ?_
                    refine all_cons rfl rfl ?_ ?_
                    · skip
                      refine w_store (cells' := [_, _, _, _]) rfl rfl rfl (by repeat (first | exact Pick.here _ _ _ | apply Pick.next)) cn_41 (by rfl) (by rfl) (by rfl) (by first | (refine .inl ?_; simp; done) | (refine .inr ?_; simp [keys]; done)) ?_
                      refine draw_all [12] (by kernel_rfl) (by simp) ?_
                      refine all_cons rfl rfl ?_ ?_
                      · skip
                        refine w_store (cells' := [_, _, _, _]) rfl rfl rfl (by repeat (first | exact Pick.here _ _ _ | apply Pick.next)) cn_41 (by rfl) (by rfl) (by rfl) (by first | (refine .inl ?_; simp; done) | (refine .inr ?_; simp [keys]; done)) ?_
                        refine d_take 13 rfl (by kernel_rfl) (by kernel_rfl) (by kernel_rfl) rfl (p_assign rfl) ?_
                        refine draw_done (by kernel_rfl) ?_
                        exact ⟨⟨b18, b15⟩, _, trivial, (by repeat (first | exact Knows.nil | refine Knows.cons (by rfl) ?_)), (by repeat (first | exact Back.refl _ _ | refine Back.cons (by rfl) ?_)), (by repeat (first | exact Picks.nil _ | exact Pick.here _ _ _ | apply Pick.next | apply Picks.cons))⟩
                      exact all_nil
                    exact all_nil
                  exact all_nil
                exact all_nil
              exact all_nil
            exact all_nil
          refine all_cons rfl rfl ?_ ?_
          · skip
            refine w_alloc rfl z_41 fun b19 => ?_
            refine draw_all [1, 10] (by kernel_rfl) (by simp) ?_
            refine all_cons rfl rfl ?_ ?_
            · skip
              refine w_callR rfl rfl rfl cl_27 (c_laws_toPort a hl0) ?_
              refine draw_all [3, 10] (by kernel_rfl) (by simp) ?_
              refine all_cons rfl rfl ?_ ?_
              · skip
                refine w_callR rfl rfl rfl cl_27 (c_laws_toPort b hl1) ?_
                refine draw_all [4, 10] (by kernel_rfl) (by simp) ?_
                refine all_cons rfl rfl ?_ ?_
                · skip
                  refine w_callR rfl rfl rfl cl_47 (cn_spec_LoopPorts a b hl0 hl1 hA) ?_
                  refine d_take 5 rfl (by kernel_rfl) (by kernel_rfl) (by kernel_rfl) rfl (p_move rfl) ?_
                  refine d_take 6 rfl (by kernel_rfl) (by kernel_rfl) (by kernel_rfl) rfl (p_extract rfl rfl) ?_
                  refine d_take 7 rfl (by kernel_rfl) (by kernel_rfl) (by kernel_rfl) rfl (p_extract rfl rfl) ?_
                  refine d_take 8 rfl (by kernel_rfl) (by kernel_rfl) (by kernel_rfl) rfl (p_extract rfl rfl) ?_
                  refine draw_all [10] (by kernel_rfl) (by simp) ?_
                  refine all_cons rfl rfl ?_ ?_
                  · skip
                    refine w_alloc rfl z_41 fun b20 => ?_
                    refine draw_all [11] (by kernel_rfl) (by simp) ?_
                    refine all_cons rfl rfl ?_ ?_
                    · skip
                      refine w_store (cells' := [_, _, _, _]) rfl rfl rfl (by repeat (first | exact Pick.here _ _ _ | apply Pick.next)) cn_41 (by rfl) (by rfl) (by rfl) (by first | (refine .inl ?_; simp; done) | (refine .inr ?_; simp [keys]; done)) ?_
                      refine draw_all [12] (by kernel_rfl) (by simp) ?_
                      refine all_cons rfl rfl ?_ ?_
                      · skip
                        refine w_store (cells' := [_, _, _, _]) rfl rfl rfl (by repeat (first | exact Pick.here _ _ _ | apply Pick.next)) cn_41 (by rfl) (by rfl) (by rfl) (by first | (refine .inl ?_; simp; done) | (refine .inr ?_; simp [keys]; done)) ?_
                        refine d_take 13 rfl (by kernel_rfl) (by kernel_rfl) (by kernel_rfl) rfl (p_assign rfl) ?_
                        refine draw_done (by kernel_rfl) ?_
                        exact ⟨⟨b19, b20⟩, _, trivial, (by repeat (first | exact Knows.nil | refine Knows.cons (by rfl) ?_)), (by repeat (first | exact Back.refl _ _ | refine Back.cons (by rfl) ?_)), (by repeat (first | exact Picks.nil _ | exact Pick.here _ _ _ | apply Pick.next | apply Picks.cons))⟩
                      exact all_nil
                    exact all_nil
                  exact all_nil
                refine all_cons rfl rfl ?_ ?_
                · skip
                  refine w_alloc rfl z_41 fun b21 => ?_
                  refine draw_all [4] (by kernel_rfl) (by simp) ?_
                  refine all_cons rfl rfl ?_ ?_
                  · skip
                    refine w_callR rfl rfl rfl cl_47 (cn_spec_LoopPorts a b hl0 hl1 hA) ?_
                    refine d_take 5 rfl (by kernel_rfl) (by kernel_rfl) (by kernel_rfl) rfl (p_move rfl) ?_
                    refine d_take 6 rfl (by kernel_rfl) (by kernel_rfl) (by kernel_rfl) rfl (p_extract rfl rfl) ?_
                    refine d_take 7 rfl (by kernel_rfl) (by kernel_rfl) (by kernel_rfl) rfl (p_extract rfl rfl) ?_
                    refine d_take 8 rfl (by kernel_rfl) (by kernel_rfl) (by kernel_rfl) rfl (p_extract rfl rfl) ?_
                    refine draw_all [11] (by kernel_rfl) (by simp) ?_
                    refine all_cons rfl rfl ?_ ?_
                    · skip
                      refine w_store (cells' := [_, _, _, _]) rfl rfl rfl (by repeat (first | exact Pick.here _ _ _ | apply Pick.next)) cn_41 (by rfl) (by rfl) (by rfl) (by first | (refine .inl ?_; simp; done) | (refine .inr ?_; simp [keys]; done)) ?_
                      refine draw_all [12] (by kernel_rfl) (by simp) ?_
                      refine all_cons rfl rfl ?_ ?_
                      · skip
                        refine w_store (cells' := [_, _, _, _]) rfl rfl rfl (by repeat (first | exact Pick.here _ _ _ | apply Pick.next)) cn_41 (by rfl) (by rfl) (by rfl) (by first | (refine .inl ?_; simp; done) | (refine .inr ?_; simp [keys]; done)) ?_
                        refine d_take 13 rfl (by kernel_rfl) (by kernel_rfl) (by kernel_rfl) rfl (p_assign rfl) ?_
                        refine draw_done (by kernel_rfl) ?_
                        exact ⟨⟨b19, b21⟩, _, trivial, (by repeat (first | exact Knows.nil | refine Knows.cons (by rfl) ?_)), (by repeat (first | exact Back.refl _ _ | refine Back.cons (by rfl) ?_)), (by repeat (first | exact Picks.nil _ | exact Pick.here _ _ _ | apply Pick.next | apply Picks.cons))⟩
                      exact all_nil
                    exact all_nil
                  exact all_nil
                exact all_nil
              refine all_cons rfl rfl ?_ ?_
              · skip
                refine w_alloc rfl z_41 fun b22 => ?_
                refine draw_all [3] (by kernel_rfl) (by simp) ?_
                refine all_cons rfl rfl ?_ ?_
                · skip
                  refine w_callR rfl rfl rfl cl_27 (c_laws_toPort b hl1) ?_
                  refine draw_all [4] (by kernel_rfl) (by simp) ?_
                  refine all_cons rfl rfl ?_ ?_
                  · skip
                    refine w_callR rfl rfl rfl cl_47 (cn_spec_LoopPorts a b hl0 hl1 hA) ?_
                    refine d_take 5 rfl (by kernel_rfl) (by kernel_rfl) (by kernel_rfl) rfl (p_move rfl) ?_
                    refine d_take 6 rfl (by kernel_rfl) (by kernel_rfl) (by kernel_rfl) rfl (p_extract rfl rfl) ?_
                    refine d_take 7 rfl (by kernel_rfl) (by kernel_rfl) (by kernel_rfl) rfl (p_extract rfl rfl) ?_
                    refine d_take 8 rfl (by kernel_rfl) (by kernel_rfl) (by kernel_rfl) rfl (p_extract rfl rfl) ?_
                    refine draw_all [11] (by kernel_rfl) (by simp) ?_
                    refine all_cons rfl rfl ?_ ?_
                    · skip
                      refine w_store (cells' := [_, _, _, _]) rfl rfl rfl (by repeat (first | exact Pick.here _ _ _ | apply Pick.next)) cn_41 (by rfl) (by rfl) (by rfl) (by first | (refine .inl ?_; simp; done) | (refine .inr ?_; simp [keys]; done)) ?_
                      refine draw_all [12] (by kernel_rfl) (by simp) ?_
                      refine all_cons rfl rfl ?_ ?_
                      · skip
                        refine w_store (cells' := [_, _, _, _]) rfl rfl rfl (by repeat (first | exact Pick.here _ _ _ | apply Pick.next)) cn_41 (by rfl) (by rfl) (by rfl) (by first | (refine .inl ?_; simp; done) | (refine .inr ?_; simp [keys]; done)) ?_
                        refine d_take 13 rfl (by kernel_rfl) (by kernel_rfl) (by kernel_rfl) rfl (p_assign rfl) ?_
                        refine draw_done (by kernel_rfl) ?_
                        exact ⟨⟨b19, b22⟩, _, trivial, (by repeat (first | exact Knows.nil | refine Knows.cons (by rfl) ?_)), (by repeat (first | exact Back.refl _ _ | refine Back.cons (by rfl) ?_)), (by repeat (first | exact Picks.nil _ | exact Pick.here _ _ _ | apply Pick.next | apply Picks.cons))⟩
                      exact all_nil
                    exact all_nil
                  exact all_nil
                exact all_nil
              exact all_nil
            refine all_cons rfl rfl ?_ ?_
            · skip
              refine w_alloc rfl z_41 fun b23 => ?_
              refine draw_all [1] (by kernel_rfl) (by simp) ?_
              refine all_cons rfl rfl ?_ ?_
              · skip
                refine w_callR rfl rfl rfl cl_27 (c_laws_toPort a hl0) ?_
                refine draw_all [3] (by kernel_rfl) (by simp) ?_
                refine all_cons rfl rfl ?_ ?_
                · skip
                  refine w_callR rfl rfl rfl cl_27 (c_laws_toPort b hl1) ?_
                  refine draw_all [4] (by kernel_rfl) (by simp) ?_
                  refine all_cons rfl rfl ?_ ?_
                  · skip
                    refine w_callR rfl rfl rfl cl_47 (cn_spec_LoopPorts a b hl0 hl1 hA) ?_
                    refine d_take 5 rfl (by kernel_rfl) (by kernel_rfl) (by kernel_rfl) rfl (p_move rfl) ?_
                    refine d_take 6 rfl (by kernel_rfl) (by kernel_rfl) (by kernel_rfl) rfl (p_extract rfl rfl) ?_
                    refine d_take 7 rfl (by kernel_rfl) (by kernel_rfl) (by kernel_rfl) rfl (p_extract rfl rfl) ?_
                    refine d_take 8 rfl (by kernel_rfl) (by kernel_rfl) (by kernel_rfl) rfl (p_extract rfl rfl) ?_
                    refine draw_all [11] (by kernel_rfl) (by simp) ?_
                    refine all_cons rfl rfl ?_ ?_
                    · skip
                      refine w_store (cells' := [_, _, _, _]) rfl rfl rfl (by repeat (first | exact Pick.here _ _ _ | apply Pick.next)) cn_41 (by rfl) (by rfl) (by rfl) (by first | (refine .inl ?_; simp; done) | (refine .inr ?_; simp [keys]; done)) ?_
                      refine draw_all [12] (by kernel_rfl) (by simp) ?_
                      refine all_cons rfl rfl ?_ ?_
                      · skip
                        refine w_store (cells' := [_, _, _, _]) rfl rfl rfl (by repeat (first | exact Pick.here _ _ _ | apply Pick.next)) cn_41 (by rfl) (by rfl) (by rfl) (by first | (refine .inl ?_; simp; done) | (refine .inr ?_; simp [keys]; done)) ?_
                        refine d_take 13 rfl (by kernel_rfl) (by kernel_rfl) (by kernel_rfl) rfl (p_assign rfl) ?_
                        refine draw_done (by kernel_rfl) ?_
                        exact ⟨⟨b19, b23⟩, _, trivial, (by repeat (first | exact Knows.nil | refine Knows.cons (by rfl) ?_)), (by repeat (first | exact Back.refl _ _ | refine Back.cons (by rfl) ?_)), (by repeat (first | exact Picks.nil _ | exact Pick.here _ _ _ | apply Pick.next | apply Picks.cons))⟩
                      exact all_nil
                    exact all_nil
                  exact all_nil
                exact all_nil
              exact all_nil
            exact all_nil
          refine all_cons rfl rfl ?_ ?_
          · skip
            refine w_alloc rfl z_41 fun b24 => ?_
            refine draw_all [1, 9] (by kernel_rfl) (by simp) ?_
            refine all_cons rfl rfl ?_ ?_
            · skip
              refine w_callR rfl rfl rfl cl_27 (c_laws_toPort a hl0) ?_
              refine draw_all [3, 9] (by kernel_rfl) (by simp) ?_
              refine all_cons rfl rfl ?_ ?_
              · skip
                refine w_callR rfl rfl rfl cl_27 (c_laws_toPort b hl1) ?_
                refine draw_all [4, 9] (by kernel_rfl) (by simp) ?_
                refine all_cons rfl rfl ?_ ?_
                · skip
                  refine w_callR rfl rfl rfl cl_47 (cn_spec_LoopPorts a b hl0 hl1 hA) ?_
                  refine d_take 5 rfl (by kernel_rfl) (by kernel_rfl) (by kernel_rfl) rfl (p_move rfl) ?_
                  refine d_take 6 rfl (by kernel_rfl) (by kernel_rfl) (by kernel_rfl) rfl (p_extract rfl rfl) ?_
                  refine d_take 7 rfl (by kernel_rfl) (by kernel_rfl) (by kernel_rfl) rfl (p_extract rfl rfl) ?_
                  refine d_take 8 rfl (by kernel_rfl) (by kernel_rfl) (by kernel_rfl) rfl (p_extract rfl rfl) ?_
                  refine draw_all [9] (by kernel_rfl) (by simp) ?_
                  refine all_cons rfl rfl ?_ ?_
                  · skip
                    refine w_alloc rfl z_41 fun b25 => ?_
                    refine draw_all [11] (by kernel_rfl) (by simp) ?_
                    refine all_cons rfl rfl ?_ ?_
                    · skip
                      refine w_store (cells' := [_, _, _, _]) rfl rfl rfl (by repeat (first | exact Pick.here _ _ _ | apply Pick.next)) cn_41 (by rfl) (by rfl) (by rfl) (by first | (refine .inl ?_; simp; done) | (refine .inr ?_; simp [keys]; done)) ?_
                      refine draw_all [12] (by kernel_rfl) (by simp) ?_
                      refine all_cons rfl rfl ?_ ?_
                      · skip
                        refine w_store (cells' := [_, _, _, _]) rfl rfl rfl (by repeat (first | exact Pick.here _ _ _ | apply Pick.next)) cn_41 (by rfl) (by rfl) (by rfl) (by first | (refine .inl ?_; simp; done) | (refine .inr ?_; simp [keys]; done)) ?_
                        refine d_take 13 rfl (by kernel_rfl) (by kernel_rfl) (by kernel_rfl) rfl (p_assign rfl) ?_
                        refine draw_done (by kernel_rfl) ?_
                        exact ⟨⟨b25, b24⟩, _, trivial, (by repeat (first | exact Knows.nil | refine Knows.cons (by rfl) ?_)), (by repeat (first | exact Back.refl _ _ | refine Back.cons (by rfl) ?_)), (by repeat (first | exact Picks.nil _ | exact Pick.here _ _ _ | apply Pick.next | apply Picks.cons))⟩
                      exact all_nil
                    exact all_nil
                  exact all_nil
                refine all_cons rfl rfl ?_ ?_
                · skip
                  refine w_alloc rfl z_41 fun b26 => ?_
                  refine draw_all [4] (by kernel_rfl) (by simp) ?_
                  refine all_cons rfl rfl ?_ ?_
                  · skip
                    refine w_callR rfl rfl rfl cl_47 (cn_spec_LoopPorts a b hl0 hl1 hA) ?_
                    refine d_take 5 rfl (by kernel_rfl) (by kernel_rfl) (by kernel_rfl) rfl (p_move rfl) ?_
                    refine d_take 6 rfl (by kernel_rfl) (by kernel_rfl) (by kernel_rfl) rfl (p_extract rfl rfl) ?_
                    refine d_take 7 rfl (by kernel_rfl) (by kernel_rfl) (by kernel_rfl) rfl (p_extract rfl rfl) ?_
                    refine d_take 8 rfl (by kernel_rfl) (by kernel_rfl) (by kernel_rfl) rfl (p_extract rfl rfl) ?_
                    refine draw_all [11] (by kernel_rfl) (by simp) ?_
                    refine all_cons rfl rfl ?_ ?_
                    · skip
                      refine w_store (cells' := [_, _, _, _]) rfl rfl rfl (by repeat (first | exact Pick.here _ _ _ | apply Pick.next)) cn_41 (by rfl) (by rfl) (by rfl) (by first | (refine .inl ?_; simp; done) | (refine .inr ?_; simp [keys]; done)) ?_
                      refine draw_all [12] (by kernel_rfl) (by simp) ?_
                      refine all_cons rfl rfl ?_ ?_
                      · skip
                        refine w_store (cells' := [_, _, _, _]) rfl rfl rfl (by repeat (first | exact Pick.here _ _ _ | apply Pick.next)) cn_41 (by rfl) (by rfl) (by rfl) (by first | (refine .inl ?_; simp; done) | (refine .inr ?_; simp [keys]; done)) ?_
                        refine d_take 13 rfl (by kernel_rfl) (by kernel_rfl) (by kernel_rfl) rfl (p_assign rfl) ?_
                        refine draw_done (by kernel_rfl) ?_
                        exact ⟨⟨b26, b24⟩, _, trivial, (by repeat (first | exact Knows.nil | refine Knows.cons (by rfl) ?_)), (by repeat (first | exact Back.refl _ _ | refine Back.cons (by rfl) ?_)), (by repeat (first | exact Picks.nil _ | exact Pick.here _ _ _ | apply Pick.next | apply Picks.cons))⟩
                      exact all_nil
                    exact all_nil
                  exact all_nil
                exact all_nil
              refine all_cons rfl rfl ?_ ?_
              · skip
                refine w_alloc rfl z_41 fun b27 => ?_
                refine draw_all [3] (by kernel_rfl) (by simp) ?_
                refine all_cons rfl rfl ?_ ?_
                · skip
                  refine w_callR rfl rfl rfl cl_27 (c_laws_toPort b hl1) ?_
                  refine draw_all [4] (by kernel_rfl) (by simp) ?_
                  refine all_cons rfl rfl ?_ ?_
                  · skip
                    refine w_callR rfl rfl rfl cl_47 (cn_spec_LoopPorts a b hl0 hl1 hA) ?_
                    refine d_take 5 rfl (by kernel_rfl) (by kernel_rfl) (by kernel_rfl) rfl (p_move rfl) ?_
                    refine d_take 6 rfl (by kernel_rfl) (by kernel_rfl) (by kernel_rfl) rfl (p_extract rfl rfl) ?_
                    refine d_take 7 rfl (by kernel_rfl) (by kernel_rfl) (by kernel_rfl) rfl (p_extract rfl rfl) ?_
                    refine d_take 8 rfl (by kernel_rfl) (by kernel_rfl) (by kernel_rfl) rfl (p_extract rfl rfl) ?_
                    refine draw_all [11] (by kernel_rfl) (by simp) ?_
                    refine all_cons rfl rfl ?_ ?_
                    · skip
                      refine w_store (cells' := [_, _, _, _]) rfl rfl rfl (by repeat (first | exact Pick.here _ _ _ | apply Pick.next)) cn_41 (by rfl) (by rfl) (by rfl) (by first | (refine .inl ?_; simp; done) | (refine .inr ?_; simp [keys]; done)) ?_
                      refine draw_all [12] (by kernel_rfl) (by simp) ?_
                      refine all_cons rfl rfl ?_ ?_
                      · skip
                        refine w_store (cells' := [_, _, _, _]) rfl rfl rfl (by repeat (first | exact Pick.here _ _ _ | apply Pick.next)) cn_41 (by rfl) (by rfl) (by rfl) (by first | (refine .inl ?_; simp; done) | (refine .inr ?_; simp [keys]; done)) ?_
                        refine d_take 13 rfl (by kernel_rfl) (by kernel_rfl) (by kernel_rfl) rfl (p_assign rfl) ?_
                        refine draw_done (by kernel_rfl) ?_
                        exact ⟨⟨b27, b24⟩, _, trivial, (by repeat (first | exact Knows.nil | refine Knows.cons (by rfl) ?_)), (by repeat (first | exact Back.refl _ _ | refine Back.cons (by rfl) ?_)), (by repeat (first | exact Picks.nil _ | exact Pick.here _ _ _ | apply Pick.next | apply Picks.cons))⟩
                      exact all_nil
                    exact all_nil
                  exact all_nil
                exact all_nil
              exact all_nil
            refine all_cons rfl rfl ?_ ?_
            · skip
              refine w_alloc rfl z_41 fun b28 => ?_
              refine draw_all [1] (by kernel_rfl) (by simp) ?_
              refine all_cons rfl rfl ?_ ?_
              · skip
                refine w_callR rfl rfl rfl cl_27 (c_laws_toPort a hl0) ?_
                refine draw_all [3] (by kernel_rfl) (by simp) ?_
                refine all_cons rfl rfl ?_ ?_
                · skip
                  refine w_callR rfl rfl rfl cl_27 (c_laws_toPort b hl1) ?_
                  refine draw_all [4] (by kernel_rfl) (by simp) ?_
                  refine all_cons rfl rfl ?_ ?_
                  · skip
                    refine w_callR rfl rfl rfl cl_47 (cn_spec_LoopPorts a b hl0 hl1 hA) ?_
                    refine d_take 5 rfl (by kernel_rfl) (by kernel_rfl) (by kernel_rfl) rfl (p_move rfl) ?_
                    refine d_take 6 rfl (by kernel_rfl) (by kernel_rfl) (by kernel_rfl) rfl (p_extract rfl rfl) ?_
                    refine d_take 7 rfl (by kernel_rfl) (by kernel_rfl) (by kernel_rfl) rfl (p_extract rfl rfl) ?_
                    refine d_take 8 rfl (by kernel_rfl) (by kernel_rfl) (by kernel_rfl) rfl (p_extract rfl rfl) ?_
                    refine draw_all [11] (by kernel_rfl) (by simp) ?_
                    refine all_cons rfl rfl ?_ ?_
                    · skip
                      refine w_store (cells' := [_, _, _, _]) rfl rfl rfl (by repeat (first | exact Pick.here _ _ _ | apply Pick.next)) cn_41 (by rfl) (by rfl) (by rfl) (by first | (refine .inl ?_; simp; done) | (refine .inr ?_; simp [keys]; done)) ?_
                      refine draw_all [12] (by kernel_rfl) (by simp) ?_
                      refine all_cons rfl rfl ?_ ?_
                      · skip
                        refine w_store (cells' := [_, _, _, _]) rfl rfl rfl (by repeat (first | exact Pick.here _ _ _ | apply Pick.next)) cn_41 (by rfl) (by rfl) (by rfl) (by first | (refine .inl ?_; simp; done) | (refine .inr ?_; simp [keys]; done)) ?_
                        refine d_take 13 rfl (by kernel_rfl) (by kernel_rfl) (by kernel_rfl) rfl (p_assign rfl) ?_
                        refine draw_done (by kernel_rfl) ?_
                        exact ⟨⟨b28, b24⟩, _, trivial, (by repeat (first | exact Knows.nil | refine Knows.cons (by rfl) ?_)), (by repeat (first | exact Back.refl _ _ | refine Back.cons (by rfl) ?_)), (by repeat (first | exact Picks.nil _ | exact Pick.here _ _ _ | apply Pick.next | apply Picks.cons))⟩
                      exact all_nil
                    exact all_nil
                  exact all_nil
                exact all_nil
              exact all_nil
            exact all_nil
          exact all_nil
        · rintro ⟨q1, q2⟩ -
          refine a_seq ?_
          refine a_region ?_
          refine aops_cons rfl (w_pure rfl (p_load_v_all ag_38 rfl (by rfl) noX) ?_)
          refine aops_cons rfl (w_call rfl rfl rfl cl_27 (co_laws_toPort a hl0) ?_)
          rintro _ _ ⟨b29, b30, rfl, rfl⟩
          refine aops_cons rfl (w_alloc rfl z_41 fun b31 => ?_)
          refine aops_cons rfl (w_store (cells' := [_, _, _, _]) rfl rfl rfl (by repeat (first | exact Pick.here _ _ _ | apply Pick.next)) cn_41 (by rfl) (by rfl) (by rfl) trivial ?_)
          refine aops_nil ?_
          refine a_seq ?_
          refine a_region ?_
          refine aops_cons rfl (w_pure rfl (p_load_v_all ag_38 rfl (by rfl) noX) ?_)
          refine aops_cons rfl (w_call rfl rfl rfl cl_27 (co_laws_toPort b hl1) ?_)
          rintro _ _ ⟨b32, b33, rfl, rfl⟩
          refine aops_cons rfl (w_alloc rfl z_41 fun b34 => ?_)
          refine aops_cons rfl (w_store (cells' := [_, _, _, _]) rfl rfl rfl (by repeat (first | exact Pick.here _ _ _ | apply Pick.next)) cn_41 (by rfl) (by rfl) (by rfl) trivial ?_)
          refine aops_nil ?_
          refine a_seq ?_
          refine a_region ?_
          refine aops_cons rfl (w_pure rfl (p_load_box_all ag_41 rfl (by repeat (first | exact Pick.here _ _ _ | apply Pick.next)) (by rfl) noX) ?_)
          refine aops_cons rfl (w_pure rfl (p_load_box_all ag_41 rfl (by repeat (first | exact Pick.here _ _ _ | apply Pick.next)) (by rfl) noX) ?_)
          refine aops_cons rfl (w_callLR rfl rfl rfl cl_48 (.cons (.agg (.cons (.own (by repeat (first | exact List.Mem.head _ | apply List.Mem.tail)) (by first | (simp; done) | (simp [mkL]; done))) (.cons (.own (by repeat (first | exact List.Mem.head _ | apply List.Mem.tail)) (by first | (simp; done) | (simp [mkL]; done))) (.cons (.refl _) (.cons (.refl _) .nil))))) (.cons (.agg (.cons (.own (by repeat (first | exact List.Mem.head _ | apply List.Mem.tail)) (by first | (simp; done) | (simp [mkL]; done))) (.cons (.own (by repeat (first | exact List.Mem.head _ | apply List.Mem.tail)) (by first | (simp; done) | (simp [mkL]; done))) (.cons (.refl _) (.cons (.refl _) .nil))))) .nil)) (cn_impl_LoopPorts a b hl0 hl1 hA) (closed_tup (all_cons' (closed_agg (all_cons' closed_nil (all_cons' closed_nil (all_cons' (closed_int _ _) (all_cons' (closed_bool _) all_nil'))))) (all_cons' (closed_agg (all_cons' closed_nil (all_cons' closed_nil (all_cons' (closed_int _ _) (all_cons' (closed_bool _) all_nil'))))) (all_cons' (closed_bool _) all_nil')))) ?_)
          refine aops_cons rfl (w_pure rfl (p_move rfl) ?_)
          refine aops_cons rfl (w_pure rfl (p_extract rfl rfl) ?_)
          refine aops_cons rfl (w_pure rfl (p_extract rfl rfl) ?_)
          refine aops_cons rfl (w_pure rfl (p_extract rfl rfl) ?_)
          refine aops_cons rfl (w_alloc rfl z_41 fun b35 => ?_)
          refine aops_cons rfl (w_alloc rfl z_41 fun b36 => ?_)
          refine aops_cons rfl (w_store (cells' := [_, _, _, _]) rfl rfl rfl (by repeat (first | exact Pick.here _ _ _ | apply Pick.next)) cn_41 (by rfl) (by rfl) (by rfl) trivial ?_)
          refine aops_cons rfl (w_store (cells' := [_, _, _, _]) rfl rfl rfl (by repeat (first | exact Pick.here _ _ _ | apply Pick.next)) cn_41 (by rfl) (by rfl) (by rfl) trivial ?_)
          refine aops_cons rfl (w_pure rfl (p_assign rfl) ?_)
          refine aops_nil ?_
          refine a_seq ?_
          refine a_seq ?_
          refine a_region ?_
          refine aops_cons rfl (w_pure rfl (p_load_box_all ag_41 rfl (by repeat (first | exact Pick.here _ _ _ | apply Pick.next)) (by rfl) noX) ?_)
          refine aops_cons rfl (w_pure rfl (p_load_box_all ag_41 rfl (by repeat (first | exact Pick.here _ _ _ | apply Pick.next)) (by rfl) noX) ?_)
          refine aops_cons rfl (w_callLR rfl rfl rfl cl_29 (.cons (.agg (.cons .nil (.cons .nil (.cons (.refl _) (.cons (.refl _) .nil))))) (.cons (.agg (.cons .nil (.cons .nil (.cons (.refl _) (.cons (.refl _) .nil))))) .nil)) (c_laws_eqPort (⟨[], [], 0, false⟩ : Port) (by first | decide | (simp; done) | exact ⟨by decide, by decide⟩)) (closed_bool _) ?_)
          refine aops_cons rfl (w_pure rfl (p_not rfl) ?_)
          refine aops_cons rfl (w_pure rfl (p_move rfl) ?_)
          refine aops_guard_t rfl rfl rfl (w_pure rfl (p_load_box_all ag_41 rfl (by repeat (first | exact Pick.here _ _ _ | apply Pick.next)) (by rfl) noX) ?_)
          refine aops_guard_t rfl rfl rfl (w_pure rfl (p_load_box_all ag_41 rfl (by repeat (first | exact Pick.here _ _ _ | apply Pick.next)) (by rfl) noX) ?_)
          refine aops_guard_t rfl rfl rfl (w_callLR rfl rfl rfl cl_29 (.cons (.agg (.cons .nil (.cons .nil (.cons (.refl _) (.cons (.refl _) .nil))))) (.cons (.agg (.cons .nil (.cons .nil (.cons (.refl _) (.cons (.refl _) .nil))))) .nil)) (c_laws_eqPort (⟨[], [], 0, false⟩ : Port) (by first | decide | (simp; done) | exact ⟨by decide, by decide⟩)) (closed_bool _) ?_)
          refine aops_guard_t rfl rfl rfl (w_pure rfl (p_not rfl) ?_)
          refine aops_cons rfl (w_pure rfl (p_pick_f rfl rfl) ?_)
          refine aops_cons rfl (w_pure rfl (p_move rfl) ?_)
          refine aops_guard_t rfl rfl rfl (w_pure rfl (p_move rfl) ?_)
          refine aops_guard_t rfl rfl rfl (w_pure rfl (p_move rfl) ?_)
          refine aops_guard_t rfl rfl rfl (w_pure rfl (p_neq_bsame um_4 rfl rfl) ?_)
          refine aops_cons rfl (w_pure rfl (p_pick_f rfl rfl) ?_)
          refine aops_nil ?_
          refine a_cond_f rfl ?_
          refine a_skip ?_
          refine a_seq ?_
          refine a_seq ?_
          refine a_draw [] (by kernel_rfl) ?_
          show ADraw _ _ _ _ _ _ 5 _ _ _ _
          refine d_load 0 rfl (by kernel_rfl) (by kernel_rfl) (by kernel_rfl) rfl (p_load_box_all ag_41 rfl (by repeat (first | exact Pick.here _ _ _ | apply Pick.next)) (by rfl) noX) ?_
          refine d_load 1 rfl (by kernel_rfl) (by kernel_rfl) (by kernel_rfl) rfl (p_load_v_all ag_38 rfl (by rfl) noX) ?_
          refine draw_all [2] (by kernel_rfl) (by simp) ?_
          refine all_cons rfl rfl ?_ ?_
          · skip
            refine w_callR rfl rfl rfl cl_27 (c_laws_toPort a hl0) ?_
            refine draw_all [3] (by kernel_rfl) (by simp) ?_
            refine all_cons rfl rfl ?_ ?_
            · skip
              refine w_callLR rfl rfl rfl cl_29 (.cons (.agg (.cons (.own (by repeat (first | exact List.Mem.head _ | apply List.Mem.tail)) (by first | (simp; done) | (simp [mkL]; done))) (.cons (.own (by repeat (first | exact List.Mem.head _ | apply List.Mem.tail)) (by first | (simp; done) | (simp [mkL]; done))) (.cons (.refl _) (.cons (.refl _) .nil))))) (.cons (.refl _) .nil)) (c_laws_eqPort a hl0) (closed_bool _) ?_
              refine d_take 4 rfl (by kernel_rfl) (by kernel_rfl) (by kernel_rfl) rfl (p_not rfl) ?_
              refine draw_done (by kernel_rfl) ?_
              refine a_cond_f rfl ?_
              refine a_skip ?_
              refine a_seq ?_
              refine a_seq ?_
              refine a_draw [] (by kernel_rfl) ?_
              show ADraw _ _ _ _ _ _ 5 _ _ _ _
              refine d_load 0 rfl (by kernel_rfl) (by kernel_rfl) (by kernel_rfl) rfl (p_load_box_all ag_41 rfl (by repeat (first | exact Pick.here _ _ _ | apply Pick.next)) (by rfl) noX) ?_
              refine d_load 1 rfl (by kernel_rfl) (by kernel_rfl) (by kernel_rfl) rfl (p_load_v_all ag_38 rfl (by rfl) noX) ?_
              refine draw_all [2] (by kernel_rfl) (by simp) ?_
              refine all_cons rfl rfl ?_ ?_
              · skip
                refine w_callR rfl rfl rfl cl_27 (c_laws_toPort b hl1) ?_
                refine draw_all [3] (by kernel_rfl) (by simp) ?_
                refine all_cons rfl rfl ?_ ?_
                · skip
                  refine w_callLR rfl rfl rfl cl_29 (.cons (.agg (.cons (.own (by repeat (first | exact List.Mem.head _ | apply List.Mem.tail)) (by first | (simp; done) | (simp [mkL]; done))) (.cons (.own (by repeat (first | exact List.Mem.head _ | apply List.Mem.tail)) (by first | (simp; done) | (simp [mkL]; done))) (.cons (.refl _) (.cons (.refl _) .nil))))) (.cons (.refl _) .nil)) (c_laws_eqPort b hl1) (closed_bool _) ?_
                  refine d_take 4 rfl (by kernel_rfl) (by kernel_rfl) (by kernel_rfl) rfl (p_not rfl) ?_
                  refine draw_done (by kernel_rfl) ?_
                  refine a_cond_f rfl ?_
                  refine a_skip ?_
                  refine a_seq ?_
                  refine a_region ?_
                  refine aops_cons rfl (w_pure rfl (p_assign rfl) ?_)
                  refine aops_nil ?_
                  refine a_seq ?_
                  refine a_region ?_
                  refine aops_cons rfl (w_pure rfl (p_load_box_all ag_41 rfl (by repeat (first | exact Pick.here _ _ _ | apply Pick.next)) (by rfl) noX) ?_)
                  refine aops_cons rfl (w_pure rfl (p_move rfl) ?_)
                  refine aops_cons rfl (w_callM rfl rfl rfl cl_36 (.cons (by repeat (first | exact Pick.here _ _ _ | apply Pick.next)) (.cons (by repeat (first | exact Pick.here _ _ _ | apply Pick.next)) (.nil _))) (.cons (.refl _) (.cons (.refl _) .nil)) (c_laws_markPort _ _ a hl0 _ (by first | omega | (simp; done) | (simp; omega)) (by first | omega | (simp; done) | (simp; omega))) trivial ?_)
                  rintro _ _ ⟨rfl, rfl⟩
                  refine ⟨(closed_int _ _), (closedS_cons (closedAll _ _ _ _ cl_eInt) (closedS_cons (closedAll _ _ _ _ cl_eInt) closedS_nil)), ?_⟩
                  refine aops_cons rfl (w_pure rfl (p_assign rfl) ?_)
                  refine aops_nil ?_
                  refine a_seq ?_
                  refine a_region ?_
                  refine aops_cons rfl (w_pure rfl (p_load_box_all ag_41 rfl (by repeat (first | exact Pick.here _ _ _ | apply Pick.next)) (by rfl) noX) ?_)
                  refine aops_cons rfl (w_pure rfl (p_move rfl) ?_)
                  refine aops_cons rfl (w_callM rfl rfl rfl cl_36 (.cons (by repeat (first | exact Pick.here _ _ _ | apply Pick.next)) (.cons (by repeat (first | exact Pick.here _ _ _ | apply Pick.next)) (.nil _))) (.cons (.refl _) (.cons (.refl _) .nil)) (c_laws_markPort _ _ b hl1 _ (by first | omega | (simp; done) | (simp; omega)) (by first | omega | (simp; done) | (simp; omega))) trivial ?_)
                  rintro _ _ ⟨rfl, rfl⟩
                  refine ⟨(closed_int _ _), (closedS_cons (closedAll _ _ _ _ cl_eInt) (closedS_cons (closedAll _ _ _ _ cl_eInt) closedS_nil)), ?_⟩
                  refine aops_cons rfl (w_pure rfl (p_assign rfl) ?_)
                  refine aops_nil ?_
                  refine a_seq ?_
                  refine a_seq ?_
                  refine a_region ?_
                  refine aops_cons rfl (w_pure rfl (p_move rfl) ?_)
                  refine aops_cons rfl (w_pure rfl (p_lss rfl rfl) ?_)
                  refine aops_cons rfl (w_pure rfl (p_move rfl) ?_)
                  first | refine aops_split_d 83 rfl (fun h5 => ?_) (fun h6 => ?_) | refine aops_split 83 rfl (fun h5 => ?_) (fun h6 => ?_)
                  · (try simp only [Bool.not_eq_true', Bool.not_eq_false', Bool.not_eq_true, Bool.not_eq_false, decide_eq_true_eq, decide_eq_false_iff_not, List.length_map, List.length_range] at h5)
                    refine g_pass' rfl rfl rfl rfl rfl ?_
                    refine g_pass' rfl rfl rfl rfl rfl ?_
                    refine g_pass' rfl rfl rfl rfl rfl ?_
                    refine g_pass' rfl rfl rfl rfl rfl ?_
                    refine aops_cons rfl (w_pure rfl (p_pick_t rfl rfl) ?_)
                    refine aops_cons rfl (w_pure rfl (p_move rfl) ?_)
                    refine g_pass' rfl rfl rfl rfl rfl ?_
                    refine g_pass' rfl rfl rfl rfl rfl ?_
                    refine g_pass' rfl rfl rfl rfl rfl ?_
                    refine g_pass' rfl rfl rfl rfl rfl ?_
                    refine aops_cons rfl (w_pure rfl (p_pick_t rfl rfl) ?_)
                    refine aops_cons rfl (w_pure rfl (p_move rfl) ?_)
                    refine g_pass' rfl rfl rfl rfl rfl ?_
                    refine g_pass' rfl rfl rfl rfl rfl ?_
                    refine g_pass' rfl rfl rfl rfl rfl ?_
                    refine aops_cons rfl (w_pure rfl (p_pick_t rfl rfl) ?_)
                    refine aops_nil ?_
                    refine a_cond_t rfl ?_
                    refine a_seq ?_
                    refine a_region ?_
                    refine aops_cons rfl (w_pure rfl (p_assign rfl) ?_)
                    refine aops_nil ?_
                    refine a_ret ?_
                    refine ret_ok (hands1 rfl (.tmp rfl)) (.nil _) ?_
                    first | exact ⟨rfl, rfl⟩ | (exfalso; omega)
                  · (try simp only [Bool.not_eq_true', Bool.not_eq_false', Bool.not_eq_true, Bool.not_eq_false, decide_eq_true_eq, decide_eq_false_iff_not, List.length_map, List.length_range] at h6)
                    refine aops_guard_t rfl rfl rfl (w_pure rfl (p_load_box_all ag_41 rfl (by repeat (first | exact Pick.here _ _ _ | apply Pick.next)) (by rfl) noX) ?_)
                    refine aops_guard_t rfl rfl rfl (w_pure rfl (p_load_box_all ag_41 rfl (by repeat (first | exact Pick.here _ _ _ | apply Pick.next)) (by rfl) noX) ?_)
                    refine aops_guard_t rfl rfl rfl (w_callLR rfl rfl rfl cl_29 (.cons (.agg (.cons .nil (.cons .nil (.cons (.refl _) (.cons (.refl _) .nil))))) (.cons (.agg (.cons .nil (.cons .nil (.cons (.refl _) (.cons (.refl _) .nil))))) .nil)) (c_laws_eqPort (⟨[], [], 0, false⟩ : Port) (by first | decide | (simp; done) | exact ⟨by decide, by decide⟩)) (closed_bool _) ?_)
                    refine aops_guard_t rfl rfl rfl (w_pure rfl (p_not rfl) ?_)
                    refine aops_cons rfl (w_pure rfl (p_pick_f rfl rfl) ?_)
                    refine aops_cons rfl (w_pure rfl (p_move rfl) ?_)
                    refine aops_guard_t rfl rfl rfl (w_pure rfl (p_load_box_all ag_41 rfl (by repeat (first | exact Pick.here _ _ _ | apply Pick.next)) (by rfl) noX) ?_)
                    refine aops_guard_t rfl rfl rfl (w_pure rfl (p_load_box_all ag_41 rfl (by repeat (first | exact Pick.here _ _ _ | apply Pick.next)) (by rfl) noX) ?_)
                    refine aops_guard_t rfl rfl rfl (w_callLR rfl rfl rfl cl_29 (.cons (.agg (.cons .nil (.cons .nil (.cons (.refl _) (.cons (.refl _) .nil))))) (.cons (.agg (.cons .nil (.cons .nil (.cons (.refl _) (.cons (.refl _) .nil))))) .nil)) (c_laws_eqPort (⟨[], [], 0, false⟩ : Port) (by first | decide | (simp; done) | exact ⟨by decide, by decide⟩)) (closed_bool _) ?_)
                    refine aops_guard_t rfl rfl rfl (w_pure rfl (p_not rfl) ?_)
                    refine aops_cons rfl (w_pure rfl (p_pick_f rfl rfl) ?_)
                    refine aops_cons rfl (w_pure rfl (p_move rfl) ?_)
                    refine aops_guard_t rfl rfl rfl (w_pure rfl (p_move rfl) ?_)
                    refine aops_guard_t rfl rfl rfl (w_pure rfl (p_move rfl) ?_)
                    refine aops_guard_t rfl rfl rfl (w_pure rfl (p_neq_bsame um_4 rfl rfl) ?_)
                    refine aops_cons rfl (w_pure rfl (p_pick_f rfl rfl) ?_)
                    refine aops_nil ?_
                    refine a_cond_f rfl ?_
                    refine a_skip ?_
                    refine a_seq ?_
                    refine a_region ?_
                    refine aops_cons rfl (w_pure rfl (p_assign rfl) ?_)
                    refine aops_nil ?_
                    refine a_seq ?_
                    refine a_region ?_
                    refine aops_cons rfl (w_pure rfl (p_load_box_all ag_41 rfl (by repeat (first | exact Pick.here _ _ _ | apply Pick.next)) (by rfl) noX) ?_)
                    refine aops_cons rfl (w_pure rfl (p_move rfl) ?_)
                    refine aops_cons rfl (w_callR rfl rfl rfl cl_36 (cn_laws_markPort ..) ?_)
                    refine aops_cons rfl (w_pure rfl (p_assign rfl) ?_)
                    refine aops_nil ?_
                    refine a_seq ?_
                    refine a_region ?_
                    refine aops_cons rfl (w_pure rfl (p_load_box_all ag_41 rfl (by repeat (first | exact Pick.here _ _ _ | apply Pick.next)) (by rfl) noX) ?_)
                    refine aops_cons rfl (w_pure rfl (p_move rfl) ?_)
                    refine aops_cons rfl (w_callR rfl rfl rfl cl_36 (cn_laws_markPort ..) ?_)
                    refine aops_cons rfl (w_pure rfl (p_assign rfl) ?_)
                    refine aops_nil ?_
                    refine a_seq ?_
                    refine a_region ?_
                    refine aops_cons rfl (w_pure rfl (p_assign rfl) ?_)
                    refine aops_nil ?_
                    refine a_seq ?_
                    refine a_region ?_
                    refine aops_cons rfl (w_pure rfl (p_load_box_all ag_41 rfl (by repeat (first | exact Pick.here _ _ _ | apply Pick.next)) (by rfl) noX) ?_)
                    refine aops_cons rfl (w_pure rfl (p_move rfl) ?_)
                    refine aops_cons rfl (w_callLR rfl rfl rfl cl_37 (.cons (.agg (.cons .nil (.cons .nil (.cons (.refl _) (.cons (.refl _) .nil))))) (.cons (.refl _) .nil)) (c_laws_heldPort (⟨[], [], 0, false⟩ : Port) (by first | decide | (simp; done) | exact ⟨by decide, by decide⟩) _ (by first | omega | (simp; done) | (simp; omega)) (by first | omega | (simp; done) | (simp; omega))) (closed_int _ _) ?_)
                    refine aops_cons rfl (w_pure rfl (p_assign rfl) ?_)
                    refine aops_nil ?_
                    refine a_seq ?_
                    refine a_seq ?_
                    refine a_region ?_
                    refine aops_cons rfl (w_pure rfl (p_move rfl) ?_)
                    refine aops_cons rfl (w_pure rfl (p_lss rfl rfl) ?_)
                    refine aops_nil ?_
                    first | refine a_cond_d rfl (fun h7 => ?_) (fun h8 => ?_) | refine a_cond_n rfl (fun h7 => ?_) (fun h8 => ?_) | refine a_cond_nb rfl (fun h7 => ?_) (fun h8 => ?_) | refine a_cond rfl (fun h7 => ?_) (fun h8 => ?_)
                    · (try simp only [Bool.not_eq_true', Bool.not_eq_false', Bool.not_eq_true, Bool.not_eq_false, decide_eq_true_eq, decide_eq_false_iff_not, List.length_map, List.length_range] at h7)
                      refine a_seq ?_
                      refine a_region ?_
                      refine aops_cons rfl (w_pure rfl (p_assign rfl) ?_)
                      refine aops_nil ?_
                      refine a_ret ?_
                      refine ret_ok (hands1 rfl (.tmp rfl)) (.nil _) ?_
                      first | exact ⟨rfl, rfl⟩ | (exfalso; omega)
                    · (try simp only [Bool.not_eq_true', Bool.not_eq_false', Bool.not_eq_true, Bool.not_eq_false, decide_eq_true_eq, decide_eq_false_iff_not, List.length_map, List.length_range] at h8)
                      refine a_skip ?_
                      refine a_seq ?_
                      refine a_region ?_
                      refine aops_cons rfl (w_pure rfl (p_load_box_all ag_41 rfl (by repeat (first | exact Pick.here _ _ _ | apply Pick.next)) (by rfl) noX) ?_)
                      refine aops_cons rfl (w_pure rfl (p_move rfl) ?_)
                      refine aops_cons rfl (w_callLR rfl rfl rfl cl_37 (.cons (.agg (.cons .nil (.cons .nil (.cons (.refl _) (.cons (.refl _) .nil))))) (.cons (.refl _) .nil)) (c_laws_heldPort (⟨[], [], 0, false⟩ : Port) (by first | decide | (simp; done) | exact ⟨by decide, by decide⟩) _ (by first | omega | (simp; done) | (simp; omega)) (by first | omega | (simp; done) | (simp; omega))) (closed_int _ _) ?_)
                      refine aops_cons rfl (w_pure rfl (p_assign rfl) ?_)
                      refine aops_nil ?_
                      refine a_seq ?_
                      refine a_seq ?_
                      refine a_region ?_
                      refine aops_cons rfl (w_pure rfl (p_move rfl) ?_)
                      refine aops_cons rfl (w_pure rfl (p_lss rfl rfl) ?_)
                      refine aops_nil ?_
                      first | refine a_cond_d rfl (fun h9 => ?_) (fun h10 => ?_) | refine a_cond_n rfl (fun h9 => ?_) (fun h10 => ?_) | refine a_cond_nb rfl (fun h9 => ?_) (fun h10 => ?_) | refine a_cond rfl (fun h9 => ?_) (fun h10 => ?_)
                      · (try simp only [Bool.not_eq_true', Bool.not_eq_false', Bool.not_eq_true, Bool.not_eq_false, decide_eq_true_eq, decide_eq_false_iff_not, List.length_map, List.length_range] at h9)
                        refine a_seq ?_
                        refine a_region ?_
                        refine aops_cons rfl (w_pure rfl (p_assign rfl) ?_)
                        refine aops_nil ?_
                        refine a_ret ?_
                        refine ret_ok (hands1 rfl (.tmp rfl)) (.nil _) ?_
                        first | exact ⟨rfl, rfl⟩ | (exfalso; omega)
                      · (try simp only [Bool.not_eq_true', Bool.not_eq_false', Bool.not_eq_true, Bool.not_eq_false, decide_eq_true_eq, decide_eq_false_iff_not, List.length_map, List.length_range] at h10)
                        refine a_skip ?_
                        refine a_seq ?_
                        refine a_seq ?_
                        refine a_region ?_
                        refine aops_cons rfl (w_pure rfl (p_move rfl) ?_)
                        refine aops_cons rfl (w_pure rfl (p_move rfl) ?_)
                        refine aops_cons rfl (w_pure rfl (p_neq_same rfl rfl) ?_)
                        refine aops_nil ?_
                        refine a_cond_f rfl ?_
                        refine a_skip ?_
                        refine a_seq_join (ι := Nat × Nat) (fun ⟨q1, q2⟩ => True) (fun ⟨q1, q2⟩ => [(17, .ptr q1 0), (18, .ptr q2 0), (19, .bool false)]) (fun ⟨q1, q2⟩ => [(q1, .box [.nil, .nil, .int .i64 0, .bool false]), (q2, .box [.nil, .nil, .int .i64 0, .bool false])]) (old := []) (by repeat (first | exact Picks.nil _ | exact Pick.here _ _ _ | apply Pick.next | apply Picks.cons)) ?_ ?_
                        · skip
                          refine a_draw [] (by kernel_rfl) ?_
                          show ADraw _ _ _ _ _ _ 14 _ _ _ _
                          refine d_load 0 rfl (by kernel_rfl) (by kernel_rfl) (by kernel_rfl) rfl (p_load_v_all ag_38 rfl (by rfl) noX) ?_
                          refine d_load 2 rfl (by kernel_rfl) (by kernel_rfl) (by kernel_rfl) rfl (p_load_v_all ag_38 rfl (by rfl) noX) ?_
                          refine draw_all [1, 9, 10] (by kernel_rfl) (by simp) ?_
                          refine all_cons rfl rfl ?_ ?_
                          · skip
                            refine w_callR rfl rfl rfl cl_27 (c_laws_toPort a hl0) ?_
                            refine draw_all [3, 9, 10] (by kernel_rfl) (by simp) ?_
                            refine all_cons rfl rfl ?_ ?_
                            · skip
                              refine w_callR rfl rfl rfl cl_27 (c_laws_toPort b hl1) ?_
                              refine draw_all [4, 9, 10] (by kernel_rfl) (by simp) ?_
                              refine all_cons rfl rfl ?_ ?_
                              · skip
                                refine w_callR rfl rfl rfl cl_48 (cn_impl_LoopPorts a b hl0 hl1 hA) ?_
                                refine d_take 5 rfl (by kernel_rfl) (by kernel_rfl) (by kernel_rfl) rfl (p_move rfl) ?_
                                refine d_take 6 rfl (by kernel_rfl) (by kernel_rfl) (by kernel_rfl) rfl (p_extract rfl rfl) ?_
                                refine d_take 7 rfl (by kernel_rfl) (by kernel_rfl) (by kernel_rfl) rfl (p_extract rfl rfl) ?_
                                refine d_take 8 rfl (by kernel_rfl) (by kernel_rfl) (by kernel_rfl) rfl (p_extract rfl rfl) ?_
                                refine draw_all [9, 10] (by kernel_rfl) (by simp) ?_
                                refine all_cons rfl rfl ?_ ?_
                                · skip
                                  refine w_alloc rfl z_41 fun b37 => ?_
                                  refine draw_all [10] (by kernel_rfl) (by simp) ?_
                                  refine all_cons rfl rfl ?_ ?_
                                  · skip
                                    refine w_alloc rfl z_41 fun b38 => ?_
                                    refine draw_all [11] (by kernel_rfl) (by simp) ?_
                                    refine all_cons rfl rfl ?_ ?_
                                    · skip
                                      refine w_store (cells' := [_, _, _, _]) rfl rfl rfl (by repeat (first | exact Pick.here _ _ _ | apply Pick.next)) cn_41 (by rfl) (by rfl) (by rfl) (by first | (refine .inl ?_; simp; done) | (refine .inr ?_; simp [keys]; done)) ?_
                                      refine draw_all [12] (by kernel_rfl) (by simp) ?_
                                      refine all_cons rfl rfl ?_ ?_
                                      · skip
                                        refine w_store (cells' := [_, _, _, _]) rfl rfl rfl (by repeat (first | exact Pick.here _ _ _ | apply Pick.next)) cn_41 (by rfl) (by rfl) (by rfl) (by first | (refine .inl ?_; simp; done) | (refine .inr ?_; simp [keys]; done)) ?_
                                        refine d_take 13 rfl (by kernel_rfl) (by kernel_rfl) (by kernel_rfl) rfl (p_assign rfl) ?_
                                        refine draw_done (by kernel_rfl) ?_
                                        exact ⟨⟨b37, b38⟩, _, trivial, (by repeat (first | exact Knows.nil | refine Knows.cons (by rfl) ?_)), (by repeat (first | exact Back.refl _ _ | refine Back.cons (by rfl) ?_)), (by repeat (first | exact Picks.nil _ | exact Pick.here _ _ _ | apply Pick.next | apply Picks.cons))⟩
                                      exact all_nil
                                    exact all_nil
                                  exact all_nil
                                refine all_cons rfl rfl ?_ ?_
                                · skip
                                  refine w_alloc rfl z_41 fun b39 => ?_
                                  refine draw_all [9] (by kernel_rfl) (by simp) ?_
                                  refine all_cons rfl rfl ?_ ?_
                                  · skip
                                    refine w_alloc rfl z_41 fun b40 => ?_
                                    refine draw_all [11] (by kernel_rfl) (by simp) ?_
                                    refine all_cons rfl rfl ?_ ?_
                                    · skip
                                      refine w_store (cells' := [_, _, _, _]) rfl rfl rfl (by repeat (first | exact Pick.here _ _ _ | apply Pick.next)) cn_41 (by rfl) (by rfl) (by rfl) (by first | (refine .inl ?_; simp; done) | (refine .inr ?_; simp [keys]; done)) ?_
                                      refine draw_all [12] (by kernel_rfl) (by simp) ?_
                                      refine all_cons rfl rfl ?_ ?_
                                      · skip
                                        refine w_store (cells' := [_, _, _, _]) rfl rfl rfl (by repeat (first | exact Pick.here _ _ _ | apply Pick.next)) cn_41 (by rfl) (by rfl) (by rfl) (by first | (refine .inl ?_; simp; done) | (refine .inr ?_; simp [keys]; done)) ?_
                                        refine d_take 13 rfl (by kernel_rfl) (by kernel_rfl) (by kernel_rfl) rfl (p_assign rfl) ?_
                                        refine draw_done (by kernel_rfl) ?_
                                        exact ⟨⟨b40, b39⟩, _, trivial, (by repeat (first | exact Knows.nil | refine Knows.cons (by rfl) ?_)), (by repeat (first | exact Back.refl _ _ | refine Back.cons (by rfl) ?_)), (by repeat (first | exact Picks.nil _ | exact Pick.here _ _ _ | apply Pick.next | apply Picks.cons))⟩
                                      exact all_nil
                                    exact all_nil
                                  exact all_nil
                                exact all_nil
                              refine all_cons rfl rfl ?_ ?_
                              · skip
                                refine w_alloc rfl z_41 fun b41 => ?_
                                refine draw_all [4, 10] (by kernel_rfl) (by simp) ?_
                                refine all_cons rfl rfl ?_ ?_
                                · skip
                                  refine w_callR rfl rfl rfl cl_48 (cn_impl_LoopPorts a b hl0 hl1 hA) ?_
                                  refine d_take 5 rfl (by kernel_rfl) (by kernel_rfl) (by kernel_rfl) rfl (p_move rfl) ?_
                                  refine d_take 6 rfl (by kernel_rfl) (by kernel_rfl) (by kernel_rfl) rfl (p_extract rfl rfl) ?_
                                  refine d_take 7 rfl (by kernel_rfl) (by kernel_rfl) (by kernel_rfl) rfl (p_extract rfl rfl) ?_
                                  refine d_take 8 rfl (by kernel_rfl) (by kernel_rfl) (by kernel_rfl) rfl (p_extract rfl rfl) ?_
                                  refine draw_all [10] (by kernel_rfl) (by simp) ?_
                                  refine all_cons rfl rfl ?_ ?_
                                  · skip
                                    refine w_alloc rfl z_41 fun b42 => ?_
                                    refine draw_all [11] (by kernel_rfl) (by simp) ?_
                                    refine all_cons rfl rfl ?_ ?_
                                    · skip
                                      refine w_store (cells' := [_, _, _, _]) rfl rfl rfl (by repeat (first | exact Pick.here _ _ _ | apply Pick.next)) cn_41 (by rfl) (by rfl) (by rfl) (by first | (refine .inl ?_; simp; done) | (refine .inr ?_; simp [keys]; done)) ?_
                                      refine draw_all [12] (by kernel_rfl) (by simp) ?_
                                      refine all_cons rfl rfl ?_ ?_
                                      · skip
                                        refine w_store (cells' := [_, _, _, _]) rfl rfl rfl (by repeat (first | exact Pick.here _ _ _ | apply Pick.next)) cn_41 (by rfl) (by rfl) (by rfl) (by first | (refine .inl ?_; simp; done) | (refine .inr ?_; simp [keys]; done)) ?_
                                        refine d_take 13 rfl (by kernel_rfl) (by kernel_rfl) (by kernel_rfl) rfl (p_assign rfl) ?_
                                        refine draw_done (by kernel_rfl) ?_
                                        exact ⟨⟨b41, b42⟩, _, trivial, (by repeat (first | exact Knows.nil | refine Knows.cons (by rfl) ?_)), (by repeat (first | exact Back.refl _ _ | refine Back.cons (by rfl) ?_)), (by repeat (first | exact Picks.nil _ | exact Pick.here _ _ _ | apply Pick.next | apply Picks.cons))⟩
                                      exact all_nil
                                    exact all_nil
                                  exact all_nil
                                refine all_cons rfl rfl ?_ ?_
                                · skip
                                  refine w_alloc rfl z_41 fun b43 => ?_
                                  refine draw_all [4] (by kernel_rfl) (by simp) ?_
                                  refine all_cons rfl rfl ?_ ?_
                                  · skip
                                    refine w_callR rfl rfl rfl cl_48 (cn_impl_LoopPorts a b hl0 hl1 hA) ?_
                                    refine d_take 5 rfl (by kernel_rfl) (by kernel_rfl) (by kernel_rfl) rfl (p_move rfl) ?_
                                    refine d_take 6 rfl (by kernel_rfl) (by kernel_rfl) (by kernel_rfl) rfl (p_extract rfl rfl) ?_
                                    refine d_take 7 rfl (by kernel_rfl) (by kernel_rfl) (by kernel_rfl) rfl (p_extract rfl rfl) ?_
                                    refine d_take 8 rfl (by kernel_rfl) (by kernel_rfl) (by kernel_rfl) rfl (p_extract rfl rfl) ?_
                                    refine draw_all [11] (by kernel_rfl) (by simp) ?_
                                    refine all_cons rfl rfl ?_ ?_
                                    · skip
                                      refine w_store (cells' := [_, _, _, _]) rfl rfl rfl (by repeat (first | exact Pick.here _ _ _ | apply Pick.next)) cn_41 (by rfl) (by rfl) (by rfl) (by first | (refine .inl ?_; simp; done) | (refine .inr ?_; simp [keys]; done)) ?_
                                      refine draw_all [12] (by kernel_rfl) (by simp) ?_
                                      refine all_cons rfl rfl ?_ ?_
                                      · skip
                                        refine w_store (cells' := [_, _, _, _]) rfl rfl rfl (by repeat (first | exact Pick.here _ _ _ | apply Pick.next)) cn_41 (by rfl) (by rfl) (by rfl) (by first | (refine .inl ?_; simp; done) | (refine .inr ?_; simp [keys]; done)) ?_
                                        refine d_take 13 rfl (by kernel_rfl) (by kernel_rfl) (by kernel_rfl) rfl (p_assign rfl) ?_
                                        refine draw_done (by kernel_rfl) ?_
                                        exact ⟨⟨b41, b43⟩, _, trivial, (by repeat (first | exact Knows.nil | refine Knows.cons (by rfl) ?_)), (by repeat (first | exact Back.refl _ _ | refine Back.cons (by rfl) ?_)), (by repeat (first | exact Picks.nil _ | exact Pick.here _ _ _ | apply Pick.next | apply Picks.cons))⟩
                                      exact all_nil
                                    exact all_nil
                                  exact all_nil
                                exact all_nil
                              refine all_cons rfl rfl ?_ ?_
                              · skip
                                refine w_alloc rfl z_41 fun b44 => ?_
                                refine draw_all [4, 9] (by kernel_rfl) (by simp) ?_
                                refine all_cons rfl rfl ?_ ?_
                                · skip
                                  refine w_callR rfl rfl rfl cl_48 (cn_impl_LoopPorts a b hl0 hl1 hA) ?_
                                  refine d_take 5 rfl (by kernel_rfl) (by kernel_rfl) (by kernel_rfl) rfl (p_move rfl) ?_
                                  refine d_take 6 rfl (by kernel_rfl) (by kernel_rfl) (by kernel_rfl) rfl (p_extract rfl rfl) ?_
                                  refine d_take 7 rfl (by kernel_rfl) (by kernel_rfl) (by kernel_rfl) rfl (p_extract rfl rfl) ?_
                                  refine d_take 8 rfl (by kernel_rfl) (by kernel_rfl) (by kernel_rfl) rfl (p_extract rfl rfl) ?_
                                  refine draw_all [9] (by kernel_rfl) (by simp) ?_
                                  refine all_cons rfl rfl ?_ ?_
                                  · skip
                                    refine w_alloc rfl z_41 fun b45 => ?_
                                    refine draw_all [11] (by kernel_rfl) (by simp) ?_
                                    refine all_cons rfl rfl ?_ ?_
                                    · skip
                                      refine w_store (cells' := [_, _, _, _]) rfl rfl rfl (by repeat (first | exact Pick.here _ _ _ | apply Pick.next)) cn_41 (by rfl) (by rfl) (by rfl) (by first | (refine .inl ?_; simp; done) | (refine .inr ?_; simp [keys]; done)) ?_
                                      refine draw_all [12] (by kernel_rfl) (by simp) ?_
                                      refine all_cons rfl rfl ?_ ?_
                                      · skip
                                        refine w_store (cells' := [_, _, _, _]) rfl rfl rfl (by repeat (first | exact Pick.here _ _ _ | apply Pick.next)) cn_41 (by rfl) (by rfl) (by rfl) (by first | (refine .inl ?_; simp; done) | (refine .inr ?_; simp [keys]; done)) ?_
                                        refine d_take 13 rfl (by kernel_rfl) (by kernel_rfl) (by kernel_rfl) rfl (p_assign rfl) ?_
                                        refine draw_done (by kernel_rfl) ?_
                                        exact ⟨⟨b45, b44⟩, _, trivial, (by repeat (first | exact Knows.nil | refine Knows.cons (by rfl) ?_)), (by repeat (first | exact Back.refl _ _ | refine Back.cons (by rfl) ?_)), (by repeat (first | exact Picks.nil _ | exact Pick.here _ _ _ | apply Pick.next | apply Picks.cons))⟩
                                      exact all_nil
                                    exact all_nil
                                  exact all_nil
                                refine all_cons rfl rfl ?_ ?_
                                · skip
                                  refine w_alloc rfl z_41 fun b46 => ?_
                                  refine draw_all [4] (by kernel_rfl) (by simp) ?_
                                  refine all_cons rfl rfl ?_ ?_
                                  · skip
                                    refine w_callR rfl rfl rfl cl_48 (cn_impl_LoopPorts a b hl0 hl1 hA) ?_
                                    refine d_take 5 rfl (by kernel_rfl) (by kernel_rfl) (by kernel_rfl) rfl (p_move rfl) ?_
                                    refine d_take 6 rfl (by kernel_rfl) (by kernel_rfl) (by kernel_rfl) rfl (p_extract rfl rfl) ?_
                                    refine d_take 7 rfl (by kernel_rfl) (by kernel_rfl) (by kernel_rfl) rfl (p_extract rfl rfl) ?_
                                    refine d_take 8 rfl (by kernel_rfl) (by kernel_rfl) (by kernel_rfl) rfl (p_extract rfl rfl) ?_
                                    refine draw_all [11] (by kernel_rfl) (by simp) ?_
                                    refine all_cons rfl rfl ?_ ?_
                                    · skip
                                      refine w_store (cells' := [_, _, _, _]) rfl rfl rfl (by repeat (first | exact Pick.here _ _ _ | apply Pick.next)) cn_41 (by rfl) (by rfl) (by rfl) (by first | (refine .inl ?_; simp; done) | (refine .inr ?_; simp [keys]; done)) ?_
                                      refine draw_all [12] (by kernel_rfl) (by simp) ?_
                                      refine all_cons rfl rfl ?_ ?_
                                      · skip
                                        refine w_store (cells' := [_, _, _, _]) rfl rfl rfl (by repeat (first | exact Pick.here _ _ _ | apply Pick.next)) cn_41 (by rfl) (by rfl) (by rfl) (by first | (refine .inl ?_; simp; done) | (refine .inr ?_; simp [keys]; done)) ?_
                                        refine d_take 13 rfl (by kernel_rfl) (by kernel_rfl) (by kernel_rfl) rfl (p_assign rfl) ?_
                                        refine draw_done (by kernel_rfl) ?_
                                        exact ⟨⟨b46, b44⟩, _, trivial, (by repeat (first | exact Knows.nil | refine Knows.cons (by rfl) ?_)), (by repeat (first | exact Back.refl _ _ | refine Back.cons (by rfl) ?_)), (by repeat (first | exact Picks.nil _ | exact Pick.here _ _ _ | apply Pick.next | apply Picks.cons))⟩
                                      exact all_nil
                                    exact all_nil
                                  exact all_nil
                                exact all_nil
                              exact all_nil
                            refine all_cons rfl rfl ?_ ?_
                            · skip
                              refine w_alloc rfl z_41 fun b47 => ?_
                              refine draw_all [3, 10] (by kernel_rfl) (by simp) ?_
                              refine all_cons rfl rfl ?_ ?_
                              · skip
                                refine w_callR rfl rfl rfl cl_27 (c_laws_toPort b hl1) ?_
                                refine draw_all [4, 10] (by kernel_rfl) (by simp) ?_
                                refine all_cons rfl rfl ?_ ?_
                                · skip
                                  refine w_callR rfl rfl rfl cl_48 (cn_impl_LoopPorts a b hl0 hl1 hA) ?_
                                  refine d_take 5 rfl (by kernel_rfl) (by kernel_rfl) (by kernel_rfl) rfl (p_move rfl) ?_
                                  refine d_take 6 rfl (by kernel_rfl) (by kernel_rfl) (by kernel_rfl) rfl (p_extract rfl rfl) ?_
                                  refine d_take 7 rfl (by kernel_rfl) (by kernel_rfl) (by kernel_rfl) rfl (p_extract rfl rfl) ?_
                                  refine d_take 8 rfl (by kernel_rfl) (by kernel_rfl) (by kernel_rfl) rfl (p_extract rfl rfl) ?_
                                  refine draw_all [10] (by kernel_rfl) (by simp) ?_
                                  refine all_cons rfl rfl ?_ ?_
                                  · skip
                                    refine w_alloc rfl z_41 fun b48 => ?_
                                    refine draw_all [11] (by kernel_rfl) (by simp) ?_
                                    refine all_cons rfl rfl ?_ ?_
                                    · skip
                                      refine w_store (cells' := [_, _, _, _]) rfl rfl rfl (by repeat (first | exact Pick.here _ _ _ | apply Pick.next)) cn_41 (by rfl) (by rfl) (by rfl) (by first | (refine .inl ?_; simp; done) | (refine .inr ?_; simp [keys]; done)) ?_
                                      refine draw_all [12] (by kernel_rfl) (by simp) ?_
                                      refine all_cons rfl rfl ?_ ?_
                                      · skip
                                        refine w_store (cells' := [_, _, _, _]) rfl rfl rfl (by repeat (first | exact Pick.here _ _ _ | apply Pick.next)) cn_41 (by rfl) (by rfl) (by rfl) (by first | (refine .inl ?_; simp; done) | (refine .inr ?_; simp [keys]; done)) ?_
                                        refine d_take 13 rfl (by kernel_rfl) (by kernel_rfl) (by kernel_rfl) rfl (p_assign rfl) ?_
                                        refine draw_done (by kernel_rfl) ?_
                                        exact ⟨⟨b47, b48⟩, _, trivial, (by repeat (first | exact Knows.nil | refine Knows.cons (by rfl) ?_)), (by repeat (first | exact Back.refl _ _ | refine Back.cons (by rfl) ?_)), (by repeat (first | exact Picks.nil _ | exact Pick.here _ _ _ | apply Pick.next | apply Picks.cons))⟩
                                      exact all_nil
                                    exact all_nil
                                  exact all_nil
                                refine all_cons rfl rfl ?_ ?_
                                · skip
                                  refine w_alloc rfl z_41 fun b49 => ?_
                                  refine draw_all [4] (by kernel_rfl) (by simp) ?_
                                  refine all_cons rfl rfl ?_ ?_
                                  · skip
                                    refine w_callR rfl rfl rfl cl_48 (cn_impl_LoopPorts a b hl0 hl1 hA) ?_
                                    refine d_take 5 rfl (by kernel_rfl) (by kernel_rfl) (by kernel_rfl) rfl (p_move rfl) ?_
                                    refine d_take 6 rfl (by kernel_rfl) (by kernel_rfl) (by kernel_rfl) rfl (p_extract rfl rfl) ?_
                                    refine d_take 7 rfl (by kernel_rfl) (by kernel_rfl) (by kernel_rfl) rfl (p_extract rfl rfl) ?_
                                    refine d_take 8 rfl (by kernel_rfl) (by kernel_rfl) (by kernel_rfl) rfl (p_extract rfl rfl) ?_
                                    refine draw_all [11] (by kernel_rfl) (by simp) ?_
                                    refine all_cons rfl rfl ?_ ?_
                                    · skip
                                      refine w_store (cells' := [_, _, _, _]) rfl rfl rfl (by repeat (first | exact Pick.here _ _ _ | apply Pick.next)) cn_41 (by rfl) (by rfl) (by rfl) (by first | (refine .inl ?_; simp; done) | (refine .inr ?_; simp [keys]; done)) ?_
                                      refine draw_all [12] (by kernel_rfl) (by simp) ?_
                                      refine all_cons rfl rfl ?_ ?_
                                      · skip
                                        refine w_store (cells' := [_, _, _, _]) rfl rfl rfl (by repeat (first | exact Pick.here _ _ _ | apply Pick.next)) cn_41 (by rfl) (by rfl) (by rfl) (by first | (refine .inl ?_; simp; done) | (refine .inr ?_; simp [keys]; done)) ?_
                                        refine d_take 13 rfl (by kernel_rfl) (by kernel_rfl) (by kernel_rfl) rfl (p_assign rfl) ?_
                                        refine draw_done (by kernel_rfl) ?_
                                        exact ⟨⟨b47, b49⟩, _, trivial, (by repeat (first | exact Knows.nil | refine Knows.cons (by rfl) ?_)), (by repeat (first | exact Back.refl _ _ | refine Back.cons (by rfl) ?_)), (by repeat (first | exact Picks.nil _ | exact Pick.here _ _ _ | apply Pick.next | apply Picks.cons))⟩
                                      exact all_nil
                                    exact all_nil
                                  exact all_nil
                                exact all_nil
                              refine all_cons rfl rfl ?_ ?_
                              · skip
                                refine w_alloc rfl z_41 fun b50 => ?_
                                refine draw_all [3] (by kernel_rfl) (by simp) ?_
                                refine all_cons rfl rfl ?_ ?_
                                · skip
                                  refine w_callR rfl rfl rfl cl_27 (c_laws_toPort b hl1) ?_
                                  refine draw_all [4] (by kernel_rfl) (by simp) ?_
                                  refine all_cons rfl rfl ?_ ?_
                                  · skip
                                    refine w_callR rfl rfl rfl cl_48 (cn_impl_LoopPorts a b hl0 hl1 hA) ?_
                                    refine d_take 5 rfl (by kernel_rfl) (by kernel_rfl) (by kernel_rfl) rfl (p_move rfl) ?_
                                    refine d_take 6 rfl (by kernel_rfl) (by kernel_rfl) (by kernel_rfl) rfl (p_extract rfl rfl) ?_
                                    refine d_take 7 rfl (by kernel_rfl) (by kernel_rfl) (by kernel_rfl) rfl (p_extract rfl rfl) ?_
                                    refine d_take 8 rfl (by kernel_rfl) (by kernel_rfl) (by kernel_rfl) rfl (p_extract rfl rfl) ?_
                                    refine draw_all [11] (by kernel_rfl) (by simp) ?_
                                    refine all_cons rfl rfl ?_ ?_
                                    · skip
                                      refine w_store (cells' := [_, _, _, _]) rfl rfl rfl (by repeat (first | exact Pick.here _ _ _ | apply Pick.next)) cn_41 (by rfl) (by rfl) (by rfl) (by first | (refine .inl ?_; simp; done) | (refine .inr ?_; simp [keys]; done)) ?_
                                      refine draw_all [12] (by kernel_rfl) (by simp) ?_
                                      refine all_cons rfl rfl ?_ ?_
                                      · skip
                                        refine w_store (cells' := [_, _, _, _]) rfl rfl rfl (by repeat (first | exact Pick.here _ _ _ | apply Pick.next)) cn_41 (by rfl) (by rfl) (by rfl) (by first | (refine .inl ?_; simp; done) | (refine .inr ?_; simp [keys]; done)) ?_
                                        refine d_take 13 rfl (by kernel_rfl) (by kernel_rfl) (by kernel_rfl) rfl (p_assign rfl) ?_
                                        refine draw_done (by kernel_rfl) ?_
                                        exact ⟨⟨b47, b50⟩, _, trivial, (by repeat (first | exact Knows.nil | refine Knows.cons (by rfl) ?_)), (by repeat (first | exact Back.refl _ _ | refine Back.cons (by rfl) ?_)), (by repeat (first | exact Picks.nil _ | exact Pick.here _ _ _ | apply Pick.next | apply Picks.cons))⟩
                                      exact all_nil
                                    exact all_nil
                                  exact all_nil
                                exact all_nil
                              exact all_nil
                            refine all_cons rfl rfl ?_ ?_
                            · skip
                              refine w_alloc rfl z_41 fun b51 => ?_
                              refine draw_all [3, 9] (by kernel_rfl) (by simp) ?_
                              refine all_cons rfl rfl ?_ ?_
                              · skip
                                refine w_callR rfl rfl rfl cl_27 (c_laws_toPort b hl1) ?_
                                refine draw_all [4, 9] (by kernel_rfl) (by simp) ?_
                                refine all_cons rfl rfl ?_ ?_
                                · skip
                                  refine w_callR rfl rfl rfl cl_48 (cn_impl_LoopPorts a b hl0 hl1 hA) ?_
                                  refine d_take 5 rfl (by kernel_rfl) (by kernel_rfl) (by kernel_rfl) rfl (p_move rfl) ?_
                                  refine d_take 6 rfl (by kernel_rfl) (by kernel_rfl) (by kernel_rfl) rfl (p_extract rfl rfl) ?_
                                  refine d_take 7 rfl (by kernel_rfl) (by kernel_rfl) (by kernel_rfl) rfl (p_extract rfl rfl) ?_
                                  refine d_take 8 rfl (by kernel_rfl) (by kernel_rfl) (by kernel_rfl) rfl (p_extract rfl rfl) ?_
                                  refine draw_all [9] (by kernel_rfl) (by simp) ?_
                                  refine all_cons rfl rfl ?_ ?_
                                  · skip
                                    refine w_alloc rfl z_41 fun b52 => ?_
                                    refine draw_all [11] (by kernel_rfl) (by simp) ?_
                                    refine all_cons rfl rfl ?_ ?_
                                    · skip
                                      refine w_store (cells' := [_, _, _, _]) rfl rfl rfl (by repeat (first | exact Pick.here _ _ _ | apply Pick.next)) cn_41 (by rfl) (by rfl) (by rfl) (by first | (refine .inl ?_; simp; done) | (refine .inr ?_; simp [keys]; done)) ?_
                                      refine draw_all [12] (by kernel_rfl) (by simp) ?_
                                      refine all_cons rfl rfl ?_ ?_
                                      · skip
                                        refine w_store (cells' := [_, _, _, _]) rfl rfl rfl (by repeat (first | exact Pick.here _ _ _ | apply Pick.next)) cn_41 (by rfl) (by rfl) (by rfl) (by first | (refine .inl ?_; simp; done) | (refine .inr ?_; simp [keys]; done)) ?_
                                        refine d_take 13 rfl (by kernel_rfl) (by kernel_rfl) (by kernel_rfl) rfl (p_assign rfl) ?_
                                        refine draw_done (by kernel_rfl) ?_
                                        exact ⟨⟨b52, b51⟩, _, trivial, (by repeat (first | exact Knows.nil | refine Knows.cons (by rfl) ?_)), (by repeat (first | exact Back.refl _ _ | refine Back.cons (by rfl) ?_)), (by repeat (first | exact Picks.nil _ | exact Pick.here _ _ _ | apply Pick.next | apply Picks.cons))⟩
                                      exact all_nil
                                    exact all_nil
                                  exact all_nil
                                refine all_cons rfl rfl ?_ ?_
                                · skip
                                  refine w_alloc rfl z_41 fun b53 => ?_
                                  refine draw_all [4] (by kernel_rfl) (by simp) ?_
                                  refine all_cons rfl rfl ?_ ?_
                                  · skip
                                    refine w_callR rfl rfl rfl cl_48 (cn_impl_LoopPorts a b hl0 hl1 hA) ?_
                                    refine d_take 5 rfl (by kernel_rfl) (by kernel_rfl) (by kernel_rfl) rfl (p_move rfl) ?_
                                    refine d_take 6 rfl (by kernel_rfl) (by kernel_rfl) (by kernel_rfl) rfl (p_extract rfl rfl) ?_
                                    refine d_take 7 rfl (by kernel_rfl) (by kernel_rfl) (by kernel_rfl) rfl (p_extract rfl rfl) ?_
                                    refine d_take 8 rfl (by kernel_rfl) (by kernel_rfl) (by kernel_rfl) rfl (p_extract rfl rfl) ?_
                                    refine draw_all [11] (by kernel_rfl) (by simp) ?_
                                    refine all_cons rfl rfl ?_ ?_
                                    · skip
                                      refine w_store (cells' := [_, _, _, _]) rfl rfl rfl (by repeat (first | exact Pick.here _ _ _ | apply Pick.next)) cn_41 (by rfl) (by rfl) (by rfl) (by first | (refine .inl ?_; simp; done) | (refine .inr ?_; simp [keys]; done)) ?_
                                      refine draw_all [12] (by kernel_rfl) (by simp) ?_
                                      refine all_cons rfl rfl ?_ ?_
                                      · skip
                                        refine w_store (cells' := [_, _, _, _]) rfl rfl rfl (by repeat (first | exact Pick.here _ _ _ | apply Pick.next)) cn_41 (by rfl) (by rfl) (by rfl) (by first | (refine .inl ?_; simp; done) | (refine .inr ?_; simp [keys]; done)) ?_
                                        refine d_take 13 rfl (by kernel_rfl) (by kernel_rfl) (by kernel_rfl) rfl (p_assign rfl) ?_
                                        refine draw_done (by kernel_rfl) ?_
                                        exact ⟨⟨b53, b51⟩, _, trivial, (by repeat (first | exact Knows.nil | refine Knows.cons (by rfl) ?_)), (by repeat (first | exact Back.refl _ _ | refine Back.cons (by rfl) ?_)), (by repeat (first | exact Picks.nil _ | exact Pick.here _ _ _ | apply Pick.next | apply Picks.cons))⟩
                                      exact all_nil
                                    exact all_nil
                                  exact all_nil
                                exact all_nil
                              refine all_cons rfl rfl ?_ ?_
                              · skip
                                refine w_alloc rfl z_41 fun b54 => ?_
                                refine draw_all [3] (by kernel_rfl) (by simp) ?_
                                refine all_cons rfl rfl ?_ ?_
                                · skip
                                  refine w_callR rfl rfl rfl cl_27 (c_laws_toPort b hl1) ?_
                                  refine draw_all [4] (by kernel_rfl) (by simp) ?_
                                  refine all_cons rfl rfl ?_ ?_
                                  · skip
                                    refine w_callR rfl rfl rfl cl_48 (cn_impl_LoopPorts a b hl0 hl1 hA) ?_
                                    refine d_take 5 rfl (by kernel_rfl) (by kernel_rfl) (by kernel_rfl) rfl (p_move rfl) ?_
                                    refine d_take 6 rfl (by kernel_rfl) (by kernel_rfl) (by kernel_rfl) rfl (p_extract rfl rfl) ?_
                                    refine d_take 7 rfl (by kernel_rfl) (by kernel_rfl) (by kernel_rfl) rfl (p_extract rfl rfl) ?_
                                    refine d_take 8 rfl (by kernel_rfl) (by kernel_rfl) (by kernel_rfl) rfl (p_extract rfl rfl) ?_
                                    refine draw_all [11] (by kernel_rfl) (by simp) ?_
                                    refine all_cons rfl rfl ?_ ?_
                                    · skip
                                      refine w_store (cells' := [_, _, _, _]) rfl rfl rfl (by repeat (first | exact Pick.here _ _ _ | apply Pick.next)) cn_41 (by rfl) (by rfl) (by rfl) (by first | (refine .inl ?_; simp; done) | (refine .inr ?_; simp [keys]; done)) ?_
                                      refine draw_all [12] (by kernel_rfl) (by simp) ?_
                                      refine all_cons rfl rfl ?_ ?_
                                      · skip
                                        refine w_store (cells' := [_, _, _, _]) rfl rfl rfl (by repeat (first | exact Pick.here _ _ _ | apply Pick.next)) cn_41 (by rfl) (by rfl) (by rfl) (by first | (refine .inl ?_; simp; done) | (refine .inr ?_; simp [keys]; done)) ?_
                                        refine d_take 13 rfl (by kernel_rfl) (by kernel_rfl) (by kernel_rfl) rfl (p_assign rfl) ?_
                                        refine draw_done (by kernel_rfl) ?_
                                        exact ⟨⟨b54, b51⟩, _, trivial, (by repeat (first | exact Knows.nil | refine Knows.cons (by rfl) ?_)), (by repeat (first | exact Back.refl _ _ | refine Back.cons (by rfl) ?_)), (by repeat (first | exact Picks.nil _ | exact Pick.here _ _ _ | apply Pick.next | apply Picks.cons))⟩
                                      exact all_nil
                                    exact all_nil
                                  exact all_nil
                                exact all_nil
                              exact all_nil
                            exact all_nil
                          refine all_cons rfl rfl ?_ ?_
                          · skip
                            refine w_alloc rfl z_41 fun b55 => ?_
                            refine draw_all [1, 10] (by kernel_rfl) (by simp) ?_
                            refine all_cons rfl rfl ?_ ?_
                            · skip
                              refine w_callR rfl rfl rfl cl_27 (c_laws_toPort a hl0) ?_
                              refine draw_all [3, 10] (by kernel_rfl) (by simp) ?_
                              refine all_cons rfl rfl ?_ ?_
                              · skip
                                refine w_callR rfl rfl rfl cl_27 (c_laws_toPort b hl1) ?_
                                refine draw_all [4, 10] (by kernel_rfl) (by simp) ?_
                                refine all_cons rfl rfl ?_ ?_
                                · skip
                                  refine w_callR rfl rfl rfl cl_48 (cn_impl_LoopPorts a b hl0 hl1 hA) ?_
                                  refine d_take 5 rfl (by kernel_rfl) (by kernel_rfl) (by kernel_rfl) rfl (p_move rfl) ?_
                                  refine d_take 6 rfl (by kernel_rfl) (by kernel_rfl) (by kernel_rfl) rfl (p_extract rfl rfl) ?_
                                  refine d_take 7 rfl (by kernel_rfl) (by kernel_rfl) (by kernel_rfl) rfl (p_extract rfl rfl) ?_
                                  refine d_take 8 rfl (by kernel_rfl) (by kernel_rfl) (by kernel_rfl) rfl (p_extract rfl rfl) ?_
                                  refine draw_all [10] (by kernel_rfl) (by simp) ?_
                                  refine all_cons rfl rfl ?_ ?_
                                  · skip
                                    refine w_alloc rfl z_41 fun b56 => ?_
                                    refine draw_all [11] (by kernel_rfl) (by simp) ?_
                                    refine all_cons rfl rfl ?_ ?_
                                    · skip
                                      refine w_store (cells' := [_, _, _, _]) rfl rfl rfl (by repeat (first | exact Pick.here _ _ _ | apply Pick.next)) cn_41 (by rfl) (by rfl) (by rfl) (by first | (refine .inl ?_; simp; done) | (refine .inr ?_; simp [keys]; done)) ?_
                                      refine draw_all [12] (by kernel_rfl) (by simp) ?_
                                      refine all_cons rfl rfl ?_ ?_
                                      · skip
                                        refine w_store (cells' := [_, _, _, _]) rfl rfl rfl (by repeat (first | exact Pick.here _ _ _ | apply Pick.next)) cn_41 (by rfl) (by rfl) (by rfl) (by first | (refine .inl ?_; simp; done) | (refine .inr ?_; simp [keys]; done)) ?_
                                        refine d_take 13 rfl (by kernel_rfl) (by kernel_rfl) (by kernel_rfl) rfl (p_assign rfl) ?_
                                        refine draw_done (by kernel_rfl) ?_
                                        exact ⟨⟨b55, b56⟩, _, trivial, (by repeat (first | exact Knows.nil | refine Knows.cons (by rfl) ?_)), (by repeat (first | exact Back.refl _ _ | refine Back.cons (by rfl) ?_)), (by repeat (first | exact Picks.nil _ | exact Pick.here _ _ _ | apply Pick.next | apply Picks.cons))⟩
                                      exact all_nil
                                    exact all_nil
                                  exact all_nil
                                refine all_cons rfl rfl ?_ ?_
                                · skip
                                  refine w_alloc rfl z_41 fun b57 => ?_
                                  refine draw_all [4] (by kernel_rfl) (by simp) ?_
                                  refine all_cons rfl rfl ?_ ?_
                                  · skip
                                    refine w_callR rfl rfl rfl cl_48 (cn_impl_LoopPorts a b hl0 hl1 hA) ?_
                                    refine d_take 5 rfl (by kernel_rfl) (by kernel_rfl) (by kernel_rfl) rfl (p_move rfl) ?_
                                    refine d_take 6 rfl (by kernel_rfl) (by kernel_rfl) (by kernel_rfl) rfl (p_extract rfl rfl) ?_
                                    refine d_take 7 rfl (by kernel_rfl) (by kernel_rfl) (by kernel_rfl) rfl (p_extract rfl rfl) ?_
                                    refine d_take 8 rfl (by kernel_rfl) (by kernel_rfl) (by kernel_rfl) rfl (p_extract rfl rfl) ?_
                                    refine draw_all [11] (by kernel_rfl) (by simp) ?_
                                    refine all_cons rfl rfl ?_ ?_
                                    · skip
                                      refine w_store (cells' := [_, _, _, _]) rfl rfl rfl (by repeat (first | exact Pick.here _ _ _ | apply Pick.next)) cn_41 (by rfl) (by rfl) (by rfl) (by first | (refine .inl ?_; simp; done) | (refine .inr ?_; simp [keys]; done)) ?_
                                      refine draw_all [12] (by kernel_rfl) (by simp) ?_
                                      refine all_cons rfl rfl ?_ ?_
                                      · skip
                                        refine w_store (cells' := [_, _, _, _]) rfl rfl rfl (by repeat (first | exact Pick.here _ _ _ | apply Pick.next)) cn_41 (by rfl) (by rfl) (by rfl) (by first | (refine .inl ?_; simp; done) | (refine .inr ?_; simp [keys]; done)) ?_
                                        refine d_take 13 rfl (by kernel_rfl) (by kernel_rfl) (by kernel_rfl) rfl (p_assign rfl) ?_
                                        refine draw_done (by kernel_rfl) ?_
                                        exact ⟨⟨b55, b57⟩, _, trivial, (by repeat (first | exact Knows.nil | refine Knows.cons (by rfl) ?_)), (by repeat (first | exact Back.refl _ _ | refine Back.cons (by rfl) ?_)), (by repeat (first | exact Picks.nil _ | exact Pick.here _ _ _ | apply Pick.next | apply Picks.cons))⟩
                                      exact all_nil
                                    exact all_nil
                                  exact all_nil
                                exact all_nil
                              refine all_cons rfl rfl ?_ ?_
                              · skip
                                refine w_alloc rfl z_41 fun b58 => ?_
                                refine draw_all [3] (by kernel_rfl) (by simp) ?_
                                refine all_cons rfl rfl ?_ ?_
                                · skip
                                  refine w_callR rfl rfl rfl cl_27 (c_laws_toPort b hl1) ?_
                                  refine draw_all [4] (by kernel_rfl) (by simp) ?_
                                  refine all_cons rfl rfl ?_ ?_
                                  · skip
                                    refine w_callR rfl rfl rfl cl_48 (cn_impl_LoopPorts a b hl0 hl1 hA) ?_
                                    refine d_take 5 rfl (by kernel_rfl) (by kernel_rfl) (by kernel_rfl) rfl (p_move rfl) ?_
                                    refine d_take 6 rfl (by kernel_rfl) (by kernel_rfl) (by kernel_rfl) rfl (p_extract rfl rfl) ?_
                                    refine d_take 7 rfl (by kernel_rfl) (by kernel_rfl) (by kernel_rfl) rfl (p_extract rfl rfl) ?_
                                    refine d_take 8 rfl (by kernel_rfl) (by kernel_rfl) (by kernel_rfl) rfl (p_extract rfl rfl) ?_
                                    refine draw_all [11] (by kernel_rfl) (by simp) ?_
                                    refine all_cons rfl rfl ?_ ?_
                                    · skip
                                      refine w_store (cells' := [_, _, _, _]) rfl rfl rfl (by repeat (first | exact Pick.here _ _ _ | apply Pick.next)) cn_41 (by rfl) (by rfl) (by rfl) (by first | (refine .inl ?_; simp; done) | (refine .inr ?_; simp [keys]; done)) ?_
                                      refine draw_all [12] (by kernel_rfl) (by simp) ?_
                                      refine all_cons rfl rfl ?_ ?_
                                      · skip
                                        refine w_store (cells' := [_, _, _, _]) rfl rfl rfl (by repeat (first | exact Pick.here _ _ _ | apply Pick.next)) cn_41 (by rfl) (by rfl) (by rfl) (by first | (refine .inl ?_; simp; done) | (refine .inr ?_; simp [keys]; done)) ?_
                                        refine d_take 13 rfl (by kernel_rfl) (by kernel_rfl) (by kernel_rfl) rfl (p_assign rfl) ?_
                                        refine draw_done (by kernel_rfl) ?_
                                        exact ⟨⟨b55, b58⟩, _, trivial, (by repeat (first | exact Knows.nil | refine Knows.cons (by rfl) ?_)), (by repeat (first | exact Back.refl _ _ | refine Back.cons (by rfl) ?_)), (by repeat (first | exact Picks.nil _ | exact Pick.here _ _ _ | apply Pick.next | apply Picks.cons))⟩
                                      exact all_nil
                                    exact all_nil
                                  exact all_nil
                                exact all_nil
                              exact all_nil
                            refine all_cons rfl rfl ?_ ?_
                            · skip
                              refine w_alloc rfl z_41 fun b59 => ?_
                              refine draw_all [1] (by kernel_rfl) (by simp) ?_
                              refine all_cons rfl rfl ?_ ?_
                              · skip
                                refine w_callR rfl rfl rfl cl_27 (c_laws_toPort a hl0) ?_
                                refine draw_all [3] (by kernel_rfl) (by simp) ?_
                                refine all_cons rfl rfl ?_ ?_
                                · skip
                                  refine w_callR rfl rfl rfl cl_27 (c_laws_toPort b hl1) ?_
                                  refine draw_all [4] (by kernel_rfl) (by simp) ?_
                                  refine all_cons rfl rfl ?_ ?_
                                  · skip
                                    refine w_callR rfl rfl rfl cl_48 (cn_impl_LoopPorts a b hl0 hl1 hA) ?_
                                    refine d_take 5 rfl (by kernel_rfl) (by kernel_rfl) (by kernel_rfl) rfl (p_move rfl) ?_
                                    refine d_take 6 rfl (by kernel_rfl) (by kernel_rfl) (by kernel_rfl) rfl (p_extract rfl rfl) ?_
                                    refine d_take 7 rfl (by kernel_rfl) (by kernel_rfl) (by kernel_rfl) rfl (p_extract rfl rfl) ?_
                                    refine d_take 8 rfl (by kernel_rfl) (by kernel_rfl) (by kernel_rfl) rfl (p_extract rfl rfl) ?_
                                    refine draw_all [11] (by kernel_rfl) (by simp) ?_
                                    refine all_cons rfl rfl ?_ ?_
                                    · skip
                                      refine w_store (cells' := [_, _, _, _]) rfl rfl rfl (by repeat (first | exact Pick.here _ _ _ | apply Pick.next)) cn_41 (by rfl) (by rfl) (by rfl) (by first | (refine .inl ?_; simp; done) | (refine .inr ?_; simp [keys]; done)) ?_
                                      refine draw_all [12] (by kernel_rfl) (by simp) ?_
                                      refine all_cons rfl rfl ?_ ?_
                                      · skip
                                        refine w_store (cells' := [_, _, _, _]) rfl rfl rfl (by repeat (first | exact Pick.here _ _ _ | apply Pick.next)) cn_41 (by rfl) (by rfl) (by rfl) (by first | (refine .inl ?_; simp; done) | (refine .inr ?_; simp [keys]; done)) ?_
                                        refine d_take 13 rfl (by kernel_rfl) (by kernel_rfl) (by kernel_rfl) rfl (p_assign rfl) ?_
                                        refine draw_done (by kernel_rfl) ?_
                                        exact ⟨⟨b55, b59⟩, _, trivial, (by repeat (first | exact Knows.nil | refine Knows.cons (by rfl) ?_)), (by repeat (first | exact Back.refl _ _ | refine Back.cons (by rfl) ?_)), (by repeat (first | exact Picks.nil _ | exact Pick.here _ _ _ | apply Pick.next | apply Picks.cons))⟩
                                      exact all_nil
                                    exact all_nil
                                  exact all_nil
                                exact all_nil
                              exact all_nil
                            exact all_nil
                          refine all_cons rfl rfl ?_ ?_
                          · skip
                            refine w_alloc rfl z_41 fun b60 => ?_
                            refine draw_all [1, 9] (by kernel_rfl) (by simp) ?_
                            refine all_cons rfl rfl ?_ ?_
                            · skip
                              refine w_callR rfl rfl rfl cl_27 (c_laws_toPort a hl0) ?_
                              refine draw_all [3, 9] (by kernel_rfl) (by simp) ?_
                              refine all_cons rfl rfl ?_ ?_
                              · skip
                                refine w_callR rfl rfl rfl cl_27 (c_laws_toPort b hl1) ?_
                                refine draw_all [4, 9] (by kernel_rfl) (by simp) ?_
                                refine all_cons rfl rfl ?_ ?_
                                · skip
                                  refine w_callR rfl rfl rfl cl_48 (cn_impl_LoopPorts a b hl0 hl1 hA) ?_
                                  refine d_take 5 rfl (by kernel_rfl) (by kernel_rfl) (by kernel_rfl) rfl (p_move rfl) ?_
                                  refine d_take 6 rfl (by kernel_rfl) (by kernel_rfl) (by kernel_rfl) rfl (p_extract rfl rfl) ?_
                                  refine d_take 7 rfl (by kernel_rfl) (by kernel_rfl) (by kernel_rfl) rfl (p_extract rfl rfl) ?_
                                  refine d_take 8 rfl (by kernel_rfl) (by kernel_rfl) (by kernel_rfl) rfl (p_extract rfl rfl) ?_
                                  refine draw_all [9] (by kernel_rfl) (by simp) ?_
                                  refine all_cons rfl rfl ?_ ?_
                                  · skip
                                    refine w_alloc rfl z_41 fun b61 => ?_
                                    refine draw_all [11] (by kernel_rfl) (by simp) ?_
                                    refine all_cons rfl rfl ?_ ?_
                                    · skip
                                      refine w_store (cells' := [_, _, _, _]) rfl rfl rfl (by repeat (first | exact Pick.here _ _ _ | apply Pick.next)) cn_41 (by rfl) (by rfl) (by rfl) (by first | (refine .inl ?_; simp; done) | (refine .inr ?_; simp [keys]; done)) ?_
                                      refine draw_all [12] (by kernel_rfl) (by simp) ?_
                                      refine all_cons rfl rfl ?_ ?_
                                      · skip
                                        refine w_store (cells' := [_, _, _, _]) rfl rfl rfl (by repeat (first | exact Pick.here _ _ _ | apply Pick.next)) cn_41 (by rfl) (by rfl) (by rfl) (by first | (refine .inl ?_; simp; done) | (refine .inr ?_; simp [keys]; done)) ?_
                                        refine d_take 13 rfl (by kernel_rfl) (by kernel_rfl) (by kernel_rfl) rfl (p_assign rfl) ?_
                                        refine draw_done (by kernel_rfl) ?_
                                        exact ⟨⟨b61, b60⟩, _, trivial, (by repeat (first | exact Knows.nil | refine Knows.cons (by rfl) ?_)), (by repeat (first | exact Back.refl _ _ | refine Back.cons (by rfl) ?_)), (by repeat (first | exact Picks.nil _ | exact Pick.here _ _ _ | apply Pick.next | apply Picks.cons))⟩
                                      exact all_nil
                                    exact all_nil
                                  exact all_nil
                                refine all_cons rfl rfl ?_ ?_
                                · skip
                                  refine w_alloc rfl z_41 fun b62 => ?_
                                  refine draw_all [4] (by kernel_rfl) (by simp) ?_
                                  refine all_cons rfl rfl ?_ ?_
                                  · skip
                                    refine w_callR rfl rfl rfl cl_48 (cn_impl_LoopPorts a b hl0 hl1 hA) ?_
                                    refine d_take 5 rfl (by kernel_rfl) (by kernel_rfl) (by kernel_rfl) rfl (p_move rfl) ?_
                                    refine d_take 6 rfl (by kernel_rfl) (by kernel_rfl) (by kernel_rfl) rfl (p_extract rfl rfl) ?_
                                    refine d_take 7 rfl (by kernel_rfl) (by kernel_rfl) (by kernel_rfl) rfl (p_extract rfl rfl) ?_
                                    refine d_take 8 rfl (by kernel_rfl) (by kernel_rfl) (by kernel_rfl) rfl (p_extract rfl rfl) ?_
                                    refine draw_all [11] (by kernel_rfl) (by simp) ?_
                                    refine all_cons rfl rfl ?_ ?_
                                    · skip
                                      refine w_store (cells' := [_, _, _, _]) rfl rfl rfl (by repeat (first | exact Pick.here _ _ _ | apply Pick.next)) cn_41 (by rfl) (by rfl) (by rfl) (by first | (refine .inl ?_; simp; done) | (refine .inr ?_; simp [keys]; done)) ?_
                                      refine draw_all [12] (by kernel_rfl) (by simp) ?_
                                      refine all_cons rfl rfl ?_ ?_
                                      · skip
                                        refine w_store (cells' := [_, _, _, _]) rfl rfl rfl (by repeat (first | exact Pick.here _ _ _ | apply Pick.next)) cn_41 (by rfl) (by rfl) (by rfl) (by first | (refine .inl ?_; simp; done) | (refine .inr ?_; simp [keys]; done)) ?_
                                        refine d_take 13 rfl (by kernel_rfl) (by kernel_rfl) (by kernel_rfl) rfl (p_assign rfl) ?_
                                        refine draw_done (by kernel_rfl) ?_
                                        exact ⟨⟨b62, b60⟩, _, trivial, (by repeat (first | exact Knows.nil | refine Knows.cons (by rfl) ?_)), (by repeat (first | exact Back.refl _ _ | refine Back.cons (by rfl) ?_)), (by repeat (first | exact Picks.nil _ | exact Pick.here _ _ _ | apply Pick.next | apply Picks.cons))⟩
                                      exact all_nil
                                    exact all_nil
                                  exact all_nil
                                exact all_nil
                              refine all_cons rfl rfl ?_ ?_
                              · skip
                                refine w_alloc rfl z_41 fun b63 => ?_
                                refine draw_all [3] (by kernel_rfl) (by simp) ?_
                                refine all_cons rfl rfl ?_ ?_
                                · skip
                                  refine w_callR rfl rfl rfl cl_27 (c_laws_toPort b hl1) ?_
                                  refine draw_all [4] (by kernel_rfl) (by simp) ?_
                                  refine all_cons rfl rfl ?_ ?_
                                  · skip
                                    refine w_callR rfl rfl rfl cl_48 (cn_impl_LoopPorts a b hl0 hl1 hA) ?_
                                    refine d_take 5 rfl (by kernel_rfl) (by kernel_rfl) (by kernel_rfl) rfl (p_move rfl) ?_
                                    refine d_take 6 rfl (by kernel_rfl) (by kernel_rfl) (by kernel_rfl) rfl (p_extract rfl rfl) ?_
                                    refine d_take 7 rfl (by kernel_rfl) (by kernel_rfl) (by kernel_rfl) rfl (p_extract rfl rfl) ?_
                                    refine d_take 8 rfl (by kernel_rfl) (by kernel_rfl) (by kernel_rfl) rfl (p_extract rfl rfl) ?_
                                    refine draw_all [11] (by kernel_rfl) (by simp) ?_
                                    refine all_cons rfl rfl ?_ ?_
                                    · skip
                                      refine w_store (cells' := [_, _, _, _]) rfl rfl rfl (by repeat (first | exact Pick.here _ _ _ | apply Pick.next)) cn_41 (by rfl) (by rfl) (by rfl) (by first | (refine .inl ?_; simp; done) | (refine .inr ?_; simp [keys]; done)) ?_
                                      refine draw_all [12] (by kernel_rfl) (by simp) ?_
                                      refine all_cons rfl rfl ?_ ?_
                                      · skip
                                        refine w_store (cells' := [_, _, _, _]) rfl rfl rfl (by repeat (first | exact Pick.here _ _ _ | apply Pick.next)) cn_41 (by rfl) (by rfl) (by rfl) (by first | (refine .inl ?_; simp; done) | (refine .inr ?_; simp [keys]; done)) ?_
                                        refine d_take 13 rfl (by kernel_rfl) (by kernel_rfl) (by kernel_rfl) rfl (p_assign rfl) ?_
                                        refine draw_done (by kernel_rfl) ?_
                                        exact ⟨⟨b63, b60⟩, _, trivial, (by repeat (first | exact Knows.nil | refine Knows.cons (by rfl) ?_)), (by repeat (first | exact Back.refl _ _ | refine Back.cons (by rfl) ?_)), (by repeat (first | exact Picks.nil _ | exact Pick.here _ _ _ | apply Pick.next | apply Picks.cons))⟩
                                      exact all_nil
                                    exact all_nil
                                  exact all_nil
                                exact all_nil
                              exact all_nil
                            refine all_cons rfl rfl ?_ ?_
                            · skip
                              refine w_alloc rfl z_41 fun b64 => ?_
                              refine draw_all [1] (by kernel_rfl) (by simp) ?_
                              refine all_cons rfl rfl ?_ ?_
                              · skip
                                refine w_callR rfl rfl rfl cl_27 (c_laws_toPort a hl0) ?_
                                refine draw_all [3] (by kernel_rfl) (by simp) ?_
                                refine all_cons rfl rfl ?_ ?_
                                · skip
                                  refine w_callR rfl rfl rfl cl_27 (c_laws_toPort b hl1) ?_
                                  refine draw_all [4] (by kernel_rfl) (by simp) ?_
                                  refine all_cons rfl rfl ?_ ?_
                                  · skip
                                    refine w_callR rfl rfl rfl cl_48 (cn_impl_LoopPorts a b hl0 hl1 hA) ?_
                                    refine d_take 5 rfl (by kernel_rfl) (by kernel_rfl) (by kernel_rfl) rfl (p_move rfl) ?_
                                    refine d_take 6 rfl (by kernel_rfl) (by kernel_rfl) (by kernel_rfl) rfl (p_extract rfl rfl) ?_
                                    refine d_take 7 rfl (by kernel_rfl) (by kernel_rfl) (by kernel_rfl) rfl (p_extract rfl rfl) ?_
                                    refine d_take 8 rfl (by kernel_rfl) (by kernel_rfl) (by kernel_rfl) rfl (p_extract rfl rfl) ?_
                                    refine draw_all [11] (by kernel_rfl) (by simp) ?_
                                    refine all_cons rfl rfl ?_ ?_
                                    · skip
                                      refine w_store (cells' := [_, _, _, _]) rfl rfl rfl (by repeat (first | exact Pick.here _ _ _ | apply Pick.next)) cn_41 (by rfl) (by rfl) (by rfl) (by first | (refine .inl ?_; simp; done) | (refine .inr ?_; simp [keys]; done)) ?_
                                      refine draw_all [12] (by kernel_rfl) (by simp) ?_
                                      refine all_cons rfl rfl ?_ ?_
                                      · skip
                                        refine w_store (cells' := [_, _, _, _]) rfl rfl rfl (by repeat (first | exact Pick.here _ _ _ | apply Pick.next)) cn_41 (by rfl) (by rfl) (by rfl) (by first | (refine .inl ?_; simp; done) | (refine .inr ?_; simp [keys]; done)) ?_
                                        refine d_take 13 rfl (by kernel_rfl) (by kernel_rfl) (by kernel_rfl) rfl (p_assign rfl) ?_
                                        refine draw_done (by kernel_rfl) ?_
                                        exact ⟨⟨b64, b60⟩, _, trivial, (by repeat (first | exact Knows.nil | refine Knows.cons (by rfl) ?_)), (by repeat (first | exact Back.refl _ _ | refine Back.cons (by rfl) ?_)), (by repeat (first | exact Picks.nil _ | exact Pick.here _ _ _ | apply Pick.next | apply Picks.cons))⟩
                                      exact all_nil
                                    exact all_nil
                                  exact all_nil
                                exact all_nil
                              exact all_nil
                            exact all_nil
                          exact all_nil
                        · rintro ⟨q1, q2⟩ -
                          refine a_seq ?_
                          refine a_seq ?_
                          refine a_region ?_
                          refine aops_cons rfl (w_pure rfl (p_load_box_all ag_41 rfl (by repeat (first | exact Pick.here _ _ _ | apply Pick.next)) (by rfl) noX) ?_)
                          refine aops_cons rfl (w_pure rfl (p_load_box_all ag_41 rfl (by repeat (first | exact Pick.here _ _ _ | apply Pick.next)) (by rfl) noX) ?_)
                          refine aops_cons rfl (w_callLR rfl rfl rfl cl_29 (.cons (.agg (.cons .nil (.cons .nil (.cons (.refl _) (.cons (.refl _) .nil))))) (.cons (.agg (.cons .nil (.cons .nil (.cons (.refl _) (.cons (.refl _) .nil))))) .nil)) (c_laws_eqPort (⟨[], [], 0, false⟩ : Port) (by first | decide | (simp; done) | exact ⟨by decide, by decide⟩)) (closed_bool _) ?_)
                          refine aops_cons rfl (w_pure rfl (p_not rfl) ?_)
                          refine aops_cons rfl (w_pure rfl (p_move rfl) ?_)
                          refine aops_guard_t rfl rfl rfl (w_pure rfl (p_load_box_all ag_41 rfl (by repeat (first | exact Pick.here _ _ _ | apply Pick.next)) (by rfl) noX) ?_)
                          refine aops_guard_t rfl rfl rfl (w_pure rfl (p_load_box_all ag_41 rfl (by repeat (first | exact Pick.here _ _ _ | apply Pick.next)) (by rfl) noX) ?_)
                          refine aops_guard_t rfl rfl rfl (w_callLR rfl rfl rfl cl_29 (.cons (.agg (.cons .nil (.cons .nil (.cons (.refl _) (.cons (.refl _) .nil))))) (.cons (.agg (.cons .nil (.cons .nil (.cons (.refl _) (.cons (.refl _) .nil))))) .nil)) (c_laws_eqPort (⟨[], [], 0, false⟩ : Port) (by first | decide | (simp; done) | exact ⟨by decide, by decide⟩)) (closed_bool _) ?_)
                          refine aops_guard_t rfl rfl rfl (w_pure rfl (p_not rfl) ?_)
                          refine aops_cons rfl (w_pure rfl (p_pick_f rfl rfl) ?_)
                          refine aops_cons rfl (w_pure rfl (p_move rfl) ?_)
                          refine aops_guard_t rfl rfl rfl (w_pure rfl (p_move rfl) ?_)
                          refine aops_guard_t rfl rfl rfl (w_pure rfl (p_move rfl) ?_)
                          refine aops_guard_t rfl rfl rfl (w_pure rfl (p_neq_bsame um_4 rfl rfl) ?_)
                          refine aops_cons rfl (w_pure rfl (p_pick_f rfl rfl) ?_)
                          refine aops_nil ?_
                          refine a_cond_f rfl ?_
                          refine a_skip ?_
                          refine a_seq ?_
                          refine a_region ?_
                          refine aops_cons rfl (w_pure rfl (p_assign rfl) ?_)
                          refine aops_nil ?_
                          refine a_seq ?_
                          refine a_region ?_
                          refine aops_cons rfl (w_pure rfl (p_load_box_all ag_41 rfl (by repeat (first | exact Pick.here _ _ _ | apply Pick.next)) (by rfl) noX) ?_)
                          refine aops_cons rfl (w_pure rfl (p_move rfl) ?_)
                          refine aops_cons rfl (w_callLR rfl rfl rfl cl_37 (.cons (.agg (.cons .nil (.cons .nil (.cons (.refl _) (.cons (.refl _) .nil))))) (.cons (.refl _) .nil)) (c_laws_heldPort (⟨[], [], 0, false⟩ : Port) (by first | decide | (simp; done) | exact ⟨by decide, by decide⟩) _ (by first | omega | (simp; done) | (simp; omega)) (by first | omega | (simp; done) | (simp; omega))) (closed_int _ _) ?_)
                          refine aops_cons rfl (w_pure rfl (p_assign rfl) ?_)
                          refine aops_nil ?_
                          refine a_seq ?_
                          refine a_seq ?_
                          refine a_region ?_
                          refine aops_cons rfl (w_pure rfl (p_move rfl) ?_)
                          refine aops_cons rfl (w_pure rfl (p_lss rfl rfl) ?_)
                          refine aops_nil ?_
                          first | refine a_cond_d rfl (fun h11 => ?_) (fun h12 => ?_) | refine a_cond_n rfl (fun h11 => ?_) (fun h12 => ?_) | refine a_cond_nb rfl (fun h11 => ?_) (fun h12 => ?_) | refine a_cond rfl (fun h11 => ?_) (fun h12 => ?_)
                          · (try simp only [Bool.not_eq_true', Bool.not_eq_false', Bool.not_eq_true, Bool.not_eq_false, decide_eq_true_eq, decide_eq_false_iff_not, List.length_map, List.length_range] at h11)
                            refine a_seq ?_
                            refine a_region ?_
                            refine aops_cons rfl (w_pure rfl (p_assign rfl) ?_)
                            refine aops_nil ?_
                            refine a_ret ?_
                            refine ret_ok (hands1 rfl (.tmp rfl)) (.nil _) ?_
                            first | exact ⟨rfl, rfl⟩ | (exfalso; omega)
                          · (try simp only [Bool.not_eq_true', Bool.not_eq_false', Bool.not_eq_true, Bool.not_eq_false, decide_eq_true_eq, decide_eq_false_iff_not, List.length_map, List.length_range] at h12)
                            refine a_skip ?_
                            refine a_seq ?_
                            refine a_region ?_
                            refine aops_cons rfl (w_pure rfl (p_load_box_all ag_41 rfl (by repeat (first | exact Pick.here _ _ _ | apply Pick.next)) (by rfl) noX) ?_)
                            refine aops_cons rfl (w_pure rfl (p_move rfl) ?_)
                            refine aops_cons rfl (w_callLR rfl rfl rfl cl_37 (.cons (.agg (.cons .nil (.cons .nil (.cons (.refl _) (.cons (.refl _) .nil))))) (.cons (.refl _) .nil)) (c_laws_heldPort (⟨[], [], 0, false⟩ : Port) (by first | decide | (simp; done) | exact ⟨by decide, by decide⟩) _ (by first | omega | (simp; done) | (simp; omega)) (by first | omega | (simp; done) | (simp; omega))) (closed_int _ _) ?_)
                            refine aops_cons rfl (w_pure rfl (p_assign rfl) ?_)
                            refine aops_nil ?_
                            refine a_seq ?_
                            refine a_seq ?_
                            refine a_region ?_
                            refine aops_cons rfl (w_pure rfl (p_move rfl) ?_)
                            refine aops_cons rfl (w_pure rfl (p_lss rfl rfl) ?_)
                            refine aops_nil ?_
                            first | refine a_cond_d rfl (fun h13 => ?_) (fun h14 => ?_) | refine a_cond_n rfl (fun h13 => ?_) (fun h14 => ?_) | refine a_cond_nb rfl (fun h13 => ?_) (fun h14 => ?_) | refine a_cond rfl (fun h13 => ?_) (fun h14 => ?_)
                            · (try simp only [Bool.not_eq_true', Bool.not_eq_false', Bool.not_eq_true, Bool.not_eq_false, decide_eq_true_eq, decide_eq_false_iff_not, List.length_map, List.length_range] at h13)
                              refine a_seq ?_
                              refine a_region ?_
                              refine aops_cons rfl (w_pure rfl (p_assign rfl) ?_)
                              refine aops_nil ?_
                              refine a_ret ?_
                              refine ret_ok (hands1 rfl (.tmp rfl)) (.nil _) ?_
                              first | exact ⟨rfl, rfl⟩ | (exfalso; omega)
                            · (try simp only [Bool.not_eq_true', Bool.not_eq_false', Bool.not_eq_true, Bool.not_eq_false, decide_eq_true_eq, decide_eq_false_iff_not, List.length_map, List.length_range] at h14)
                              refine a_skip ?_
                              refine a_seq ?_
                              refine a_seq ?_
                              refine a_region ?_
                              refine aops_cons rfl (w_pure rfl (p_move rfl) ?_)
                              refine aops_cons rfl (w_pure rfl (p_move rfl) ?_)
                              refine aops_cons rfl (w_pure rfl (p_neq_same rfl rfl) ?_)
                              refine aops_nil ?_
                              refine a_cond_f rfl ?_
                              refine a_skip ?_
                              refine a_seq ?_
                              refine a_region ?_
                              refine aops_cons rfl (w_pure rfl (p_assign rfl) ?_)
                              refine aops_nil ?_
                              refine a_ret ?_
                              refine ret_ok (hands1 rfl (.tmp rfl)) (.nil _) ?_
                              first | exact ⟨rfl, rfl⟩ | (exfalso; omega)
                exact all_nil
              exact all_nil
            exact all_nil
          exact all_nil

end Go.Proofs.Ytinbacenkbfifaa
