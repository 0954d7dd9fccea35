/-
  The walks of this part: each theorem is the contract of one function. Condition: none but those that it names.
-/
import Derived.Test.YtcjpddkkplgakaaTimerCF
import Derived.Test.YtcjpddkkplgakaaTimerA
import Derived.Test.YtcjpddkkplgakaaTimerB
namespace Go.Proofs.Ytcjpddkkplgakaa
open Go Go.Fw Go.Hv
attribute [local irreducible] awp Aops Aop ADraw ADrawAll ACalls
set_option maxRecDepth 4000
set_option linter.unusedSimpArgs false
set_option linter.unusedVariables false

theorem cy_impl_IrqsUpTo (xs : List Tmr) (hn : xs.length ≤ 1048576) (t : Int) (hA : GoodUpTo xs t) : ACalls Try.prog 34 [.sl (xs.map eTimer), .int .i64 t] [] (fun r st => ∃ b1, r = .tup [.own 1 b1 0 (irqs xs t).length, .bool true] ∧ st = [(b1, .arr 3 1 ((irqs xs t).map eInt))]) := by
  refine a_enter Try.func34 rfl rfl (fun w0 M0 => ?_)
  refine a_seq ?_
  refine a_region ?_
  refine aops_cons rfl (w_pure rfl (p_assign rfl) ?_)
  refine aops_cons rfl (w_pure rfl (p_assign rfl) ?_)
  refine aops_nil ?_
  refine a_seq ?_
  refine a_seq ?_
  refine a_region ?_
  refine aops_cons rfl (w_pure rfl (p_move rfl) ?_)
  refine aops_cons rfl (w_callR rfl rfl rfl cl_22 (c_impl_AreTimers _ (by omega)) ?_)
  refine aops_cons rfl (w_pure rfl (p_not rfl) ?_)
  refine aops_cons rfl (w_pure rfl (p_move rfl) ?_)
  first | refine aops_split_d 12 rfl (fun h1 => ?_) (fun h2 => ?_) | refine aops_split 12 rfl (fun h1 => ?_) (fun h2 => ?_)
  · (try simp only [Bool.not_eq_true', Bool.not_eq_false', Bool.not_eq_true, Bool.not_eq_false, decide_eq_true_eq, decide_eq_false_iff_not, List.length_map, List.length_range] at h1)
    refine g_pass' rfl rfl rfl rfl rfl ?_
    refine g_pass' rfl rfl rfl rfl rfl ?_
    refine g_pass' rfl rfl rfl rfl rfl ?_
    refine aops_cons rfl (w_pure rfl (p_pick_t rfl rfl) ?_)
    refine aops_nil ?_
    refine a_cond_t rfl ?_
    refine a_seq ?_
    refine a_region ?_
    refine aops_cons rfl (w_pure rfl (p_assign rfl) ?_)
    refine aops_cons rfl (w_pure rfl (p_assign rfl) ?_)
    refine aops_nil ?_
    refine a_ret ?_
    refine ret_ok (hands2 rfl (.tmp rfl) (.tmp rfl)) (.nil _) ?_
    first | (have hx : i = xs.length := (by omega); subst hx; exact ⟨_, by rw [irqs_len], rfl⟩) | (exfalso; first | exact absurd hA.1 (by assumption) | (have := hA.2; omega))
  · (try simp only [Bool.not_eq_true', Bool.not_eq_false', Bool.not_eq_true, Bool.not_eq_false, decide_eq_true_eq, decide_eq_false_iff_not, List.length_map, List.length_range] at h2)
    refine aops_guard_t rfl rfl rfl (w_pure rfl (p_move rfl) ?_)
    refine aops_guard_t rfl rfl rfl (w_callR rfl rfl rfl cl_49 (c_impl_isTick ..) ?_)
    refine aops_guard_t rfl rfl rfl (w_pure rfl (p_not rfl) ?_)
    refine aops_cons rfl (w_pure rfl (p_pick_f rfl rfl) ?_)
    refine aops_nil ?_
    first | refine a_cond_d rfl (fun h3 => ?_) (fun h4 => ?_) | refine a_cond_n rfl (fun h3 => ?_) (fun h4 => ?_) | refine a_cond_nb rfl (fun h3 => ?_) (fun h4 => ?_) | refine a_cond rfl (fun h3 => ?_) (fun h4 => ?_)
    · (try simp only [Bool.not_eq_true', Bool.not_eq_false', Bool.not_eq_true, Bool.not_eq_false, decide_eq_true_eq, decide_eq_false_iff_not, List.length_map, List.length_range] at h3)
      refine a_seq ?_
      refine a_region ?_
      refine aops_cons rfl (w_pure rfl (p_assign rfl) ?_)
      refine aops_cons rfl (w_pure rfl (p_assign rfl) ?_)
      refine aops_nil ?_
      refine a_ret ?_
      refine ret_ok (hands2 rfl (.tmp rfl) (.tmp rfl)) (.nil _) ?_
      first | (have hx : i = xs.length := (by omega); subst hx; exact ⟨_, by rw [irqs_len], rfl⟩) | (exfalso; first | exact absurd hA.1 (by assumption) | (have := hA.2; omega))
    · (try simp only [Bool.not_eq_true', Bool.not_eq_false', Bool.not_eq_true, Bool.not_eq_false, decide_eq_true_eq, decide_eq_false_iff_not, List.length_map, List.length_range] at h4)
      refine a_skip ?_
      refine a_seq ?_
      have g1 : AreTimers xs := (by assumption)
      refine a_region ?_
      refine aops_cons rfl (w_makeN eInt (0 : Int) 8 rfl el_25 z_3 rfl rfl rfl (by omega) (by omega) fun b1 => ?_)
      rw [irqL_zero xs t]
      refine aops_cons rfl (w_pure rfl (p_assign rfl) ?_)
      refine aops_nil ?_
      refine a_seq ?_
      refine a_seq ?_
      refine a_region ?_
      refine aops_cons rfl (w_pure rfl (p_move rfl) ?_)
      refine aops_cons rfl (w_pure rfl (p_len sl_24 rfl rfl) ?_)
      refine aops_cons rfl (w_pure rfl (p_move rfl) ?_)
      refine aops_nil ?_
      refine a_block ?_
      refine a_loop (ι := Nat) (fun i => i ≤ xs.length) (fun i => [(20, .int .i64 (i : Int))]) (fun i => [(b1, .arr 3 1 ((irqL xs t i).map eInt))]) (fun i => xs.length - i) 0 (Nat.zero_le _) (by repeat (first | exact Knows.nil | refine Knows.cons (by rfl) ?_)) (by repeat (first | exact Picks.nil _ | exact Pick.here _ _ _ | apply Pick.next | apply Picks.cons)) ?_
      rintro i hi
      have hil := irqL_len xs t i; have hq := fun h : i < xs.length => irq_rng g1 h; have hin := fun h : i < xs.length => irqTo_in g1 (t := t) (by omega) h; have hat := fun h : i < xs.length => g1.at h
      refine a_seq ?_
      refine a_region ?_
      refine aops_cons rfl (w_pure rfl (p_lss rfl rfl) ?_)
      refine aops_nil ?_
      refine a_seq ?_
      first | refine a_cond_d rfl (fun h5 => ?_) (fun h6 => ?_) | refine a_cond_n rfl (fun h5 => ?_) (fun h6 => ?_) | refine a_cond_nb rfl (fun h5 => ?_) (fun h6 => ?_) | refine a_cond rfl (fun h5 => ?_) (fun h6 => ?_)
      · (try simp only [Bool.not_eq_true', Bool.not_eq_false', Bool.not_eq_true, Bool.not_eq_false, decide_eq_true_eq, decide_eq_false_iff_not, List.length_map, List.length_range] at h5)
        refine a_skip ?_
        refine a_seq ?_
        refine a_block ?_
        refine a_seq ?_
        refine a_region ?_
        refine aops_cons rfl (w_pure rfl (p_index_sl _ rfl rfl rfl (rowD _ _ zTimer (by omega)) es_24) ?_)
        refine aops_cons rfl (w_pure rfl (p_load_v_all ag_47 rfl (by rfl) noX) ?_)
        refine aops_cons rfl (w_alloc rfl z_47 fun b2 => ?_)
        refine aops_cons rfl (w_store (cells' := [_, _, _, _]) rfl rfl rfl (by repeat (first | exact Pick.here _ _ _ | apply Pick.next)) cn_47 (by rfl) (by rfl) (by rfl) trivial ?_)
        refine aops_nil ?_
        refine a_draw [b1] (by kernel_rfl) ?_
        show ADraw _ _ _ _ _ _ 11 _ _ _ _
        refine d_take 0 rfl (by kernel_rfl) (by kernel_rfl) (by kernel_rfl) rfl (p_move rfl) ?_
        refine d_take 1 rfl (by kernel_rfl) (by kernel_rfl) (by kernel_rfl) rfl (p_field_box fo_47_3 rfl) ?_
        refine d_load 2 rfl (by kernel_rfl) (by kernel_rfl) (by kernel_rfl) rfl (p_load_box ag_3 rfl (by repeat (first | exact Pick.here _ _ _ | apply Pick.next)) (by rfl) (by simp [keys])) ?_
        refine d_take 3 rfl (by kernel_rfl) (by kernel_rfl) (by kernel_rfl) rfl (p_index_own0 (xs.getD i zTimer).irq.toNat rfl rfl (by have := hq (by omega); omega) (by have := hq (by omega); first | omega | (rw [hil]; omega)) es_25) ?_
        refine d_load 5 rfl (by kernel_rfl) (by kernel_rfl) (by kernel_rfl) rfl (p_load_box_all ag_47 rfl (by repeat (first | exact Pick.here _ _ _ | apply Pick.next)) (by rfl) (by simp [keys])) ?_
        refine d_take 6 rfl (by kernel_rfl) (by kernel_rfl) (by kernel_rfl) rfl (p_move rfl) ?_
        refine draw_all [4, 7] (by kernel_rfl) (by simp) ?_
        refine all_cons rfl rfl ?_ ?_
        · skip
          refine w_pure rfl (p_load_e ag_3 rfl (by repeat (first | exact Pick.here _ _ _ | apply Pick.next)) (rowD _ _ (0 : Int) (by have := hq (by omega); first | omega | (rw [hil]; omega))) (by rfl) noX) ?_
          refine draw_all [7] (by kernel_rfl) (by simp) ?_
          refine all_cons rfl rfl ?_ ?_
          · skip
            refine w_callR rfl rfl rfl cl_64 (c_impl_firesUpTo (xs.getD i zTimer) t (hat (by omega)) (by omega)) ?_
            refine d_take 8 rfl (by kernel_rfl) (by kernel_rfl) (by kernel_rfl) rfl (p_add' rfl rfl ⟨by have := hin (by omega); omega, by have := hin (by omega); omega⟩) ?_
            refine d_take 9 rfl (by kernel_rfl) (by kernel_rfl) (by kernel_rfl) rfl (p_index_own0 (xs.getD i zTimer).irq.toNat rfl rfl (by have := hq (by omega); omega) (by have := hq (by omega); first | omega | (rw [hil]; omega)) es_25) ?_
            refine draw_all [10] (by kernel_rfl) (by simp) ?_
            refine all_cons rfl rfl ?_ ?_
            · skip
              refine w_store_eM eInt ((irqL xs t i).getD (xs.getD i zTimer).irq.toNat 0 + fires1 (xs.getD i zTimer) t) rfl rfl rfl (by repeat (first | exact Pick.here _ _ _ | apply Pick.next)) (by have := hq (by omega); first | omega | (rw [hil]; omega)) cn_3 (by rfl) (by rfl) (by rfl) (by first | (refine .inl ?_; simp; done) | (refine .inr ?_; simp [keys]; done)) ?_
              rw [irqL_step (by have := hq (by omega); omega)]
              refine draw_done (by kernel_rfl) ?_
              refine a_region ?_
              refine aops_cons rfl (w_pure rfl (p_add' rfl rfl ⟨by (try simp only [List.length_map]); omega, by (try simp only [List.length_map]); omega⟩) ?_)
              refine aops_cons rfl (w_pure rfl (p_move rfl) ?_)
              refine aops_nil ?_
              refine ⟨(i + 1), _, ?_, ?_, (by repeat (first | exact Knows.nil | refine Knows.cons (by rfl) ?_)), (by repeat (first | exact Back.refl _ _ | refine Back.cons (by rfl) ?_)), (by repeat (first | exact Picks.nil _ | exact Pick.here _ _ _ | apply Pick.next | apply Picks.cons))⟩
              · omega
              · (try dsimp only); omega
            exact all_nil
          exact all_nil
        refine all_cons rfl rfl ?_ ?_
        · skip
          refine w_callR rfl rfl rfl cl_64 (c_impl_firesUpTo (xs.getD i zTimer) t (hat (by omega)) (by omega)) ?_
          refine draw_all [4] (by kernel_rfl) (by simp) ?_
          refine all_cons rfl rfl ?_ ?_
          · skip
            refine w_pure rfl (p_load_e ag_3 rfl (by repeat (first | exact Pick.here _ _ _ | apply Pick.next)) (rowD _ _ (0 : Int) (by have := hq (by omega); first | omega | (rw [hil]; omega))) (by rfl) noX) ?_
            refine d_take 8 rfl (by kernel_rfl) (by kernel_rfl) (by kernel_rfl) rfl (p_add' rfl rfl ⟨by have := hin (by omega); omega, by have := hin (by omega); omega⟩) ?_
            refine d_take 9 rfl (by kernel_rfl) (by kernel_rfl) (by kernel_rfl) rfl (p_index_own0 (xs.getD i zTimer).irq.toNat rfl rfl (by have := hq (by omega); omega) (by have := hq (by omega); first | omega | (rw [hil]; omega)) es_25) ?_
            refine draw_all [10] (by kernel_rfl) (by simp) ?_
            refine all_cons rfl rfl ?_ ?_
            · skip
              refine w_store_eM eInt ((irqL xs t i).getD (xs.getD i zTimer).irq.toNat 0 + fires1 (xs.getD i zTimer) t) rfl rfl rfl (by repeat (first | exact Pick.here _ _ _ | apply Pick.next)) (by have := hq (by omega); first | omega | (rw [hil]; omega)) cn_3 (by rfl) (by rfl) (by rfl) (by first | (refine .inl ?_; simp; done) | (refine .inr ?_; simp [keys]; done)) ?_
              rw [irqL_step (by have := hq (by omega); omega)]
              refine draw_done (by kernel_rfl) ?_
              refine a_region ?_
              refine aops_cons rfl (w_pure rfl (p_add' rfl rfl ⟨by (try simp only [List.length_map]); omega, by (try simp only [List.length_map]); omega⟩) ?_)
              refine aops_cons rfl (w_pure rfl (p_move rfl) ?_)
              refine aops_nil ?_
              refine ⟨(i + 1), _, ?_, ?_, (by repeat (first | exact Knows.nil | refine Knows.cons (by rfl) ?_)), (by repeat (first | exact Back.refl _ _ | refine Back.cons (by rfl) ?_)), (by repeat (first | exact Picks.nil _ | exact Pick.here _ _ _ | apply Pick.next | apply Picks.cons))⟩
              · omega
              · (try dsimp only); omega
            exact all_nil
          exact all_nil
        exact all_nil
      · (try simp only [Bool.not_eq_true', Bool.not_eq_false', Bool.not_eq_true, Bool.not_eq_false, decide_eq_true_eq, decide_eq_false_iff_not, List.length_map, List.length_range] at h6)
        refine a_exit ?_
        refine a_seq ?_
        refine a_region ?_
        refine aops_cons rfl (w_pure rfl (p_move rfl) ?_)
        refine aops_cons rfl (w_pure rfl (p_assign rfl) ?_)
        refine aops_cons rfl (w_pure rfl (p_assign rfl) ?_)
        refine aops_nil ?_
        refine a_ret ?_
        refine ret_ok (hands2 rfl (.tmp rfl) (.tmp rfl)) (st' := [(b1, _)]) (.cons (by repeat (first | exact Pick.here _ _ _ | apply Pick.next)) (.nil _)) ?_
        first | (have hx : i = xs.length := (by omega); subst hx; exact ⟨_, by rw [irqs_len], rfl⟩) | (exfalso; first | exact absurd hA.1 (by assumption) | (have := hA.2; omega))

theorem cf_impl_IrqsUpTo (xs : List Tmr) (hn : xs.length ≤ 1048576) (t : Int) (hA : GoodUpTo xs t) : ACalls Try.prog 34 [.sl (xs.map eTimer), .int .i64 t] [] (Ret (.tup [.sl ((irqs xs t).map eInt), .bool true])) :=
  (cy_impl_IrqsUpTo xs hn t hA).freeze (by rintro _ _ ⟨_, rfl, rfl⟩; exact (.tup (.cons (.own (by repeat (first | exact List.Mem.head _ | apply List.Mem.tail)) (List.length_map _)) (.cons (.refl _) .nil))))

theorem cn_impl_IrqsUpTo (xs : List Tmr) (hn : xs.length ≤ 1048576) (t : Int) (hA : ¬ GoodUpTo xs t) : ACalls Try.prog 34 [.sl (xs.map eTimer), .int .i64 t] [] (Ret (.tup [.nil, .bool false])) := by
  refine a_enter Try.func34 rfl rfl (fun w0 M0 => ?_)
  refine a_seq ?_
  refine a_region ?_
  refine aops_cons rfl (w_pure rfl (p_assign rfl) ?_)
  refine aops_cons rfl (w_pure rfl (p_assign rfl) ?_)
  refine aops_nil ?_
  refine a_seq ?_
  refine a_seq ?_
  refine a_region ?_
  refine aops_cons rfl (w_pure rfl (p_move rfl) ?_)
  refine aops_cons rfl (w_callR rfl rfl rfl cl_22 (c_impl_AreTimers _ (by omega)) ?_)
  refine aops_cons rfl (w_pure rfl (p_not rfl) ?_)
  refine aops_cons rfl (w_pure rfl (p_move rfl) ?_)
  first | refine aops_split_d 12 rfl (fun h1 => ?_) (fun h2 => ?_) | refine aops_split 12 rfl (fun h1 => ?_) (fun h2 => ?_)
  · (try simp only [Bool.not_eq_true', Bool.not_eq_false', Bool.not_eq_true, Bool.not_eq_false, decide_eq_true_eq, decide_eq_false_iff_not, List.length_map, List.length_range] at h1)
    refine g_pass' rfl rfl rfl rfl rfl ?_
    refine g_pass' rfl rfl rfl rfl rfl ?_
    refine g_pass' rfl rfl rfl rfl rfl ?_
    refine aops_cons rfl (w_pure rfl (p_pick_t rfl rfl) ?_)
    refine aops_nil ?_
    refine a_cond_t rfl ?_
    refine a_seq ?_
    refine a_region ?_
    refine aops_cons rfl (w_pure rfl (p_assign rfl) ?_)
    refine aops_cons rfl (w_pure rfl (p_assign rfl) ?_)
    refine aops_nil ?_
    refine a_ret ?_
    refine ret_ok (hands2 rfl (.tmp rfl) (.tmp rfl)) (.nil _) ?_
    exact ⟨rfl, rfl⟩
  · (try simp only [Bool.not_eq_true', Bool.not_eq_false', Bool.not_eq_true, Bool.not_eq_false, decide_eq_true_eq, decide_eq_false_iff_not, List.length_map, List.length_range] at h2)
    refine aops_guard_t rfl rfl rfl (w_pure rfl (p_move rfl) ?_)
    refine aops_guard_t rfl rfl rfl (w_callR rfl rfl rfl cl_49 (c_impl_isTick ..) ?_)
    refine aops_guard_t rfl rfl rfl (w_pure rfl (p_not rfl) ?_)
    refine aops_cons rfl (w_pure rfl (p_pick_f rfl rfl) ?_)
    refine aops_nil ?_
    first | refine a_cond_d rfl (fun h3 => ?_) (fun h4 => ?_) | refine a_cond_n rfl (fun h3 => ?_) (fun h4 => ?_) | refine a_cond_nb rfl (fun h3 => ?_) (fun h4 => ?_) | refine a_cond rfl (fun h3 => ?_) (fun h4 => ?_)
    · (try simp only [Bool.not_eq_true', Bool.not_eq_false', Bool.not_eq_true, Bool.not_eq_false, decide_eq_true_eq, decide_eq_false_iff_not, List.length_map, List.length_range] at h3)
      refine a_seq ?_
      refine a_region ?_
      refine aops_cons rfl (w_pure rfl (p_assign rfl) ?_)
      refine aops_cons rfl (w_pure rfl (p_assign rfl) ?_)
      refine aops_nil ?_
      refine a_ret ?_
      refine ret_ok (hands2 rfl (.tmp rfl) (.tmp rfl)) (.nil _) ?_
      exact ⟨rfl, rfl⟩
    · (try simp only [Bool.not_eq_true', Bool.not_eq_false', Bool.not_eq_true, Bool.not_eq_false, decide_eq_true_eq, decide_eq_false_iff_not, List.length_map, List.length_range] at h4)
      refine a_skip ?_
      refine a_seq ?_
      exact absurd (show GoodUpTo xs t from ⟨by assumption, by omega⟩) hA

theorem co_spec_IrqsUpTo (xs : List Tmr) (hn : xs.length ≤ 1048576) (t : Int) (hA : GoodUpTo xs t) : ACalls Try.prog 35 [.sl (xs.map eTimer), .int .i64 t] [] (fun r st => ∃ b1, r = .tup [.own 1 b1 0 (irqs xs t).length, .bool true] ∧ st = [(b1, .arr 3 1 ((irqs xs t).map eInt))]) := by
  refine a_enter Try.func35 rfl rfl (fun w0 M0 => ?_)
  refine a_seq ?_
  refine a_region ?_
  refine aops_cons rfl (w_pure rfl (p_assign rfl) ?_)
  refine aops_cons rfl (w_pure rfl (p_assign rfl) ?_)
  refine aops_nil ?_
  refine a_seq ?_
  refine a_seq ?_
  refine a_region ?_
  refine aops_cons rfl (w_pure rfl (p_move rfl) ?_)
  refine aops_cons rfl (w_callR rfl rfl rfl cl_44 (c_spec_l11Good _ (by omega)) ?_)
  refine aops_cons rfl (w_pure rfl (p_not rfl) ?_)
  refine aops_cons rfl (w_pure rfl (p_move rfl) ?_)
  first | refine aops_split_d 12 rfl (fun h1 => ?_) (fun h2 => ?_) | refine aops_split 12 rfl (fun h1 => ?_) (fun h2 => ?_)
  · (try simp only [Bool.not_eq_true', Bool.not_eq_false', Bool.not_eq_true, Bool.not_eq_false, decide_eq_true_eq, decide_eq_false_iff_not, List.length_map, List.length_range] at h1)
    refine g_pass' rfl rfl rfl rfl rfl ?_
    refine g_pass' rfl rfl rfl rfl rfl ?_
    refine g_pass' rfl rfl rfl rfl rfl ?_
    refine aops_cons rfl (w_pure rfl (p_pick_t rfl rfl) ?_)
    refine aops_nil ?_
    refine a_cond_t rfl ?_
    refine a_seq ?_
    refine a_region ?_
    refine aops_cons rfl (w_lit_vM eInt [] rfl el_25 rfl rfl rfl rfl rfl ?_)
    refine aops_cons rfl (w_pure rfl (p_assign rfl) ?_)
    refine aops_cons rfl (w_pure rfl (p_assign rfl) ?_)
    refine aops_nil ?_
    refine a_ret ?_
    refine ret_ok (hands2 rfl (.tmp rfl) (.tmp rfl)) (.nil _) ?_
    first | (have hx : i = xs.length := (by omega); subst hx; exact ⟨_, by rw [irqs_len], rfl⟩) | (exfalso; first | exact absurd hA.1 (by assumption) | (have := hA.2; omega))
  · (try simp only [Bool.not_eq_true', Bool.not_eq_false', Bool.not_eq_true, Bool.not_eq_false, decide_eq_true_eq, decide_eq_false_iff_not, List.length_map, List.length_range] at h2)
    refine aops_guard_t rfl rfl rfl (w_pure rfl (p_move rfl) ?_)
    refine aops_guard_t rfl rfl rfl (w_callR rfl rfl rfl cl_45 (c_spec_l11Tick ..) ?_)
    refine aops_guard_t rfl rfl rfl (w_pure rfl (p_not rfl) ?_)
    refine aops_cons rfl (w_pure rfl (p_pick_f rfl rfl) ?_)
    refine aops_nil ?_
    first | refine a_cond_d rfl (fun h3 => ?_) (fun h4 => ?_) | refine a_cond_n rfl (fun h3 => ?_) (fun h4 => ?_) | refine a_cond_nb rfl (fun h3 => ?_) (fun h4 => ?_) | refine a_cond rfl (fun h3 => ?_) (fun h4 => ?_)
    · (try simp only [Bool.not_eq_true', Bool.not_eq_false', Bool.not_eq_true, Bool.not_eq_false, decide_eq_true_eq, decide_eq_false_iff_not, List.length_map, List.length_range] at h3)
      refine a_seq ?_
      refine a_region ?_
      refine aops_cons rfl (w_lit_vM eInt [] rfl el_25 rfl rfl rfl rfl rfl ?_)
      refine aops_cons rfl (w_pure rfl (p_assign rfl) ?_)
      refine aops_cons rfl (w_pure rfl (p_assign rfl) ?_)
      refine aops_nil ?_
      refine a_ret ?_
      refine ret_ok (hands2 rfl (.tmp rfl) (.tmp rfl)) (.nil _) ?_
      first | (have hx : i = xs.length := (by omega); subst hx; exact ⟨_, by rw [irqs_len], rfl⟩) | (exfalso; first | exact absurd hA.1 (by assumption) | (have := hA.2; omega))
    · (try simp only [Bool.not_eq_true', Bool.not_eq_false', Bool.not_eq_true, Bool.not_eq_false, decide_eq_true_eq, decide_eq_false_iff_not, List.length_map, List.length_range] at h4)
      refine a_skip ?_
      refine a_seq ?_
      have g1 : AreTimers xs := (by assumption)
      refine a_region ?_
      refine aops_cons rfl (w_makeN eInt (0 : Int) 8 rfl el_25 z_3 rfl rfl rfl (by omega) (by omega) fun b1 => ?_)
      rw [irqL_zero xs t]
      refine aops_cons rfl (w_pure rfl (p_assign rfl) ?_)
      refine aops_nil ?_
      refine a_seq ?_
      refine a_seq ?_
      refine a_region ?_
      refine aops_cons rfl (w_pure rfl (p_assign rfl) ?_)
      refine aops_nil ?_
      refine a_block ?_
      refine a_loop (ι := Nat) (fun i => i ≤ xs.length) (fun i => [(7, .int .i64 (i : Int))]) (fun i => [(b1, .arr 3 1 ((irqL xs t i).map eInt))]) (fun i => xs.length - i) 0 (Nat.zero_le _) (by repeat (first | exact Knows.nil | refine Knows.cons (by rfl) ?_)) (by repeat (first | exact Picks.nil _ | exact Pick.here _ _ _ | apply Pick.next | apply Picks.cons)) ?_
      rintro i hi
      have hil := irqL_len xs t i; have hq := fun h : i < xs.length => irq_rng g1 h; have hin := fun h : i < xs.length => irqTo_in g1 (t := t) (by omega) h; have hat := fun h : i < xs.length => g1.at h
      refine a_seq ?_
      refine a_seq ?_
      refine a_region ?_
      refine aops_cons rfl (w_pure rfl (p_move rfl) ?_)
      refine aops_cons rfl (w_pure rfl (p_move rfl) ?_)
      refine aops_cons rfl (w_pure rfl (p_len sl_24 rfl rfl) ?_)
      refine aops_cons rfl (w_pure rfl (p_lss rfl rfl) ?_)
      refine aops_nil ?_
      first | refine a_cond_d rfl (fun h5 => ?_) (fun h6 => ?_) | refine a_cond_n rfl (fun h5 => ?_) (fun h6 => ?_) | refine a_cond_nb rfl (fun h5 => ?_) (fun h6 => ?_) | refine a_cond rfl (fun h5 => ?_) (fun h6 => ?_)
      · (try simp only [Bool.not_eq_true', Bool.not_eq_false', Bool.not_eq_true, Bool.not_eq_false, decide_eq_true_eq, decide_eq_false_iff_not, List.length_map, List.length_range] at h5)
        refine a_skip ?_
        refine a_seq ?_
        refine a_block ?_
        refine a_seq ?_
        refine a_region ?_
        refine aops_cons rfl (w_pure rfl (p_move rfl) ?_)
        refine aops_cons rfl (w_pure rfl (p_move rfl) ?_)
        refine aops_cons rfl (w_pure rfl (p_index_sl _ rfl rfl rfl (rowD _ _ zTimer (by omega)) es_24) ?_)
        refine aops_cons rfl (w_pure rfl (p_field_v fo_47_3 rfl) ?_)
        refine aops_cons rfl (w_pure rfl (p_load_v ag_3 rfl (by rfl) noX) ?_)
        refine aops_cons rfl (w_pure rfl (p_assign rfl) ?_)
        refine aops_nil ?_
        refine a_draw [b1] (by kernel_rfl) ?_
        show ADraw _ _ _ _ _ _ 15 _ _ _ _
        refine d_take 0 rfl (by kernel_rfl) (by kernel_rfl) (by kernel_rfl) rfl (p_move rfl) ?_
        refine d_take 1 rfl (by kernel_rfl) (by kernel_rfl) (by kernel_rfl) rfl (p_move rfl) ?_
        refine d_take 2 rfl (by kernel_rfl) (by kernel_rfl) (by kernel_rfl) rfl (p_move rfl) ?_
        refine d_take 3 rfl (by kernel_rfl) (by kernel_rfl) (by kernel_rfl) rfl (p_move rfl) ?_
        refine d_take 4 rfl (by kernel_rfl) (by kernel_rfl) (by kernel_rfl) rfl (p_index_own0 (xs.getD i zTimer).irq.toNat rfl rfl (by have := hq (by omega); omega) (by have := hq (by omega); first | omega | (rw [hil]; omega)) es_25) ?_
        refine d_take 6 rfl (by kernel_rfl) (by kernel_rfl) (by kernel_rfl) rfl (p_move rfl) ?_
        refine d_take 7 rfl (by kernel_rfl) (by kernel_rfl) (by kernel_rfl) rfl (p_move rfl) ?_
        refine d_take 8 rfl (by kernel_rfl) (by kernel_rfl) (by kernel_rfl) rfl (p_index_sl _ rfl rfl rfl (rowD _ _ zTimer (by omega)) es_24) ?_
        refine d_load 9 rfl (by kernel_rfl) (by kernel_rfl) (by kernel_rfl) rfl (p_load_v_all ag_47 rfl (by rfl) (by simp [keys])) ?_
        refine d_take 10 rfl (by kernel_rfl) (by kernel_rfl) (by kernel_rfl) rfl (p_move rfl) ?_
        refine draw_all [5, 11] (by kernel_rfl) (by simp) ?_
        refine all_cons rfl rfl ?_ ?_
        · skip
          refine w_pure rfl (p_load_e ag_3 rfl (by repeat (first | exact Pick.here _ _ _ | apply Pick.next)) (rowD _ _ (0 : Int) (by have := hq (by omega); first | omega | (rw [hil]; omega))) (by rfl) noX) ?_
          refine draw_all [11] (by kernel_rfl) (by simp) ?_
          refine all_cons rfl rfl ?_ ?_
          · skip
            refine w_callR rfl rfl rfl cl_69 (c_spec_l11Fires (xs.getD i zTimer) t (hat (by omega)) (by omega)) ?_
            refine d_take 12 rfl (by kernel_rfl) (by kernel_rfl) (by kernel_rfl) rfl (p_add' rfl rfl ⟨by have := hin (by omega); omega, by have := hin (by omega); omega⟩) ?_
            refine d_take 13 rfl (by kernel_rfl) (by kernel_rfl) (by kernel_rfl) rfl (p_index_own0 (xs.getD i zTimer).irq.toNat rfl rfl (by have := hq (by omega); omega) (by have := hq (by omega); first | omega | (rw [hil]; omega)) es_25) ?_
            refine draw_all [14] (by kernel_rfl) (by simp) ?_
            refine all_cons rfl rfl ?_ ?_
            · skip
              refine w_store_eM eInt ((irqL xs t i).getD (xs.getD i zTimer).irq.toNat 0 + fires1 (xs.getD i zTimer) t) rfl rfl rfl (by repeat (first | exact Pick.here _ _ _ | apply Pick.next)) (by have := hq (by omega); first | omega | (rw [hil]; omega)) cn_3 (by rfl) (by rfl) (by rfl) (by first | (refine .inl ?_; simp; done) | (refine .inr ?_; simp [keys]; done)) ?_
              rw [irqL_step (by have := hq (by omega); omega)]
              refine draw_done (by kernel_rfl) ?_
              refine a_region ?_
              refine aops_cons rfl (w_pure rfl (p_move rfl) ?_)
              refine aops_cons rfl (w_pure rfl (p_add' rfl rfl ⟨by (try simp only [List.length_map]); omega, by (try simp only [List.length_map]); omega⟩) ?_)
              refine aops_cons rfl (w_pure rfl (p_assign rfl) ?_)
              refine aops_nil ?_
              refine ⟨(i + 1), _, ?_, ?_, (by repeat (first | exact Knows.nil | refine Knows.cons (by rfl) ?_)), (by repeat (first | exact Back.refl _ _ | refine Back.cons (by rfl) ?_)), (by repeat (first | exact Picks.nil _ | exact Pick.here _ _ _ | apply Pick.next | apply Picks.cons))⟩
              · omega
              · (try dsimp only); omega
            exact all_nil
          exact all_nil
        refine all_cons rfl rfl ?_ ?_
        · skip
          refine w_callR rfl rfl rfl cl_69 (c_spec_l11Fires (xs.getD i zTimer) t (hat (by omega)) (by omega)) ?_
          refine draw_all [5] (by kernel_rfl) (by simp) ?_
          refine all_cons rfl rfl ?_ ?_
          · skip
            refine w_pure rfl (p_load_e ag_3 rfl (by repeat (first | exact Pick.here _ _ _ | apply Pick.next)) (rowD _ _ (0 : Int) (by have := hq (by omega); first | omega | (rw [hil]; omega))) (by rfl) noX) ?_
            refine d_take 12 rfl (by kernel_rfl) (by kernel_rfl) (by kernel_rfl) rfl (p_add' rfl rfl ⟨by have := hin (by omega); omega, by have := hin (by omega); omega⟩) ?_
            refine d_take 13 rfl (by kernel_rfl) (by kernel_rfl) (by kernel_rfl) rfl (p_index_own0 (xs.getD i zTimer).irq.toNat rfl rfl (by have := hq (by omega); omega) (by have := hq (by omega); first | omega | (rw [hil]; omega)) es_25) ?_
            refine draw_all [14] (by kernel_rfl) (by simp) ?_
            refine all_cons rfl rfl ?_ ?_
            · skip
              refine w_store_eM eInt ((irqL xs t i).getD (xs.getD i zTimer).irq.toNat 0 + fires1 (xs.getD i zTimer) t) rfl rfl rfl (by repeat (first | exact Pick.here _ _ _ | apply Pick.next)) (by have := hq (by omega); first | omega | (rw [hil]; omega)) cn_3 (by rfl) (by rfl) (by rfl) (by first | (refine .inl ?_; simp; done) | (refine .inr ?_; simp [keys]; done)) ?_
              rw [irqL_step (by have := hq (by omega); omega)]
              refine draw_done (by kernel_rfl) ?_
              refine a_region ?_
              refine aops_cons rfl (w_pure rfl (p_move rfl) ?_)
              refine aops_cons rfl (w_pure rfl (p_add' rfl rfl ⟨by (try simp only [List.length_map]); omega, by (try simp only [List.length_map]); omega⟩) ?_)
              refine aops_cons rfl (w_pure rfl (p_assign rfl) ?_)
              refine aops_nil ?_
              refine ⟨(i + 1), _, ?_, ?_, (by repeat (first | exact Knows.nil | refine Knows.cons (by rfl) ?_)), (by repeat (first | exact Back.refl _ _ | refine Back.cons (by rfl) ?_)), (by repeat (first | exact Picks.nil _ | exact Pick.here _ _ _ | apply Pick.next | apply Picks.cons))⟩
              · omega
              · (try dsimp only); omega
            exact all_nil
          exact all_nil
        exact all_nil
      · (try simp only [Bool.not_eq_true', Bool.not_eq_false', Bool.not_eq_true, Bool.not_eq_false, decide_eq_true_eq, decide_eq_false_iff_not, List.length_map, List.length_range] at h6)
        refine a_exit ?_
        refine a_seq ?_
        refine a_region ?_
        refine aops_cons rfl (w_pure rfl (p_move rfl) ?_)
        refine aops_cons rfl (w_pure rfl (p_assign rfl) ?_)
        refine aops_cons rfl (w_pure rfl (p_assign rfl) ?_)
        refine aops_nil ?_
        refine a_ret ?_
        refine ret_ok (hands2 rfl (.tmp rfl) (.tmp rfl)) (st' := [(b1, _)]) (.cons (by repeat (first | exact Pick.here _ _ _ | apply Pick.next)) (.nil _)) ?_
        first | (have hx : i = xs.length := (by omega); subst hx; exact ⟨_, by rw [irqs_len], rfl⟩) | (exfalso; first | exact absurd hA.1 (by assumption) | (have := hA.2; omega))

theorem cy_spec_IrqsUpTo (xs : List Tmr) (hn : xs.length ≤ 1048576) (t : Int) (hA : GoodUpTo xs t) : ACalls Try.prog 35 [.sl (xs.map eTimer), .int .i64 t] [] (Ret (.tup [.sl ((irqs xs t).map eInt), .bool true])) :=
  (co_spec_IrqsUpTo xs hn t hA).freeze (by rintro _ _ ⟨_, rfl, rfl⟩; exact (.tup (.cons (.own (by repeat (first | exact List.Mem.head _ | apply List.Mem.tail)) (List.length_map _)) (.cons (.refl _) .nil))))

theorem cn_spec_IrqsUpTo (xs : List Tmr) (hn : xs.length ≤ 1048576) (t : Int) (hA : ¬ GoodUpTo xs t) : ACalls Try.prog 35 [.sl (xs.map eTimer), .int .i64 t] [] (Ret (.tup [.sl ([] : List (List AV)), .bool false])) := by
  refine a_enter Try.func35 rfl rfl (fun w0 M0 => ?_)
  refine a_seq ?_
  refine a_region ?_
  refine aops_cons rfl (w_pure rfl (p_assign rfl) ?_)
  refine aops_cons rfl (w_pure rfl (p_assign rfl) ?_)
  refine aops_nil ?_
  refine a_seq ?_
  refine a_seq ?_
  refine a_region ?_
  refine aops_cons rfl (w_pure rfl (p_move rfl) ?_)
  refine aops_cons rfl (w_callR rfl rfl rfl cl_44 (c_spec_l11Good _ (by omega)) ?_)
  refine aops_cons rfl (w_pure rfl (p_not rfl) ?_)
  refine aops_cons rfl (w_pure rfl (p_move rfl) ?_)
  first | refine aops_split_d 12 rfl (fun h1 => ?_) (fun h2 => ?_) | refine aops_split 12 rfl (fun h1 => ?_) (fun h2 => ?_)
  · (try simp only [Bool.not_eq_true', Bool.not_eq_false', Bool.not_eq_true, Bool.not_eq_false, decide_eq_true_eq, decide_eq_false_iff_not, List.length_map, List.length_range] at h1)
    refine g_pass' rfl rfl rfl rfl rfl ?_
    refine g_pass' rfl rfl rfl rfl rfl ?_
    refine g_pass' rfl rfl rfl rfl rfl ?_
    refine aops_cons rfl (w_pure rfl (p_pick_t rfl rfl) ?_)
    refine aops_nil ?_
    refine a_cond_t rfl ?_
    refine a_seq ?_
    refine a_region ?_
    refine aops_cons rfl (w_lit_vM eInt [] rfl el_25 rfl rfl rfl rfl rfl ?_)
    refine aops_cons rfl (w_pure rfl (p_assign rfl) ?_)
    refine aops_cons rfl (w_pure rfl (p_assign rfl) ?_)
    refine aops_nil ?_
    refine a_ret ?_
    refine ret_ok (hands2 rfl (.tmp rfl) (.tmp rfl)) (.nil _) ?_
    exact ⟨rfl, rfl⟩
  · (try simp only [Bool.not_eq_true', Bool.not_eq_false', Bool.not_eq_true, Bool.not_eq_false, decide_eq_true_eq, decide_eq_false_iff_not, List.length_map, List.length_range] at h2)
    refine aops_guard_t rfl rfl rfl (w_pure rfl (p_move rfl) ?_)
    refine aops_guard_t rfl rfl rfl (w_callR rfl rfl rfl cl_45 (c_spec_l11Tick ..) ?_)
    refine aops_guard_t rfl rfl rfl (w_pure rfl (p_not rfl) ?_)
    refine aops_cons rfl (w_pure rfl (p_pick_f rfl rfl) ?_)
    refine aops_nil ?_
    first | refine a_cond_d rfl (fun h3 => ?_) (fun h4 => ?_) | refine a_cond_n rfl (fun h3 => ?_) (fun h4 => ?_) | refine a_cond_nb rfl (fun h3 => ?_) (fun h4 => ?_) | refine a_cond rfl (fun h3 => ?_) (fun h4 => ?_)
    · (try simp only [Bool.not_eq_true', Bool.not_eq_false', Bool.not_eq_true, Bool.not_eq_false, decide_eq_true_eq, decide_eq_false_iff_not, List.length_map, List.length_range] at h3)
      refine a_seq ?_
      refine a_region ?_
      refine aops_cons rfl (w_lit_vM eInt [] rfl el_25 rfl rfl rfl rfl rfl ?_)
      refine aops_cons rfl (w_pure rfl (p_assign rfl) ?_)
      refine aops_cons rfl (w_pure rfl (p_assign rfl) ?_)
      refine aops_nil ?_
      refine a_ret ?_
      refine ret_ok (hands2 rfl (.tmp rfl) (.tmp rfl)) (.nil _) ?_
      exact ⟨rfl, rfl⟩
    · (try simp only [Bool.not_eq_true', Bool.not_eq_false', Bool.not_eq_true, Bool.not_eq_false, decide_eq_true_eq, decide_eq_false_iff_not, List.length_map, List.length_range] at h4)
      refine a_skip ?_
      refine a_seq ?_
      exact absurd (show GoodUpTo xs t from ⟨by assumption, by omega⟩) hA

theorem c_impl_QuietFor (xs : List Tmr) (hn : xs.length ≤ 1048576) (t : Int) : ACalls Try.prog 42 [.sl (xs.map eTimer), .int .i64 t] [] (Ret (.tup [.int .i64 (pickI (GoodQuiet xs t) (quietV xs t)), .bool (decide (GoodQuiet xs t))])) := by
  by_cases hC : cnt xs (t - 1) ≤ 200
  all_goals refine a_enter Try.func42 rfl rfl (fun w0 M0 => ?_)
  · skip
    refine a_seq ?_
    refine a_region ?_
    refine aops_cons rfl (w_pure rfl (p_assign rfl) ?_)
    refine aops_cons rfl (w_pure rfl (p_assign rfl) ?_)
    refine aops_nil ?_
    refine a_seq ?_
    refine a_seq ?_
    refine a_region ?_
    refine aops_cons rfl (w_pure rfl (p_move rfl) ?_)
    refine aops_cons rfl (w_callR rfl rfl rfl cl_22 (c_impl_AreTimers _ (by omega)) ?_)
    refine aops_cons rfl (w_pure rfl (p_not rfl) ?_)
    refine aops_cons rfl (w_pure rfl (p_move rfl) ?_)
    first | refine aops_split_d 13 rfl (fun h1 => ?_) (fun h2 => ?_) | refine aops_split 13 rfl (fun h1 => ?_) (fun h2 => ?_)
    · (try simp only [Bool.not_eq_true', Bool.not_eq_false', Bool.not_eq_true, Bool.not_eq_false, decide_eq_true_eq, decide_eq_false_iff_not, List.length_map, List.length_range] at h1)
      refine g_pass' rfl rfl rfl rfl rfl ?_
      refine g_pass' rfl rfl rfl rfl rfl ?_
      refine g_pass' rfl rfl rfl rfl rfl ?_
      refine aops_cons rfl (w_pure rfl (p_pick_t rfl rfl) ?_)
      refine aops_nil ?_
      refine a_cond_t rfl ?_
      refine a_seq ?_
      refine a_region ?_
      refine aops_cons rfl (w_pure rfl (p_assign rfl) ?_)
      refine aops_cons rfl (w_pure rfl (p_assign rfl) ?_)
      refine aops_nil ?_
      refine a_ret ?_
      refine ret_ok (hands2 rfl (.tmp rfl) (.tmp rfl)) (.nil _) ?_
      first | (have hg : GoodQuiet xs t := ⟨by assumption, by omega, by first | assumption | omega | exact cnt_below0 (by assumption) (by omega)⟩; exact ⟨by rw [pickI_y hg, decide_eq_true hg, ← quiet_off (by assumption)], rfl⟩) | (have hg : GoodQuiet xs t := ⟨by assumption, by omega, by first | assumption | omega | exact cnt_below0 (by assumption) (by omega)⟩; exact ⟨by rw [pickI_y hg, decide_eq_true hg, ← quiet_on (by assumption)], rfl⟩) | (have hg : GoodQuiet xs t := ⟨by assumption, by omega, by first | assumption | omega | exact cnt_below0 (by assumption) (by omega)⟩; exact ⟨by rw [pickI_y hg, decide_eq_true hg, ← quiet_off0 (by assumption) (by omega) (by assumption)], rfl⟩) | (have hg : GoodQuiet xs t := ⟨by assumption, by omega, by first | assumption | omega | exact cnt_below0 (by assumption) (by omega)⟩; exact ⟨by rw [pickI_y hg, decide_eq_true hg, ← quiet_on0 (by assumption) (by omega) (by assumption)], rfl⟩) | (have hg : ¬ GoodQuiet xs t := (fun q => by have q1 := q.1; have q2 := q.2.1; have q3 := q.2.2; first | contradiction | omega); exact ⟨by rw [pickI_n hg, decide_eq_false hg], rfl⟩)
    · (try simp only [Bool.not_eq_true', Bool.not_eq_false', Bool.not_eq_true, Bool.not_eq_false, decide_eq_true_eq, decide_eq_false_iff_not, List.length_map, List.length_range] at h2)
      refine aops_guard_t rfl rfl rfl (w_pure rfl (p_move rfl) ?_)
      refine aops_guard_t rfl rfl rfl (w_callR rfl rfl rfl cl_49 (c_impl_isTick ..) ?_)
      refine aops_guard_t rfl rfl rfl (w_pure rfl (p_not rfl) ?_)
      refine aops_cons rfl (w_pure rfl (p_pick_f rfl rfl) ?_)
      refine aops_nil ?_
      first | refine a_cond_d rfl (fun h3 => ?_) (fun h4 => ?_) | refine a_cond_n rfl (fun h3 => ?_) (fun h4 => ?_) | refine a_cond_nb rfl (fun h3 => ?_) (fun h4 => ?_) | refine a_cond rfl (fun h3 => ?_) (fun h4 => ?_)
      · (try simp only [Bool.not_eq_true', Bool.not_eq_false', Bool.not_eq_true, Bool.not_eq_false, decide_eq_true_eq, decide_eq_false_iff_not, List.length_map, List.length_range] at h3)
        refine a_seq ?_
        refine a_region ?_
        refine aops_cons rfl (w_pure rfl (p_assign rfl) ?_)
        refine aops_cons rfl (w_pure rfl (p_assign rfl) ?_)
        refine aops_nil ?_
        refine a_ret ?_
        refine ret_ok (hands2 rfl (.tmp rfl) (.tmp rfl)) (.nil _) ?_
        first | (have hg : GoodQuiet xs t := ⟨by assumption, by omega, by first | assumption | omega | exact cnt_below0 (by assumption) (by omega)⟩; exact ⟨by rw [pickI_y hg, decide_eq_true hg, ← quiet_off (by assumption)], rfl⟩) | (have hg : GoodQuiet xs t := ⟨by assumption, by omega, by first | assumption | omega | exact cnt_below0 (by assumption) (by omega)⟩; exact ⟨by rw [pickI_y hg, decide_eq_true hg, ← quiet_on (by assumption)], rfl⟩) | (have hg : GoodQuiet xs t := ⟨by assumption, by omega, by first | assumption | omega | exact cnt_below0 (by assumption) (by omega)⟩; exact ⟨by rw [pickI_y hg, decide_eq_true hg, ← quiet_off0 (by assumption) (by omega) (by assumption)], rfl⟩) | (have hg : GoodQuiet xs t := ⟨by assumption, by omega, by first | assumption | omega | exact cnt_below0 (by assumption) (by omega)⟩; exact ⟨by rw [pickI_y hg, decide_eq_true hg, ← quiet_on0 (by assumption) (by omega) (by assumption)], rfl⟩) | (have hg : ¬ GoodQuiet xs t := (fun q => by have q1 := q.1; have q2 := q.2.1; have q3 := q.2.2; first | contradiction | omega); exact ⟨by rw [pickI_n hg, decide_eq_false hg], rfl⟩)
      · (try simp only [Bool.not_eq_true', Bool.not_eq_false', Bool.not_eq_true, Bool.not_eq_false, decide_eq_true_eq, decide_eq_false_iff_not, List.length_map, List.length_range] at h4)
        refine a_skip ?_
        refine a_seq ?_
        refine a_region ?_
        refine aops_cons rfl (w_pure rfl (p_move rfl) ?_)
        refine aops_cons rfl (w_pure rfl (p_move rfl) ?_)
        refine aops_cons rfl (w_pure rfl (p_sub' rfl rfl ⟨by (try simp only [List.length_map]); omega, by (try simp only [List.length_map]); omega⟩) ?_)
        refine aops_cons rfl (w_call rfl rfl rfl cl_50 (cy_impl_fireTimers xs (by omega) (t - 1) (by assumption) (by omega) hC) ?_)
        rintro _ _ ⟨b1, b2, rfl, rfl⟩
        refine aops_cons rfl (w_pure rfl (p_move rfl) ?_)
        refine aops_cons rfl (w_pure rfl (p_extract rfl rfl) ?_)
        refine aops_cons rfl (w_pure rfl (p_extract rfl rfl) ?_)
        refine aops_cons rfl (w_pure rfl (p_extract rfl rfl) ?_)
        refine aops_cons rfl (w_pure rfl (p_assign rfl) ?_)
        refine aops_cons rfl (w_pure rfl (p_assign rfl) ?_)
        refine aops_cons rfl (w_pure rfl (p_assign rfl) ?_)
        refine aops_nil ?_
        refine a_seq ?_
        refine a_seq ?_
        refine a_region ?_
        refine aops_cons rfl (w_pure rfl (p_move rfl) ?_)
        refine aops_cons rfl (w_pure rfl (p_not rfl) ?_)
        refine aops_nil ?_
        refine a_cond_f rfl ?_
        refine a_skip ?_
        refine a_seq ?_
        refine a_region ?_
        refine aops_cons rfl (w_pure rfl (p_move rfl) ?_)
        refine aops_cons rfl (w_callLR rfl rfl rfl cl_60 (.cons (.own (by repeat (first | exact List.Mem.head _ | apply List.Mem.tail)) (by first | (simp; done) | (simp; assumption) | (simp; omega) | (simp [mkL]; done))) .nil) (c_impl_nextToFire (fireL xs (t - 1)) (by rw [fireL_len]; omega)) (closed_int _ _) ?_)
        refine aops_cons rfl (w_pure rfl (p_assign rfl) ?_)
        refine aops_nil ?_
        refine a_seq ?_
        refine a_seq ?_
        refine a_region ?_
        refine aops_cons rfl (w_pure rfl (p_move rfl) ?_)
        refine aops_cons rfl (w_pure rfl (p_lss rfl rfl) ?_)
        refine aops_nil ?_
        first | refine a_cond_d rfl (fun h5 => ?_) (fun h6 => ?_) | refine a_cond_n rfl (fun h5 => ?_) (fun h6 => ?_) | refine a_cond_nb rfl (fun h5 => ?_) (fun h6 => ?_) | refine a_cond rfl (fun h5 => ?_) (fun h6 => ?_)
        · (try simp only [Bool.not_eq_true', Bool.not_eq_false', Bool.not_eq_true, Bool.not_eq_false, decide_eq_true_eq, decide_eq_false_iff_not, List.length_map, List.length_range] at h5)
          refine a_seq ?_
          refine a_region ?_
          refine aops_cons rfl (w_pure rfl (p_assign rfl) ?_)
          refine aops_cons rfl (w_pure rfl (p_assign rfl) ?_)
          refine aops_nil ?_
          refine a_ret ?_
          refine ret_ok (hands2 rfl (.tmp rfl) (.tmp rfl)) (.nil _) ?_
          first | (have hg : GoodQuiet xs t := ⟨by assumption, by omega, by first | assumption | omega | exact cnt_below0 (by assumption) (by omega)⟩; exact ⟨by rw [pickI_y hg, decide_eq_true hg, ← quiet_off (by assumption)], rfl⟩) | (have hg : GoodQuiet xs t := ⟨by assumption, by omega, by first | assumption | omega | exact cnt_below0 (by assumption) (by omega)⟩; exact ⟨by rw [pickI_y hg, decide_eq_true hg, ← quiet_on (by assumption)], rfl⟩) | (have hg : GoodQuiet xs t := ⟨by assumption, by omega, by first | assumption | omega | exact cnt_below0 (by assumption) (by omega)⟩; exact ⟨by rw [pickI_y hg, decide_eq_true hg, ← quiet_off0 (by assumption) (by omega) (by assumption)], rfl⟩) | (have hg : GoodQuiet xs t := ⟨by assumption, by omega, by first | assumption | omega | exact cnt_below0 (by assumption) (by omega)⟩; exact ⟨by rw [pickI_y hg, decide_eq_true hg, ← quiet_on0 (by assumption) (by omega) (by assumption)], rfl⟩) | (have hg : ¬ GoodQuiet xs t := (fun q => by have q1 := q.1; have q2 := q.2.1; have q3 := q.2.2; first | contradiction | omega); exact ⟨by rw [pickI_n hg, decide_eq_false hg], rfl⟩)
        · (try simp only [Bool.not_eq_true', Bool.not_eq_false', Bool.not_eq_true, Bool.not_eq_false, decide_eq_true_eq, decide_eq_false_iff_not, List.length_map, List.length_range] at h6)
          refine a_skip ?_
          refine a_seq ?_
          refine a_region ?_
          refine aops_cons rfl (w_pure rfl (p_move rfl) ?_)
          refine aops_cons rfl (w_pure rfl (p_move rfl) ?_)
          refine aops_cons rfl (w_pure rfl (p_index_own0 (fireI (fireL xs (t - 1))).toNat rfl rfl (by omega) (by have := (fireI_lt (fireL xs (t - 1))).2; omega) es_24) ?_)
          refine aops_cons rfl (w_pure rfl (p_field_e fo_47_1 rfl) ?_)
          refine aops_cons rfl (w_pure rfl (p_load_e ag_3 rfl (by repeat (first | exact Pick.here _ _ _ | apply Pick.next)) (rowD _ _ zTimer (by have := (fireI_lt (fireL xs (t - 1))).2; omega)) (by rfl) noX) ?_)
          refine aops_cons rfl (w_pure rfl (p_move rfl) ?_)
          refine aops_cons rfl (w_pure rfl (p_sub' rfl rfl ⟨by have := nxt_rng (fire_are ‹AreTimers xs› (s := t - 1) (by omega)) (by omega); omega, by have := nxt_rng (fire_are ‹AreTimers xs› (s := t - 1) (by omega)) (by omega); omega⟩) ?_)
          refine aops_cons rfl (w_pure rfl (p_assign rfl) ?_)
          refine aops_cons rfl (w_pure rfl (p_assign rfl) ?_)
          refine aops_nil ?_
          refine a_ret ?_
          refine ret_ok (hands2 rfl (.tmp rfl) (.tmp rfl)) (.nil _) ?_
          first | (have hg : GoodQuiet xs t := ⟨by assumption, by omega, by first | assumption | omega | exact cnt_below0 (by assumption) (by omega)⟩; exact ⟨by rw [pickI_y hg, decide_eq_true hg, ← quiet_off (by assumption)], rfl⟩) | (have hg : GoodQuiet xs t := ⟨by assumption, by omega, by first | assumption | omega | exact cnt_below0 (by assumption) (by omega)⟩; exact ⟨by rw [pickI_y hg, decide_eq_true hg, ← quiet_on (by assumption)], rfl⟩) | (have hg : GoodQuiet xs t := ⟨by assumption, by omega, by first | assumption | omega | exact cnt_below0 (by assumption) (by omega)⟩; exact ⟨by rw [pickI_y hg, decide_eq_true hg, ← quiet_off0 (by assumption) (by omega) (by assumption)], rfl⟩) | (have hg : GoodQuiet xs t := ⟨by assumption, by omega, by first | assumption | omega | exact cnt_below0 (by assumption) (by omega)⟩; exact ⟨by rw [pickI_y hg, decide_eq_true hg, ← quiet_on0 (by assumption) (by omega) (by assumption)], rfl⟩) | (have hg : ¬ GoodQuiet xs t := (fun q => by have q1 := q.1; have q2 := q.2.1; have q3 := q.2.2; first | contradiction | omega); exact ⟨by rw [pickI_n hg, decide_eq_false hg], rfl⟩)
  · skip
    refine a_seq ?_
    refine a_region ?_
    refine aops_cons rfl (w_pure rfl (p_assign rfl) ?_)
    refine aops_cons rfl (w_pure rfl (p_assign rfl) ?_)
    refine aops_nil ?_
    refine a_seq ?_
    refine a_seq ?_
    refine a_region ?_
    refine aops_cons rfl (w_pure rfl (p_move rfl) ?_)
    refine aops_cons rfl (w_callR rfl rfl rfl cl_22 (c_impl_AreTimers _ (by omega)) ?_)
    refine aops_cons rfl (w_pure rfl (p_not rfl) ?_)
    refine aops_cons rfl (w_pure rfl (p_move rfl) ?_)
    first | refine aops_split_d 13 rfl (fun h1 => ?_) (fun h2 => ?_) | refine aops_split 13 rfl (fun h1 => ?_) (fun h2 => ?_)
    · (try simp only [Bool.not_eq_true', Bool.not_eq_false', Bool.not_eq_true, Bool.not_eq_false, decide_eq_true_eq, decide_eq_false_iff_not, List.length_map, List.length_range] at h1)
      refine g_pass' rfl rfl rfl rfl rfl ?_
      refine g_pass' rfl rfl rfl rfl rfl ?_
      refine g_pass' rfl rfl rfl rfl rfl ?_
      refine aops_cons rfl (w_pure rfl (p_pick_t rfl rfl) ?_)
      refine aops_nil ?_
      refine a_cond_t rfl ?_
      refine a_seq ?_
      refine a_region ?_
      refine aops_cons rfl (w_pure rfl (p_assign rfl) ?_)
      refine aops_cons rfl (w_pure rfl (p_assign rfl) ?_)
      refine aops_nil ?_
      refine a_ret ?_
      refine ret_ok (hands2 rfl (.tmp rfl) (.tmp rfl)) (.nil _) ?_
      first | (have hg : GoodQuiet xs t := ⟨by assumption, by omega, by first | assumption | omega | exact cnt_below0 (by assumption) (by omega)⟩; exact ⟨by rw [pickI_y hg, decide_eq_true hg, ← quiet_off (by assumption)], rfl⟩) | (have hg : GoodQuiet xs t := ⟨by assumption, by omega, by first | assumption | omega | exact cnt_below0 (by assumption) (by omega)⟩; exact ⟨by rw [pickI_y hg, decide_eq_true hg, ← quiet_on (by assumption)], rfl⟩) | (have hg : GoodQuiet xs t := ⟨by assumption, by omega, by first | assumption | omega | exact cnt_below0 (by assumption) (by omega)⟩; exact ⟨by rw [pickI_y hg, decide_eq_true hg, ← quiet_off0 (by assumption) (by omega) (by assumption)], rfl⟩) | (have hg : GoodQuiet xs t := ⟨by assumption, by omega, by first | assumption | omega | exact cnt_below0 (by assumption) (by omega)⟩; exact ⟨by rw [pickI_y hg, decide_eq_true hg, ← quiet_on0 (by assumption) (by omega) (by assumption)], rfl⟩) | (have hg : ¬ GoodQuiet xs t := (fun q => by have q1 := q.1; have q2 := q.2.1; have q3 := q.2.2; first | contradiction | omega); exact ⟨by rw [pickI_n hg, decide_eq_false hg], rfl⟩)
    · (try simp only [Bool.not_eq_true', Bool.not_eq_false', Bool.not_eq_true, Bool.not_eq_false, decide_eq_true_eq, decide_eq_false_iff_not, List.length_map, List.length_range] at h2)
      refine aops_guard_t rfl rfl rfl (w_pure rfl (p_move rfl) ?_)
      refine aops_guard_t rfl rfl rfl (w_callR rfl rfl rfl cl_49 (c_impl_isTick ..) ?_)
      refine aops_guard_t rfl rfl rfl (w_pure rfl (p_not rfl) ?_)
      refine aops_cons rfl (w_pure rfl (p_pick_f rfl rfl) ?_)
      refine aops_nil ?_
      first | refine a_cond_d rfl (fun h3 => ?_) (fun h4 => ?_) | refine a_cond_n rfl (fun h3 => ?_) (fun h4 => ?_) | refine a_cond_nb rfl (fun h3 => ?_) (fun h4 => ?_) | refine a_cond rfl (fun h3 => ?_) (fun h4 => ?_)
      · (try simp only [Bool.not_eq_true', Bool.not_eq_false', Bool.not_eq_true, Bool.not_eq_false, decide_eq_true_eq, decide_eq_false_iff_not, List.length_map, List.length_range] at h3)
        refine a_seq ?_
        refine a_region ?_
        refine aops_cons rfl (w_pure rfl (p_assign rfl) ?_)
        refine aops_cons rfl (w_pure rfl (p_assign rfl) ?_)
        refine aops_nil ?_
        refine a_ret ?_
        refine ret_ok (hands2 rfl (.tmp rfl) (.tmp rfl)) (.nil _) ?_
        first | (have hg : GoodQuiet xs t := ⟨by assumption, by omega, by first | assumption | omega | exact cnt_below0 (by assumption) (by omega)⟩; exact ⟨by rw [pickI_y hg, decide_eq_true hg, ← quiet_off (by assumption)], rfl⟩) | (have hg : GoodQuiet xs t := ⟨by assumption, by omega, by first | assumption | omega | exact cnt_below0 (by assumption) (by omega)⟩; exact ⟨by rw [pickI_y hg, decide_eq_true hg, ← quiet_on (by assumption)], rfl⟩) | (have hg : GoodQuiet xs t := ⟨by assumption, by omega, by first | assumption | omega | exact cnt_below0 (by assumption) (by omega)⟩; exact ⟨by rw [pickI_y hg, decide_eq_true hg, ← quiet_off0 (by assumption) (by omega) (by assumption)], rfl⟩) | (have hg : GoodQuiet xs t := ⟨by assumption, by omega, by first | assumption | omega | exact cnt_below0 (by assumption) (by omega)⟩; exact ⟨by rw [pickI_y hg, decide_eq_true hg, ← quiet_on0 (by assumption) (by omega) (by assumption)], rfl⟩) | (have hg : ¬ GoodQuiet xs t := (fun q => by have q1 := q.1; have q2 := q.2.1; have q3 := q.2.2; first | contradiction | omega); exact ⟨by rw [pickI_n hg, decide_eq_false hg], rfl⟩)
      · (try simp only [Bool.not_eq_true', Bool.not_eq_false', Bool.not_eq_true, Bool.not_eq_false, decide_eq_true_eq, decide_eq_false_iff_not, List.length_map, List.length_range] at h4)
        refine a_skip ?_
        refine a_seq ?_
        refine a_region ?_
        refine aops_cons rfl (w_pure rfl (p_move rfl) ?_)
        refine aops_cons rfl (w_pure rfl (p_move rfl) ?_)
        refine aops_cons rfl (w_pure rfl (p_sub' rfl rfl ⟨by (try simp only [List.length_map]); omega, by (try simp only [List.length_map]); omega⟩) ?_)
        refine aops_cons rfl (w_callR rfl rfl rfl cl_50 (cn_impl_fireTimers xs (by omega) (t - 1) (by assumption) (by omega) (by omega)) ?_)
        refine aops_cons rfl (w_pure rfl (p_move rfl) ?_)
        refine aops_cons rfl (w_pure rfl (p_extract rfl rfl) ?_)
        refine aops_cons rfl (w_pure rfl (p_extract rfl rfl) ?_)
        refine aops_cons rfl (w_pure rfl (p_extract rfl rfl) ?_)
        refine aops_cons rfl (w_pure rfl (p_assign rfl) ?_)
        refine aops_cons rfl (w_pure rfl (p_assign rfl) ?_)
        refine aops_cons rfl (w_pure rfl (p_assign rfl) ?_)
        refine aops_nil ?_
        refine a_seq ?_
        refine a_seq ?_
        refine a_region ?_
        refine aops_cons rfl (w_pure rfl (p_move rfl) ?_)
        refine aops_cons rfl (w_pure rfl (p_not rfl) ?_)
        refine aops_nil ?_
        refine a_cond_t rfl ?_
        refine a_seq ?_
        refine a_region ?_
        refine aops_cons rfl (w_pure rfl (p_assign rfl) ?_)
        refine aops_cons rfl (w_pure rfl (p_assign rfl) ?_)
        refine aops_nil ?_
        refine a_ret ?_
        refine ret_ok (hands2 rfl (.tmp rfl) (.tmp rfl)) (.nil _) ?_
        first | (have hg : GoodQuiet xs t := ⟨by assumption, by omega, by first | assumption | omega | exact cnt_below0 (by assumption) (by omega)⟩; exact ⟨by rw [pickI_y hg, decide_eq_true hg, ← quiet_off (by assumption)], rfl⟩) | (have hg : GoodQuiet xs t := ⟨by assumption, by omega, by first | assumption | omega | exact cnt_below0 (by assumption) (by omega)⟩; exact ⟨by rw [pickI_y hg, decide_eq_true hg, ← quiet_on (by assumption)], rfl⟩) | (have hg : GoodQuiet xs t := ⟨by assumption, by omega, by first | assumption | omega | exact cnt_below0 (by assumption) (by omega)⟩; exact ⟨by rw [pickI_y hg, decide_eq_true hg, ← quiet_off0 (by assumption) (by omega) (by assumption)], rfl⟩) | (have hg : GoodQuiet xs t := ⟨by assumption, by omega, by first | assumption | omega | exact cnt_below0 (by assumption) (by omega)⟩; exact ⟨by rw [pickI_y hg, decide_eq_true hg, ← quiet_on0 (by assumption) (by omega) (by assumption)], rfl⟩) | (have hg : ¬ GoodQuiet xs t := (fun q => by have q1 := q.1; have q2 := q.2.1; have q3 := q.2.2; first | contradiction | omega); exact ⟨by rw [pickI_n hg, decide_eq_false hg], rfl⟩)

theorem c_spec_QuietFor (xs : List Tmr) (hn : xs.length ≤ 1048576) (t : Int) : ACalls Try.prog 43 [.sl (xs.map eTimer), .int .i64 t] [] (Ret (.tup [.int .i64 (pickI (GoodQuiet xs t) (quietV xs t)), .bool (decide (GoodQuiet xs t))])) := by
  refine a_enter Try.func43 rfl rfl (fun w0 M0 => ?_)
  refine a_seq ?_
  refine a_region ?_
  refine aops_cons rfl (w_pure rfl (p_assign rfl) ?_)
  refine aops_cons rfl (w_pure rfl (p_assign rfl) ?_)
  refine aops_nil ?_
  refine a_seq ?_
  refine a_seq ?_
  refine a_region ?_
  refine aops_cons rfl (w_pure rfl (p_move rfl) ?_)
  refine aops_cons rfl (w_callR rfl rfl rfl cl_44 (c_spec_l11Good _ (by omega)) ?_)
  refine aops_cons rfl (w_pure rfl (p_not rfl) ?_)
  refine aops_cons rfl (w_pure rfl (p_move rfl) ?_)
  first | refine aops_split_d 10 rfl (fun h1 => ?_) (fun h2 => ?_) | refine aops_split 10 rfl (fun h1 => ?_) (fun h2 => ?_)
  · (try simp only [Bool.not_eq_true', Bool.not_eq_false', Bool.not_eq_true, Bool.not_eq_false, decide_eq_true_eq, decide_eq_false_iff_not, List.length_map, List.length_range] at h1)
    refine g_pass' rfl rfl rfl rfl rfl ?_
    refine g_pass' rfl rfl rfl rfl rfl ?_
    refine g_pass' rfl rfl rfl rfl rfl ?_
    refine aops_cons rfl (w_pure rfl (p_pick_t rfl rfl) ?_)
    refine aops_nil ?_
    refine a_cond_t rfl ?_
    refine a_seq ?_
    refine a_region ?_
    refine aops_cons rfl (w_pure rfl (p_assign rfl) ?_)
    refine aops_cons rfl (w_pure rfl (p_assign rfl) ?_)
    refine aops_nil ?_
    refine a_ret ?_
    refine ret_ok (hands2 rfl (.tmp rfl) (.tmp rfl)) (.nil _) ?_
    first | (have hg : GoodQuiet xs t := ⟨by assumption, by omega, by first | assumption | omega | exact cnt_below0 (by assumption) (by omega)⟩; exact ⟨by rw [pickI_y hg, decide_eq_true hg, ← quiet_off (by assumption)], rfl⟩) | (have hg : GoodQuiet xs t := ⟨by assumption, by omega, by first | assumption | omega | exact cnt_below0 (by assumption) (by omega)⟩; exact ⟨by rw [pickI_y hg, decide_eq_true hg, ← quiet_on (by assumption)], rfl⟩) | (have hg : GoodQuiet xs t := ⟨by assumption, by omega, by first | assumption | omega | exact cnt_below0 (by assumption) (by omega)⟩; exact ⟨by rw [pickI_y hg, decide_eq_true hg, ← quiet_off0 (by assumption) (by omega) (by assumption)], rfl⟩) | (have hg : GoodQuiet xs t := ⟨by assumption, by omega, by first | assumption | omega | exact cnt_below0 (by assumption) (by omega)⟩; exact ⟨by rw [pickI_y hg, decide_eq_true hg, ← quiet_on0 (by assumption) (by omega) (by assumption)], rfl⟩) | (have hg : ¬ GoodQuiet xs t := (fun q => by have q1 := q.1; have q2 := q.2.1; have q3 := q.2.2; first | contradiction | omega); exact ⟨by rw [pickI_n hg, decide_eq_false hg], rfl⟩)
  · (try simp only [Bool.not_eq_true', Bool.not_eq_false', Bool.not_eq_true, Bool.not_eq_false, decide_eq_true_eq, decide_eq_false_iff_not, List.length_map, List.length_range] at h2)
    refine aops_guard_t rfl rfl rfl (w_pure rfl (p_move rfl) ?_)
    refine aops_guard_t rfl rfl rfl (w_callR rfl rfl rfl cl_45 (c_spec_l11Tick ..) ?_)
    refine aops_guard_t rfl rfl rfl (w_pure rfl (p_not rfl) ?_)
    refine aops_cons rfl (w_pure rfl (p_pick_f rfl rfl) ?_)
    refine aops_nil ?_
    first | refine a_cond_d rfl (fun h3 => ?_) (fun h4 => ?_) | refine a_cond_n rfl (fun h3 => ?_) (fun h4 => ?_) | refine a_cond_nb rfl (fun h3 => ?_) (fun h4 => ?_) | refine a_cond rfl (fun h3 => ?_) (fun h4 => ?_)
    · (try simp only [Bool.not_eq_true', Bool.not_eq_false', Bool.not_eq_true, Bool.not_eq_false, decide_eq_true_eq, decide_eq_false_iff_not, List.length_map, List.length_range] at h3)
      refine a_seq ?_
      refine a_region ?_
      refine aops_cons rfl (w_pure rfl (p_assign rfl) ?_)
      refine aops_cons rfl (w_pure rfl (p_assign rfl) ?_)
      refine aops_nil ?_
      refine a_ret ?_
      refine ret_ok (hands2 rfl (.tmp rfl) (.tmp rfl)) (.nil _) ?_
      first | (have hg : GoodQuiet xs t := ⟨by assumption, by omega, by first | assumption | omega | exact cnt_below0 (by assumption) (by omega)⟩; exact ⟨by rw [pickI_y hg, decide_eq_true hg, ← quiet_off (by assumption)], rfl⟩) | (have hg : GoodQuiet xs t := ⟨by assumption, by omega, by first | assumption | omega | exact cnt_below0 (by assumption) (by omega)⟩; exact ⟨by rw [pickI_y hg, decide_eq_true hg, ← quiet_on (by assumption)], rfl⟩) | (have hg : GoodQuiet xs t := ⟨by assumption, by omega, by first | assumption | omega | exact cnt_below0 (by assumption) (by omega)⟩; exact ⟨by rw [pickI_y hg, decide_eq_true hg, ← quiet_off0 (by assumption) (by omega) (by assumption)], rfl⟩) | (have hg : GoodQuiet xs t := ⟨by assumption, by omega, by first | assumption | omega | exact cnt_below0 (by assumption) (by omega)⟩; exact ⟨by rw [pickI_y hg, decide_eq_true hg, ← quiet_on0 (by assumption) (by omega) (by assumption)], rfl⟩) | (have hg : ¬ GoodQuiet xs t := (fun q => by have q1 := q.1; have q2 := q.2.1; have q3 := q.2.2; first | contradiction | omega); exact ⟨by rw [pickI_n hg, decide_eq_false hg], rfl⟩)
    · (try simp only [Bool.not_eq_true', Bool.not_eq_false', Bool.not_eq_true, Bool.not_eq_false, decide_eq_true_eq, decide_eq_false_iff_not, List.length_map, List.length_range] at h4)
      refine a_skip ?_
      refine a_seq ?_
      refine a_seq ?_
      refine a_region ?_
      refine aops_cons rfl (w_pure rfl (p_move rfl) ?_)
      refine aops_cons rfl (w_pure rfl (p_gtr rfl rfl) ?_)
      refine aops_nil ?_
      first | refine a_cond_d rfl (fun h5 => ?_) (fun h6 => ?_) | refine a_cond_n rfl (fun h5 => ?_) (fun h6 => ?_) | refine a_cond_nb rfl (fun h5 => ?_) (fun h6 => ?_) | refine a_cond rfl (fun h5 => ?_) (fun h6 => ?_)
      · (try simp only [Bool.not_eq_true', Bool.not_eq_false', Bool.not_eq_true, Bool.not_eq_false, decide_eq_true_eq, decide_eq_false_iff_not, List.length_map, List.length_range] at h5)
        refine a_seq ?_
        refine a_seq ?_
        refine a_region ?_
        refine aops_cons rfl (w_pure rfl (p_move rfl) ?_)
        refine aops_cons rfl (w_pure rfl (p_move rfl) ?_)
        refine aops_cons rfl (w_pure rfl (p_sub' rfl rfl ⟨by (try simp only [List.length_map]); omega, by (try simp only [List.length_map]); omega⟩) ?_)
        refine aops_cons rfl (w_callR rfl rfl rfl cl_46 (c_spec_l11Count xs (by omega) (t - 1) (by assumption) (by omega)) ?_)
        refine aops_cons rfl (w_pure rfl (p_gtr rfl rfl) ?_)
        refine aops_nil ?_
        first | refine a_cond_d rfl (fun h7 => ?_) (fun h8 => ?_) | refine a_cond_n rfl (fun h7 => ?_) (fun h8 => ?_) | refine a_cond_nb rfl (fun h7 => ?_) (fun h8 => ?_) | refine a_cond rfl (fun h7 => ?_) (fun h8 => ?_)
        · (try simp only [Bool.not_eq_true', Bool.not_eq_false', Bool.not_eq_true, Bool.not_eq_false, decide_eq_true_eq, decide_eq_false_iff_not, List.length_map, List.length_range] at h7)
          refine a_seq ?_
          refine a_region ?_
          refine aops_cons rfl (w_pure rfl (p_assign rfl) ?_)
          refine aops_cons rfl (w_pure rfl (p_assign rfl) ?_)
          refine aops_nil ?_
          refine a_ret ?_
          refine ret_ok (hands2 rfl (.tmp rfl) (.tmp rfl)) (.nil _) ?_
          first | (have hg : GoodQuiet xs t := ⟨by assumption, by omega, by first | assumption | omega | exact cnt_below0 (by assumption) (by omega)⟩; exact ⟨by rw [pickI_y hg, decide_eq_true hg, ← quiet_off (by assumption)], rfl⟩) | (have hg : GoodQuiet xs t := ⟨by assumption, by omega, by first | assumption | omega | exact cnt_below0 (by assumption) (by omega)⟩; exact ⟨by rw [pickI_y hg, decide_eq_true hg, ← quiet_on (by assumption)], rfl⟩) | (have hg : GoodQuiet xs t := ⟨by assumption, by omega, by first | assumption | omega | exact cnt_below0 (by assumption) (by omega)⟩; exact ⟨by rw [pickI_y hg, decide_eq_true hg, ← quiet_off0 (by assumption) (by omega) (by assumption)], rfl⟩) | (have hg : GoodQuiet xs t := ⟨by assumption, by omega, by first | assumption | omega | exact cnt_below0 (by assumption) (by omega)⟩; exact ⟨by rw [pickI_y hg, decide_eq_true hg, ← quiet_on0 (by assumption) (by omega) (by assumption)], rfl⟩) | (have hg : ¬ GoodQuiet xs t := (fun q => by have q1 := q.1; have q2 := q.2.1; have q3 := q.2.2; first | contradiction | omega); exact ⟨by rw [pickI_n hg, decide_eq_false hg], rfl⟩)
        · (try simp only [Bool.not_eq_true', Bool.not_eq_false', Bool.not_eq_true, Bool.not_eq_false, decide_eq_true_eq, decide_eq_false_iff_not, List.length_map, List.length_range] at h8)
          refine a_skip ?_
          refine a_region ?_
          refine aops_cons rfl (w_pure rfl (p_move rfl) ?_)
          refine aops_cons rfl (w_pure rfl (p_move rfl) ?_)
          refine aops_cons rfl (w_pure rfl (p_sub' rfl rfl ⟨by (try simp only [List.length_map]); omega, by (try simp only [List.length_map]); omega⟩) ?_)
          refine aops_cons rfl (w_callR rfl rfl rfl cl_47 (c_spec_l11Fire xs (by omega) (t - 1) (by assumption) (by omega)) ?_)
          refine aops_cons rfl (w_pure rfl (p_move rfl) ?_)
          refine aops_cons rfl (w_pure rfl (p_extract rfl rfl) ?_)
          refine aops_cons rfl (w_pure rfl (p_extract rfl rfl) ?_)
          refine aops_cons rfl (w_pure rfl (p_assign rfl) ?_)
          refine aops_nil ?_
          refine a_seq ?_
          refine a_region ?_
          refine aops_cons rfl (w_pure rfl (p_move rfl) ?_)
          refine aops_cons rfl (w_callR rfl rfl rfl cl_66 (c_spec_l11Next _ (by first | omega | (rw [fireL_len]; omega))) ?_)
          refine aops_cons rfl (w_pure rfl (p_assign rfl) ?_)
          refine aops_nil ?_
          refine a_seq ?_
          refine a_seq ?_
          refine a_region ?_
          refine aops_cons rfl (w_pure rfl (p_move rfl) ?_)
          refine aops_cons rfl (w_pure rfl (p_lss rfl rfl) ?_)
          refine aops_nil ?_
          first | refine a_cond_d rfl (fun h9 => ?_) (fun h10 => ?_) | refine a_cond_n rfl (fun h9 => ?_) (fun h10 => ?_) | refine a_cond_nb rfl (fun h9 => ?_) (fun h10 => ?_) | refine a_cond rfl (fun h9 => ?_) (fun h10 => ?_)
          · (try simp only [Bool.not_eq_true', Bool.not_eq_false', Bool.not_eq_true, Bool.not_eq_false, decide_eq_true_eq, decide_eq_false_iff_not, List.length_map, List.length_range] at h9)
            refine a_seq ?_
            refine a_region ?_
            refine aops_cons rfl (w_pure rfl (p_assign rfl) ?_)
            refine aops_cons rfl (w_pure rfl (p_assign rfl) ?_)
            refine aops_nil ?_
            refine a_ret ?_
            refine ret_ok (hands2 rfl (.tmp rfl) (.tmp rfl)) (.nil _) ?_
            first | (have hg : GoodQuiet xs t := ⟨by assumption, by omega, by first | assumption | omega | exact cnt_below0 (by assumption) (by omega)⟩; exact ⟨by rw [pickI_y hg, decide_eq_true hg, ← quiet_off (by assumption)], rfl⟩) | (have hg : GoodQuiet xs t := ⟨by assumption, by omega, by first | assumption | omega | exact cnt_below0 (by assumption) (by omega)⟩; exact ⟨by rw [pickI_y hg, decide_eq_true hg, ← quiet_on (by assumption)], rfl⟩) | (have hg : GoodQuiet xs t := ⟨by assumption, by omega, by first | assumption | omega | exact cnt_below0 (by assumption) (by omega)⟩; exact ⟨by rw [pickI_y hg, decide_eq_true hg, ← quiet_off0 (by assumption) (by omega) (by assumption)], rfl⟩) | (have hg : GoodQuiet xs t := ⟨by assumption, by omega, by first | assumption | omega | exact cnt_below0 (by assumption) (by omega)⟩; exact ⟨by rw [pickI_y hg, decide_eq_true hg, ← quiet_on0 (by assumption) (by omega) (by assumption)], rfl⟩) | (have hg : ¬ GoodQuiet xs t := (fun q => by have q1 := q.1; have q2 := q.2.1; have q3 := q.2.2; first | contradiction | omega); exact ⟨by rw [pickI_n hg, decide_eq_false hg], rfl⟩)
          · (try simp only [Bool.not_eq_true', Bool.not_eq_false', Bool.not_eq_true, Bool.not_eq_false, decide_eq_true_eq, decide_eq_false_iff_not, List.length_map, List.length_range] at h10)
            refine a_skip ?_
            refine a_seq ?_
            refine a_region ?_
            refine aops_cons rfl (w_pure rfl (p_move rfl) ?_)
            refine aops_cons rfl (w_pure rfl (p_move rfl) ?_)
            refine aops_cons rfl (w_pure rfl (p_index_sl (fireI (fireL xs (t - 1))).toNat rfl rfl (by omega) (rowD _ _ zTimer (by have := (fireI_lt (fireL xs (t - 1))).2; omega)) es_24) ?_)
            refine aops_cons rfl (w_pure rfl (p_field_v fo_47_1 rfl) ?_)
            refine aops_cons rfl (w_pure rfl (p_load_v ag_3 rfl (by rfl) noX) ?_)
            refine aops_cons rfl (w_pure rfl (p_move rfl) ?_)
            refine aops_cons rfl (w_pure rfl (p_sub' rfl rfl ⟨by first | (have := nxt_rng (fire_are ‹AreTimers xs› (s := t - 1) (by omega)) (by omega); omega) | (have := nxt_rng ‹AreTimers xs› (by omega); omega), by first | (have := nxt_rng (fire_are ‹AreTimers xs› (s := t - 1) (by omega)) (by omega); omega) | (have := nxt_rng ‹AreTimers xs› (by omega); omega)⟩) ?_)
            refine aops_cons rfl (w_pure rfl (p_assign rfl) ?_)
            refine aops_cons rfl (w_pure rfl (p_assign rfl) ?_)
            refine aops_nil ?_
            refine a_ret ?_
            refine ret_ok (hands2 rfl (.tmp rfl) (.tmp rfl)) (.nil _) ?_
            first | (have hg : GoodQuiet xs t := ⟨by assumption, by omega, by first | assumption | omega | exact cnt_below0 (by assumption) (by omega)⟩; exact ⟨by rw [pickI_y hg, decide_eq_true hg, ← quiet_off (by assumption)], rfl⟩) | (have hg : GoodQuiet xs t := ⟨by assumption, by omega, by first | assumption | omega | exact cnt_below0 (by assumption) (by omega)⟩; exact ⟨by rw [pickI_y hg, decide_eq_true hg, ← quiet_on (by assumption)], rfl⟩) | (have hg : GoodQuiet xs t := ⟨by assumption, by omega, by first | assumption | omega | exact cnt_below0 (by assumption) (by omega)⟩; exact ⟨by rw [pickI_y hg, decide_eq_true hg, ← quiet_off0 (by assumption) (by omega) (by assumption)], rfl⟩) | (have hg : GoodQuiet xs t := ⟨by assumption, by omega, by first | assumption | omega | exact cnt_below0 (by assumption) (by omega)⟩; exact ⟨by rw [pickI_y hg, decide_eq_true hg, ← quiet_on0 (by assumption) (by omega) (by assumption)], rfl⟩) | (have hg : ¬ GoodQuiet xs t := (fun q => by have q1 := q.1; have q2 := q.2.1; have q3 := q.2.2; first | contradiction | omega); exact ⟨by rw [pickI_n hg, decide_eq_false hg], rfl⟩)
      · (try simp only [Bool.not_eq_true', Bool.not_eq_false', Bool.not_eq_true, Bool.not_eq_false, decide_eq_true_eq, decide_eq_false_iff_not, List.length_map, List.length_range] at h6)
        refine a_skip ?_
        refine a_seq ?_
        refine a_region ?_
        refine aops_cons rfl (w_pure rfl (p_move rfl) ?_)
        refine aops_cons rfl (w_callR rfl rfl rfl cl_66 (c_spec_l11Next _ (by first | omega | (rw [fireL_len]; omega))) ?_)
        refine aops_cons rfl (w_pure rfl (p_assign rfl) ?_)
        refine aops_nil ?_
        refine a_seq ?_
        refine a_seq ?_
        refine a_region ?_
        refine aops_cons rfl (w_pure rfl (p_move rfl) ?_)
        refine aops_cons rfl (w_pure rfl (p_lss rfl rfl) ?_)
        refine aops_nil ?_
        first | refine a_cond_d rfl (fun h11 => ?_) (fun h12 => ?_) | refine a_cond_n rfl (fun h11 => ?_) (fun h12 => ?_) | refine a_cond_nb rfl (fun h11 => ?_) (fun h12 => ?_) | refine a_cond rfl (fun h11 => ?_) (fun h12 => ?_)
        · (try simp only [Bool.not_eq_true', Bool.not_eq_false', Bool.not_eq_true, Bool.not_eq_false, decide_eq_true_eq, decide_eq_false_iff_not, List.length_map, List.length_range] at h11)
          refine a_seq ?_
          refine a_region ?_
          refine aops_cons rfl (w_pure rfl (p_assign rfl) ?_)
          refine aops_cons rfl (w_pure rfl (p_assign rfl) ?_)
          refine aops_nil ?_
          refine a_ret ?_
          refine ret_ok (hands2 rfl (.tmp rfl) (.tmp rfl)) (.nil _) ?_
          first | (have hg : GoodQuiet xs t := ⟨by assumption, by omega, by first | assumption | omega | exact cnt_below0 (by assumption) (by omega)⟩; exact ⟨by rw [pickI_y hg, decide_eq_true hg, ← quiet_off (by assumption)], rfl⟩) | (have hg : GoodQuiet xs t := ⟨by assumption, by omega, by first | assumption | omega | exact cnt_below0 (by assumption) (by omega)⟩; exact ⟨by rw [pickI_y hg, decide_eq_true hg, ← quiet_on (by assumption)], rfl⟩) | (have hg : GoodQuiet xs t := ⟨by assumption, by omega, by first | assumption | omega | exact cnt_below0 (by assumption) (by omega)⟩; exact ⟨by rw [pickI_y hg, decide_eq_true hg, ← quiet_off0 (by assumption) (by omega) (by assumption)], rfl⟩) | (have hg : GoodQuiet xs t := ⟨by assumption, by omega, by first | assumption | omega | exact cnt_below0 (by assumption) (by omega)⟩; exact ⟨by rw [pickI_y hg, decide_eq_true hg, ← quiet_on0 (by assumption) (by omega) (by assumption)], rfl⟩) | (have hg : ¬ GoodQuiet xs t := (fun q => by have q1 := q.1; have q2 := q.2.1; have q3 := q.2.2; first | contradiction | omega); exact ⟨by rw [pickI_n hg, decide_eq_false hg], rfl⟩)
        · (try simp only [Bool.not_eq_true', Bool.not_eq_false', Bool.not_eq_true, Bool.not_eq_false, decide_eq_true_eq, decide_eq_false_iff_not, List.length_map, List.length_range] at h12)
          refine a_skip ?_
          refine a_seq ?_
          refine a_region ?_
          refine aops_cons rfl (w_pure rfl (p_move rfl) ?_)
          refine aops_cons rfl (w_pure rfl (p_move rfl) ?_)
          refine aops_cons rfl (w_pure rfl (p_index_sl (fireI xs).toNat rfl rfl (by omega) (rowD _ _ zTimer (by have := (fireI_lt xs).2; omega)) es_24) ?_)
          refine aops_cons rfl (w_pure rfl (p_field_v fo_47_1 rfl) ?_)
          refine aops_cons rfl (w_pure rfl (p_load_v ag_3 rfl (by rfl) noX) ?_)
          refine aops_cons rfl (w_pure rfl (p_move rfl) ?_)
          refine aops_cons rfl (w_pure rfl (p_sub' rfl rfl ⟨by first | (have := nxt_rng (fire_are ‹AreTimers xs› (s := t - 1) (by omega)) (by omega); omega) | (have := nxt_rng ‹AreTimers xs› (by omega); omega), by first | (have := nxt_rng (fire_are ‹AreTimers xs› (s := t - 1) (by omega)) (by omega); omega) | (have := nxt_rng ‹AreTimers xs› (by omega); omega)⟩) ?_)
          refine aops_cons rfl (w_pure rfl (p_assign rfl) ?_)
          refine aops_cons rfl (w_pure rfl (p_assign rfl) ?_)
          refine aops_nil ?_
          refine a_ret ?_
          refine ret_ok (hands2 rfl (.tmp rfl) (.tmp rfl)) (.nil _) ?_
          first | (have hg : GoodQuiet xs t := ⟨by assumption, by omega, by first | assumption | omega | exact cnt_below0 (by assumption) (by omega)⟩; exact ⟨by rw [pickI_y hg, decide_eq_true hg, ← quiet_off (by assumption)], rfl⟩) | (have hg : GoodQuiet xs t := ⟨by assumption, by omega, by first | assumption | omega | exact cnt_below0 (by assumption) (by omega)⟩; exact ⟨by rw [pickI_y hg, decide_eq_true hg, ← quiet_on (by assumption)], rfl⟩) | (have hg : GoodQuiet xs t := ⟨by assumption, by omega, by first | assumption | omega | exact cnt_below0 (by assumption) (by omega)⟩; exact ⟨by rw [pickI_y hg, decide_eq_true hg, ← quiet_off0 (by assumption) (by omega) (by assumption)], rfl⟩) | (have hg : GoodQuiet xs t := ⟨by assumption, by omega, by first | assumption | omega | exact cnt_below0 (by assumption) (by omega)⟩; exact ⟨by rw [pickI_y hg, decide_eq_true hg, ← quiet_on0 (by assumption) (by omega) (by assumption)], rfl⟩) | (have hg : ¬ GoodQuiet xs t := (fun q => by have q1 := q.1; have q2 := q.2.1; have q3 := q.2.2; first | contradiction | omega); exact ⟨by rw [pickI_n hg, decide_eq_false hg], rfl⟩)

theorem c_spec_l1Cur_next (q : Nat) (bs : List Int) (hb : Bytes bs) (a s : Int) (h0 : 0 ≤ a) (h1 : a ≤ 999999999000)  : ACalls Try.prog 74 [.ptr q 0] [(q, curE bs a s)] (fun r st => ∃ m a' s', r = .int .i64 m ∧ (0 ≤ m ∧ m ≤ 255) ∧ a ≤ a' ∧ a' ≤ a + 1 ∧ st = [(q, curE bs a' s')]) := by
  refine a_enter Try.func74 rfl rfl (fun w0 M0 => ?_)
  refine a_seq ?_
  refine a_region ?_
  refine aops_cons rfl (w_pure rfl (p_assign rfl) ?_)
  refine aops_nil ?_
  refine a_seq ?_
  refine a_region ?_
  refine aops_cons rfl (w_pure rfl (p_assign rfl) ?_)
  refine aops_nil ?_
  refine a_seq ?_
  refine a_seq ?_
  refine a_draw [] (by kernel_rfl) ?_
  show ADraw _ _ _ _ _ _ 10 _ _ _ _
  refine d_take 0 rfl (by kernel_rfl) (by kernel_rfl) (by kernel_rfl) rfl (p_move rfl) ?_
  refine d_take 1 rfl (by kernel_rfl) (by kernel_rfl) (by kernel_rfl) rfl (p_nil rfl) ?_
  refine d_take 2 rfl (by kernel_rfl) (by kernel_rfl) (by kernel_rfl) rfl (p_field_box fo_67_1 rfl) ?_
  refine d_load 3 rfl (by kernel_rfl) (by kernel_rfl) (by kernel_rfl) rfl (p_load_box ag_3 rfl (by repeat (first | exact Pick.here _ _ _ | apply Pick.next)) (by rfl) noX) ?_
  refine d_take 4 rfl (by kernel_rfl) (by kernel_rfl) (by kernel_rfl) rfl (p_move rfl) ?_
  refine d_take 5 rfl (by kernel_rfl) (by kernel_rfl) (by kernel_rfl) rfl (p_nil rfl) ?_
  refine d_take 6 rfl (by kernel_rfl) (by kernel_rfl) (by kernel_rfl) rfl (p_field_box fo_67_0 rfl) ?_
  refine d_load 7 rfl (by kernel_rfl) (by kernel_rfl) (by kernel_rfl) rfl (p_load_box ag_34 rfl (by repeat (first | exact Pick.here _ _ _ | apply Pick.next)) (by rfl) noX) ?_
  refine d_take 8 rfl (by kernel_rfl) (by kernel_rfl) (by kernel_rfl) rfl (p_len sl_34 rfl rfl) ?_
  refine d_take 9 rfl (by kernel_rfl) (by kernel_rfl) (by kernel_rfl) rfl (p_lss rfl rfl) ?_
  refine draw_done (by kernel_rfl) ?_
  first | refine a_cond_d rfl (fun h1 => ?_) (fun h2 => ?_) | refine a_cond_n rfl (fun h1 => ?_) (fun h2 => ?_) | refine a_cond_nb rfl (fun h1 => ?_) (fun h2 => ?_) | refine a_cond rfl (fun h1 => ?_) (fun h2 => ?_)
  · (try simp only [Bool.not_eq_true', Bool.not_eq_false', Bool.not_eq_true, Bool.not_eq_false, decide_eq_true_eq, decide_eq_false_iff_not, List.length_map, List.length_range] at h1)
    refine a_draw [] (by kernel_rfl) ?_
    show ADraw _ _ _ _ _ _ 12 _ _ _ _
    refine d_take 0 rfl (by kernel_rfl) (by kernel_rfl) (by kernel_rfl) rfl (p_move rfl) ?_
    refine d_take 1 rfl (by kernel_rfl) (by kernel_rfl) (by kernel_rfl) rfl (p_nil rfl) ?_
    refine d_take 2 rfl (by kernel_rfl) (by kernel_rfl) (by kernel_rfl) rfl (p_field_box fo_67_0 rfl) ?_
    refine d_load 3 rfl (by kernel_rfl) (by kernel_rfl) (by kernel_rfl) rfl (p_load_box ag_34 rfl (by repeat (first | exact Pick.here _ _ _ | apply Pick.next)) (by rfl) noX) ?_
    refine d_take 4 rfl (by kernel_rfl) (by kernel_rfl) (by kernel_rfl) rfl (p_move rfl) ?_
    refine d_take 5 rfl (by kernel_rfl) (by kernel_rfl) (by kernel_rfl) rfl (p_nil rfl) ?_
    refine d_take 6 rfl (by kernel_rfl) (by kernel_rfl) (by kernel_rfl) rfl (p_field_box fo_67_1 rfl) ?_
    refine d_load 7 rfl (by kernel_rfl) (by kernel_rfl) (by kernel_rfl) rfl (p_load_box ag_3 rfl (by repeat (first | exact Pick.here _ _ _ | apply Pick.next)) (by rfl) noX) ?_
    refine d_take 8 rfl (by kernel_rfl) (by kernel_rfl) (by kernel_rfl) rfl (p_index_sl a.toNat rfl rfl (by omega) (rowD _ _ (0 : Int) (by omega)) es_34) ?_
    refine d_load 9 rfl (by kernel_rfl) (by kernel_rfl) (by kernel_rfl) rfl (p_load_v ag_5 rfl (by rfl) noX) ?_
    refine d_take 10 rfl (by kernel_rfl) (by kernel_rfl) (by kernel_rfl) rfl (p_convert ui_5 um_3 rfl) ?_
    refine d_take 11 rfl (by kernel_rfl) (by kernel_rfl) (by kernel_rfl) rfl (p_assign rfl) ?_
    refine draw_done (by kernel_rfl) ?_
    refine a_seq ?_
    refine a_region ?_
    refine aops_cons rfl (w_pure rfl (p_move rfl) ?_)
    refine aops_cons rfl (w_pure rfl (p_nil rfl) ?_)
    refine aops_cons rfl (w_pure rfl (p_field_box fo_67_1 rfl) ?_)
    refine aops_cons rfl (w_pure rfl (p_load_box ag_3 rfl (by repeat (first | exact Pick.here _ _ _ | apply Pick.next)) (by rfl) noX) ?_)
    refine aops_cons rfl (w_pure rfl (p_add' rfl rfl ⟨by omega, by omega⟩) ?_)
    refine aops_cons rfl (w_pure rfl (p_nil rfl) ?_)
    refine aops_cons rfl (w_pure rfl (p_field_box fo_67_1 rfl) ?_)
    refine aops_cons rfl (w_store (cells' := [_, _, _]) rfl rfl rfl (by repeat (first | exact Pick.here _ _ _ | apply Pick.next)) cn_3 (by rfl) (by rfl) (by rfl) trivial ?_)
    refine aops_nil ?_
    refine a_seq ?_
    refine a_region ?_
    refine aops_cons rfl (w_pure rfl (p_move rfl) ?_)
    refine aops_cons rfl (w_pure rfl (p_move rfl) ?_)
    refine aops_cons rfl (w_pure rfl (p_nil rfl) ?_)
    refine aops_cons rfl (w_pure rfl (p_field_box fo_67_2 rfl) ?_)
    refine aops_cons rfl (w_pure rfl (p_load_box ag_65 rfl (by repeat (first | exact Pick.here _ _ _ | apply Pick.next)) (by rfl) noX) ?_)
    refine aops_cons rfl (w_pure rfl (p_mul rfl rfl) ?_)
    refine aops_cons rfl (w_pure rfl (p_move rfl) ?_)
    refine aops_cons rfl (w_pure rfl (p_convert ui_3 um_65 rfl) ?_)
    refine aops_cons rfl (w_pure rfl (p_add rfl rfl) ?_)
    refine aops_cons rfl (w_pure rfl (p_add rfl rfl) ?_)
    refine aops_cons rfl (w_pure rfl (p_nil rfl) ?_)
    refine aops_cons rfl (w_pure rfl (p_field_box fo_67_2 rfl) ?_)
    refine aops_cons rfl (w_store (cells' := [_, _, _]) rfl rfl rfl (by repeat (first | exact Pick.here _ _ _ | apply Pick.next)) cn_65 (by rfl) (by rfl) (by rfl) trivial ?_)
    refine aops_nil ?_
    refine a_seq ?_
    refine a_seq ?_
    refine a_draw [] (by kernel_rfl) ?_
    show ADraw _ _ _ _ _ _ 10 _ _ _ _
    refine d_take 0 rfl (by kernel_rfl) (by kernel_rfl) (by kernel_rfl) rfl (p_move rfl) ?_
    refine d_take 1 rfl (by kernel_rfl) (by kernel_rfl) (by kernel_rfl) rfl (p_nil rfl) ?_
    refine d_take 2 rfl (by kernel_rfl) (by kernel_rfl) (by kernel_rfl) rfl (p_field_box fo_67_1 rfl) ?_
    refine d_load 3 rfl (by kernel_rfl) (by kernel_rfl) (by kernel_rfl) rfl (p_load_box ag_3 rfl (by repeat (first | exact Pick.here _ _ _ | apply Pick.next)) (by rfl) noX) ?_
    refine d_take 4 rfl (by kernel_rfl) (by kernel_rfl) (by kernel_rfl) rfl (p_move rfl) ?_
    refine d_take 5 rfl (by kernel_rfl) (by kernel_rfl) (by kernel_rfl) rfl (p_nil rfl) ?_
    refine d_take 6 rfl (by kernel_rfl) (by kernel_rfl) (by kernel_rfl) rfl (p_field_box fo_67_0 rfl) ?_
    refine d_load 7 rfl (by kernel_rfl) (by kernel_rfl) (by kernel_rfl) rfl (p_load_box ag_34 rfl (by repeat (first | exact Pick.here _ _ _ | apply Pick.next)) (by rfl) noX) ?_
    refine d_take 8 rfl (by kernel_rfl) (by kernel_rfl) (by kernel_rfl) rfl (p_len sl_34 rfl rfl) ?_
    refine d_take 9 rfl (by kernel_rfl) (by kernel_rfl) (by kernel_rfl) rfl (p_leq rfl rfl) ?_
    refine draw_done (by kernel_rfl) ?_
    first | refine a_cond_d rfl (fun h3 => ?_) (fun h4 => ?_) | refine a_cond_n rfl (fun h3 => ?_) (fun h4 => ?_) | refine a_cond_nb rfl (fun h3 => ?_) (fun h4 => ?_) | refine a_cond rfl (fun h3 => ?_) (fun h4 => ?_)
    · (try simp only [Bool.not_eq_true', Bool.not_eq_false', Bool.not_eq_true, Bool.not_eq_false, decide_eq_true_eq, decide_eq_false_iff_not, List.length_map, List.length_range] at h3)
      refine a_seq ?_
      refine a_region ?_
      refine aops_cons rfl (w_pure rfl (p_move rfl) ?_)
      refine aops_cons rfl (w_pure rfl (p_assign rfl) ?_)
      refine aops_nil ?_
      refine a_ret ?_
      refine ret_ok (hands1 rfl (.tmp rfl)) (st' := [(q, _)]) (.cons (by repeat (first | exact Pick.here _ _ _ | apply Pick.next)) (.nil _)) ?_
      first | exact ⟨_, _, _, rfl, (by first | exact wrap_rng (hb.at (by omega)) | exact and_rng _ | exact ⟨by decide, by decide⟩), by omega, by omega, rfl⟩
    · (try simp only [Bool.not_eq_true', Bool.not_eq_false', Bool.not_eq_true, Bool.not_eq_false, decide_eq_true_eq, decide_eq_false_iff_not, List.length_map, List.length_range] at h4)
      refine a_skip ?_
      refine a_seq ?_
      refine a_region ?_
      refine aops_cons rfl (w_pure rfl (p_move rfl) ?_)
      refine aops_cons rfl (w_pure rfl (p_nil rfl) ?_)
      refine aops_cons rfl (w_pure rfl (p_field_box fo_67_2 rfl) ?_)
      refine aops_cons rfl (w_pure rfl (p_load_box ag_65 rfl (by repeat (first | exact Pick.here _ _ _ | apply Pick.next)) (by rfl) noX) ?_)
      refine aops_cons rfl (w_pure rfl (p_shr rfl rfl (by omega)) ?_)
      refine aops_cons rfl (w_pure rfl (p_bits .and (by decide) rfl rfl) ?_)
      refine aops_cons rfl (w_pure rfl (p_convert ui_65 um_3 rfl) ?_)
      refine aops_cons rfl (w_pure rfl (p_assign rfl) ?_)
      refine aops_nil ?_
      refine a_ret ?_
      refine ret_ok (hands1 rfl (.tmp rfl)) (st' := [(q, _)]) (.cons (by repeat (first | exact Pick.here _ _ _ | apply Pick.next)) (.nil _)) ?_
      first | exact ⟨_, _, _, rfl, (by first | exact wrap_rng (hb.at (by omega)) | exact and_rng _ | exact ⟨by decide, by decide⟩), by omega, by omega, rfl⟩
  · (try simp only [Bool.not_eq_true', Bool.not_eq_false', Bool.not_eq_true, Bool.not_eq_false, decide_eq_true_eq, decide_eq_false_iff_not, List.length_map, List.length_range] at h2)
    refine a_skip ?_
    refine a_seq ?_
    refine a_region ?_
    refine aops_cons rfl (w_pure rfl (p_move rfl) ?_)
    refine aops_cons rfl (w_pure rfl (p_nil rfl) ?_)
    refine aops_cons rfl (w_pure rfl (p_field_box fo_67_1 rfl) ?_)
    refine aops_cons rfl (w_pure rfl (p_load_box ag_3 rfl (by repeat (first | exact Pick.here _ _ _ | apply Pick.next)) (by rfl) noX) ?_)
    refine aops_cons rfl (w_pure rfl (p_add' rfl rfl ⟨by omega, by omega⟩) ?_)
    refine aops_cons rfl (w_pure rfl (p_nil rfl) ?_)
    refine aops_cons rfl (w_pure rfl (p_field_box fo_67_1 rfl) ?_)
    refine aops_cons rfl (w_store (cells' := [_, _, _]) rfl rfl rfl (by repeat (first | exact Pick.here _ _ _ | apply Pick.next)) cn_3 (by rfl) (by rfl) (by rfl) trivial ?_)
    refine aops_nil ?_
    refine a_seq ?_
    refine a_region ?_
    refine aops_cons rfl (w_pure rfl (p_move rfl) ?_)
    refine aops_cons rfl (w_pure rfl (p_move rfl) ?_)
    refine aops_cons rfl (w_pure rfl (p_nil rfl) ?_)
    refine aops_cons rfl (w_pure rfl (p_field_box fo_67_2 rfl) ?_)
    refine aops_cons rfl (w_pure rfl (p_load_box ag_65 rfl (by repeat (first | exact Pick.here _ _ _ | apply Pick.next)) (by rfl) noX) ?_)
    refine aops_cons rfl (w_pure rfl (p_mul rfl rfl) ?_)
    refine aops_cons rfl (w_pure rfl (p_move rfl) ?_)
    refine aops_cons rfl (w_pure rfl (p_convert ui_3 um_65 rfl) ?_)
    refine aops_cons rfl (w_pure rfl (p_add rfl rfl) ?_)
    refine aops_cons rfl (w_pure rfl (p_add rfl rfl) ?_)
    refine aops_cons rfl (w_pure rfl (p_nil rfl) ?_)
    refine aops_cons rfl (w_pure rfl (p_field_box fo_67_2 rfl) ?_)
    refine aops_cons rfl (w_store (cells' := [_, _, _]) rfl rfl rfl (by repeat (first | exact Pick.here _ _ _ | apply Pick.next)) cn_65 (by rfl) (by rfl) (by rfl) trivial ?_)
    refine aops_nil ?_
    refine a_seq ?_
    refine a_seq ?_
    refine a_draw [] (by kernel_rfl) ?_
    show ADraw _ _ _ _ _ _ 10 _ _ _ _
    refine d_take 0 rfl (by kernel_rfl) (by kernel_rfl) (by kernel_rfl) rfl (p_move rfl) ?_
    refine d_take 1 rfl (by kernel_rfl) (by kernel_rfl) (by kernel_rfl) rfl (p_nil rfl) ?_
    refine d_take 2 rfl (by kernel_rfl) (by kernel_rfl) (by kernel_rfl) rfl (p_field_box fo_67_1 rfl) ?_
    refine d_load 3 rfl (by kernel_rfl) (by kernel_rfl) (by kernel_rfl) rfl (p_load_box ag_3 rfl (by repeat (first | exact Pick.here _ _ _ | apply Pick.next)) (by rfl) noX) ?_
    refine d_take 4 rfl (by kernel_rfl) (by kernel_rfl) (by kernel_rfl) rfl (p_move rfl) ?_
    refine d_take 5 rfl (by kernel_rfl) (by kernel_rfl) (by kernel_rfl) rfl (p_nil rfl) ?_
    refine d_take 6 rfl (by kernel_rfl) (by kernel_rfl) (by kernel_rfl) rfl (p_field_box fo_67_0 rfl) ?_
    refine d_load 7 rfl (by kernel_rfl) (by kernel_rfl) (by kernel_rfl) rfl (p_load_box ag_34 rfl (by repeat (first | exact Pick.here _ _ _ | apply Pick.next)) (by rfl) noX) ?_
    refine d_take 8 rfl (by kernel_rfl) (by kernel_rfl) (by kernel_rfl) rfl (p_len sl_34 rfl rfl) ?_
    refine d_take 9 rfl (by kernel_rfl) (by kernel_rfl) (by kernel_rfl) rfl (p_leq rfl rfl) ?_
    refine draw_done (by kernel_rfl) ?_
    first | refine a_cond_d rfl (fun h5 => ?_) (fun h6 => ?_) | refine a_cond_n rfl (fun h5 => ?_) (fun h6 => ?_) | refine a_cond_nb rfl (fun h5 => ?_) (fun h6 => ?_) | refine a_cond rfl (fun h5 => ?_) (fun h6 => ?_)
    · (try simp only [Bool.not_eq_true', Bool.not_eq_false', Bool.not_eq_true, Bool.not_eq_false, decide_eq_true_eq, decide_eq_false_iff_not, List.length_map, List.length_range] at h5)
      refine a_seq ?_
      refine a_region ?_
      refine aops_cons rfl (w_pure rfl (p_move rfl) ?_)
      refine aops_cons rfl (w_pure rfl (p_assign rfl) ?_)
      refine aops_nil ?_
      refine a_ret ?_
      refine ret_ok (hands1 rfl (.tmp rfl)) (st' := [(q, _)]) (.cons (by repeat (first | exact Pick.here _ _ _ | apply Pick.next)) (.nil _)) ?_
      first | exact ⟨_, _, _, rfl, (by first | exact wrap_rng (hb.at (by omega)) | exact and_rng _ | exact ⟨by decide, by decide⟩), by omega, by omega, rfl⟩
    · (try simp only [Bool.not_eq_true', Bool.not_eq_false', Bool.not_eq_true, Bool.not_eq_false, decide_eq_true_eq, decide_eq_false_iff_not, List.length_map, List.length_range] at h6)
      refine a_skip ?_
      refine a_seq ?_
      refine a_region ?_
      refine aops_cons rfl (w_pure rfl (p_move rfl) ?_)
      refine aops_cons rfl (w_pure rfl (p_nil rfl) ?_)
      refine aops_cons rfl (w_pure rfl (p_field_box fo_67_2 rfl) ?_)
      refine aops_cons rfl (w_pure rfl (p_load_box ag_65 rfl (by repeat (first | exact Pick.here _ _ _ | apply Pick.next)) (by rfl) noX) ?_)
      refine aops_cons rfl (w_pure rfl (p_shr rfl rfl (by omega)) ?_)
      refine aops_cons rfl (w_pure rfl (p_bits .and (by decide) rfl rfl) ?_)
      refine aops_cons rfl (w_pure rfl (p_convert ui_65 um_3 rfl) ?_)
      refine aops_cons rfl (w_pure rfl (p_assign rfl) ?_)
      refine aops_nil ?_
      refine a_ret ?_
      refine ret_ok (hands1 rfl (.tmp rfl)) (st' := [(q, _)]) (.cons (by repeat (first | exact Pick.here _ _ _ | apply Pick.next)) (.nil _)) ?_
      first | exact ⟨_, _, _, rfl, (by first | exact wrap_rng (hb.at (by omega)) | exact and_rng _ | exact ⟨by decide, by decide⟩), by omega, by omega, rfl⟩

theorem c_spec_l1Cur_pick (q : Nat) (bs : List Int) (hb : Bytes bs) (a s : Int) (h0 : 0 ≤ a) (h1 : a ≤ 999999998000) (n : Int) (hn : n ≤ 1000000) : ACalls Try.prog 56 [.ptr q 0, .int .i64 n] [(q, curE bs a s)] (fun r st => ∃ m a' s', r = .int .i64 m ∧ (0 ≤ m ∧ (m < n ∨ m = 0)) ∧ a ≤ a' ∧ a' ≤ a + 2 ∧ st = [(q, curE bs a' s')]) := by
  refine a_enter Try.func56 rfl rfl (fun w0 M0 => ?_)
  refine a_seq ?_
  refine a_region ?_
  refine aops_cons rfl (w_pure rfl (p_assign rfl) ?_)
  refine aops_nil ?_
  refine a_seq ?_
  refine a_seq ?_
  refine a_region ?_
  refine aops_cons rfl (w_pure rfl (p_move rfl) ?_)
  refine aops_cons rfl (w_pure rfl (p_leq rfl rfl) ?_)
  refine aops_nil ?_
  first | refine a_cond_d rfl (fun h1 => ?_) (fun h2 => ?_) | refine a_cond_n rfl (fun h1 => ?_) (fun h2 => ?_) | refine a_cond_nb rfl (fun h1 => ?_) (fun h2 => ?_) | refine a_cond rfl (fun h1 => ?_) (fun h2 => ?_)
  · (try simp only [Bool.not_eq_true', Bool.not_eq_false', Bool.not_eq_true, Bool.not_eq_false, decide_eq_true_eq, decide_eq_false_iff_not, List.length_map, List.length_range] at h1)
    refine a_seq ?_
    refine a_region ?_
    refine aops_cons rfl (w_pure rfl (p_assign rfl) ?_)
    refine aops_nil ?_
    refine a_ret ?_
    refine ret_ok (hands1 rfl (.tmp rfl)) (st' := [(q, _)]) (.cons (by repeat (first | exact Pick.here _ _ _ | apply Pick.next)) (.nil _)) ?_
    first | exact ⟨_, _, _, rfl, ⟨by decide, .inr rfl⟩, by omega, by omega, rfl⟩ | exact ⟨_, _, _, rfl, ⟨Int.emod_nonneg _ (by omega), .inl (Int.emod_lt_of_pos _ (by omega))⟩, by omega, by omega, rfl⟩
  · (try simp only [Bool.not_eq_true', Bool.not_eq_false', Bool.not_eq_true, Bool.not_eq_false, decide_eq_true_eq, decide_eq_false_iff_not, List.length_map, List.length_range] at h2)
    refine a_skip ?_
    refine a_seq ?_
    refine a_region ?_
    refine aops_cons rfl (w_pure rfl (p_move rfl) ?_)
    refine aops_cons rfl (w_callM0 rfl rfl rfl cl_74 (.cons (by repeat (first | exact Pick.here _ _ _ | apply Pick.next)) (.nil _)) (c_spec_l1Cur_next _ _ hb _ _ (by omega) (by omega) ) trivial ?_)
    rintro _ _ ⟨m1, a1, s1, rfl, hm1, ha1, hc1, rfl⟩
    (try simp only [List.length_map] at hm1)
    refine aops_cons rfl (w_pure rfl (p_assign rfl) ?_)
    refine aops_nil ?_
    refine a_seq ?_
    refine a_seq ?_
    refine a_region ?_
    refine aops_cons rfl (w_pure rfl (p_move rfl) ?_)
    refine aops_cons rfl (w_pure rfl (p_gtr rfl rfl) ?_)
    refine aops_nil ?_
    first | refine a_cond_d rfl (fun h3 => ?_) (fun h4 => ?_) | refine a_cond_n rfl (fun h3 => ?_) (fun h4 => ?_) | refine a_cond_nb rfl (fun h3 => ?_) (fun h4 => ?_) | refine a_cond rfl (fun h3 => ?_) (fun h4 => ?_)
    · (try simp only [Bool.not_eq_true', Bool.not_eq_false', Bool.not_eq_true, Bool.not_eq_false, decide_eq_true_eq, decide_eq_false_iff_not, List.length_map, List.length_range] at h3)
      refine a_region ?_
      refine aops_cons rfl (w_pure rfl (p_move rfl) ?_)
      refine aops_cons rfl (w_pure rfl (p_mul' rfl rfl ⟨by omega, by omega⟩) ?_)
      refine aops_cons rfl (w_pure rfl (p_move rfl) ?_)
      refine aops_cons rfl (w_callM0 rfl rfl rfl cl_74 (.cons (by repeat (first | exact Pick.here _ _ _ | apply Pick.next)) (.nil _)) (c_spec_l1Cur_next _ _ hb _ _ (by omega) (by omega) ) trivial ?_)
      rintro _ _ ⟨m2, a2, s2, rfl, hm2, ha2, hc2, rfl⟩
      (try simp only [List.length_map] at hm2)
      refine aops_cons rfl (w_pure rfl (p_add' rfl rfl ⟨by omega, by omega⟩) ?_)
      refine aops_cons rfl (w_pure rfl (p_assign rfl) ?_)
      refine aops_nil ?_
      refine a_seq ?_
      refine a_region ?_
      refine aops_cons rfl (w_pure rfl (p_move rfl) ?_)
      refine aops_cons rfl (w_pure rfl (p_move rfl) ?_)
      refine aops_cons rfl (w_pure rfl (p_rem' rfl rfl (by omega) (by omega)) ?_)
      refine aops_cons rfl (w_pure rfl (p_assign rfl) ?_)
      refine aops_nil ?_
      refine a_ret ?_
      refine ret_ok (hands1 rfl (.tmp rfl)) (st' := [(q, _)]) (.cons (by repeat (first | exact Pick.here _ _ _ | apply Pick.next)) (.nil _)) ?_
      first | exact ⟨_, _, _, rfl, ⟨by decide, .inr rfl⟩, by omega, by omega, rfl⟩ | exact ⟨_, _, _, rfl, ⟨Int.emod_nonneg _ (by omega), .inl (Int.emod_lt_of_pos _ (by omega))⟩, by omega, by omega, rfl⟩
    · (try simp only [Bool.not_eq_true', Bool.not_eq_false', Bool.not_eq_true, Bool.not_eq_false, decide_eq_true_eq, decide_eq_false_iff_not, List.length_map, List.length_range] at h4)
      refine a_skip ?_
      refine a_seq ?_
      refine a_region ?_
      refine aops_cons rfl (w_pure rfl (p_move rfl) ?_)
      refine aops_cons rfl (w_pure rfl (p_move rfl) ?_)
      refine aops_cons rfl (w_pure rfl (p_rem' rfl rfl (by omega) (by omega)) ?_)
      refine aops_cons rfl (w_pure rfl (p_assign rfl) ?_)
      refine aops_nil ?_
      refine a_ret ?_
      refine ret_ok (hands1 rfl (.tmp rfl)) (st' := [(q, _)]) (.cons (by repeat (first | exact Pick.here _ _ _ | apply Pick.next)) (.nil _)) ?_
      first | exact ⟨_, _, _, rfl, ⟨by decide, .inr rfl⟩, by omega, by omega, rfl⟩ | exact ⟨_, _, _, rfl, ⟨Int.emod_nonneg _ (by omega), .inl (Int.emod_lt_of_pos _ (by omega))⟩, by omega, by omega, rfl⟩

theorem c_spec_l1Cur_one (q : Nat) (bs : List Int) (hb : Bytes bs) (a s : Int) (h0 : 0 ≤ a) (h1 : a ≤ 999999998000) (n : Int) (hn : n ≤ 1000000) : ACalls Try.prog 73 [.ptr q 0, .int .i64 n] [(q, curE bs a s)] (fun r st => ∃ b a' s', r = .bool b ∧ a ≤ a' ∧ a' ≤ a + 2 ∧ st = [(q, curE bs a' s')]) := by
  refine a_enter Try.func73 rfl rfl (fun w0 M0 => ?_)
  refine a_seq ?_
  refine a_region ?_
  refine aops_cons rfl (w_pure rfl (p_assign rfl) ?_)
  refine aops_nil ?_
  refine a_seq ?_
  refine a_region ?_
  refine aops_cons rfl (w_pure rfl (p_move rfl) ?_)
  refine aops_cons rfl (w_pure rfl (p_move rfl) ?_)
  refine aops_cons rfl (w_callM0 rfl rfl rfl cl_56 (.cons (by repeat (first | exact Pick.here _ _ _ | apply Pick.next)) (.nil _)) (c_spec_l1Cur_pick _ _ hb _ _ (by omega) (by omega) _ (by first | omega | (simp; done) | (simp; omega))) trivial ?_)
  rintro _ _ ⟨m1, a1, s1, rfl, hm1, ha1, hc1, rfl⟩
  (try simp only [List.length_map] at hm1)
  refine aops_cons rfl (w_pure rfl (p_eql rfl rfl) ?_)
  refine aops_cons rfl (w_pure rfl (p_assign rfl) ?_)
  refine aops_nil ?_
  refine a_ret ?_
  refine ret_ok (hands1 rfl (.tmp rfl)) (st' := [(q, _)]) (.cons (by repeat (first | exact Pick.here _ _ _ | apply Pick.next)) (.nil _)) ?_
  exact ⟨_, _, _, rfl, by omega, by omega, rfl⟩

theorem c_spec_l1Cur_among (q : Nat) (bs : List Int) (hb : Bytes bs) (a s : Int) (h0 : 0 ≤ a) (h1 : a ≤ 999999998000) (xs : List Int) (hx : 0 < xs.length ∧ xs.length ≤ 1000) (lo hi : Int) (hr : ∀ x ∈ xs, lo ≤ x ∧ x ≤ hi) : ACalls Try.prog 55 [.ptr q 0, .sl (xs.map eInt)] [(q, curE bs a s)] (fun r st => ∃ m a' s', r = .int .i64 m ∧ (lo ≤ m ∧ m ≤ hi) ∧ a ≤ a' ∧ a' ≤ a + 2 ∧ st = [(q, curE bs a' s')]) := by
  refine a_enter Try.func55 rfl rfl (fun w0 M0 => ?_)
  refine a_seq ?_
  refine a_region ?_
  refine aops_cons rfl (w_pure rfl (p_assign rfl) ?_)
  refine aops_nil ?_
  refine a_seq ?_
  refine a_region ?_
  refine aops_cons rfl (w_pure rfl (p_move rfl) ?_)
  refine aops_cons rfl (w_pure rfl (p_move rfl) ?_)
  refine aops_cons rfl (w_pure rfl (p_move rfl) ?_)
  refine aops_cons rfl (w_pure rfl (p_len sl_25 rfl rfl) ?_)
  refine aops_cons rfl (w_callM0 rfl rfl rfl cl_56 (.cons (by repeat (first | exact Pick.here _ _ _ | apply Pick.next)) (.nil _)) (c_spec_l1Cur_pick _ _ hb _ _ (by omega) (by omega) _ (by first | omega | (simp; done) | (simp; omega))) trivial ?_)
  rintro _ _ ⟨m1, a1, s1, rfl, hm1, ha1, hc1, rfl⟩
  (try simp only [List.length_map] at hm1)
  refine aops_cons rfl (w_pure rfl (p_index_sl (m1.toNat) rfl rfl (by omega) (rowD _ _ (0 : Int) (by omega)) es_25) ?_)
  refine aops_cons rfl (w_pure rfl (p_load_v ag_3 rfl (by rfl) noX) ?_)
  refine aops_cons rfl (w_pure rfl (p_assign rfl) ?_)
  refine aops_nil ?_
  refine a_ret ?_
  refine ret_ok (hands1 rfl (.tmp rfl)) (st' := [(q, _)]) (.cons (by repeat (first | exact Pick.here _ _ _ | apply Pick.next)) (.nil _)) ?_
  exact ⟨_, _, _, rfl, getD_mem (p := fun x => lo ≤ x ∧ x ≤ hi) hr (by omega), by omega, by omega, rfl⟩

theorem c_spec_l1Cur_timer (q : Nat) (bs : List Int) (hb : Bytes bs) (a s : Int) (h0 : 0 ≤ a) (h1 : a ≤ 999999986000)  : ACalls Try.prog 70 [.ptr q 0] [(q, curE bs a s)] (fun r st => ∃ (v : Tmr) (a' : Int) (s' : Int), r = .agg (eTimer v) ∧ a ≤ a' ∧ a' ≤ a + 14 ∧ st = [(q, curE bs a' s')]) := by
  refine a_enter Try.func70 rfl rfl (fun w0 M0 => ?_)
  refine a_seq ?_
  refine a_region ?_
  refine aops_cons rfl (w_alloc rfl z_47 fun b1 => ?_)
  refine aops_nil ?_
  refine a_seq ?_
  refine a_region ?_
  refine aops_cons rfl (w_pure rfl (p_move rfl) ?_)
  refine aops_cons rfl (w_callM0 rfl rfl rfl cl_73 (.cons (by repeat (first | exact Pick.here _ _ _ | apply Pick.next)) (.nil _)) (c_spec_l1Cur_one _ _ hb _ _ (by omega) (by omega) _ (by omega)) trivial ?_)
  rintro _ _ ⟨b1, a1, s1, rfl, ha1, hc1, rfl⟩
  skip
  refine aops_cons rfl (w_pure rfl (p_not rfl) ?_)
  refine aops_cons rfl (w_pure rfl (p_move rfl) ?_)
  refine aops_cons rfl (w_lit_vM eInt [_, _, _, _, _, _] rfl el_25 rfl rfl rfl rfl rfl ?_)
  refine aops_cons rfl (w_callM0 rfl rfl rfl cl_55 (.cons (by repeat (first | exact Pick.here _ _ _ | apply Pick.next)) (.nil _)) (c_spec_l1Cur_among _ _ hb _ _ (by omega) (by omega) _ (by first | (simp; done) | (simp; omega)) (0) 100000 (by first | (intro x hx; simp only [List.mem_cons, List.not_mem_nil, or_false] at hx; omega) | (intro x hx; have hx := List.mem_of_mem_take hx; simp only [List.mem_cons, List.not_mem_nil, or_false] at hx; omega))) trivial ?_)
  rintro _ _ ⟨m2, a2, s2, rfl, hm2, ha2, hc2, rfl⟩
  (try simp only [List.length_map] at hm2)
  refine aops_cons rfl (w_pure rfl (p_move rfl) ?_)
  refine aops_cons rfl (w_callM0 rfl rfl rfl cl_56 (.cons (by repeat (first | exact Pick.here _ _ _ | apply Pick.next)) (.nil _)) (c_spec_l1Cur_pick _ _ hb _ _ (by omega) (by omega) _ (by first | omega | (simp; done) | (simp; omega))) trivial ?_)
  rintro _ _ ⟨m3, a3, s3, rfl, hm3, ha3, hc3, rfl⟩
  (try simp only [List.length_map] at hm3)
  refine aops_cons rfl (w_pure rfl (p_build (cells := [_, _, _, _]) z_47 pl_47 rfl rfl) ?_)
  refine aops_cons rfl (w_alloc rfl z_47 fun b2 => ?_)
  refine aops_cons rfl (w_store (cells' := [_, _, _, _]) rfl rfl rfl (by repeat (first | exact Pick.here _ _ _ | apply Pick.next)) cn_47 (by rfl) (by rfl) (by rfl) trivial ?_)
  refine aops_nil ?_
  refine a_seq ?_
  refine a_seq ?_
  refine a_region ?_
  refine aops_cons rfl (w_pure rfl (p_field_box fo_47_0 rfl) ?_)
  refine aops_cons rfl (w_pure rfl (p_load_box ag_4 rfl (by repeat (first | exact Pick.here _ _ _ | apply Pick.next)) (by rfl) noX) ?_)
  refine aops_nil ?_
  first | refine a_cond_d rfl (fun h1 => ?_) (fun h2 => ?_) | refine a_cond_n rfl (fun h1 => ?_) (fun h2 => ?_) | refine a_cond_nb rfl (fun h1 => ?_) (fun h2 => ?_) | refine a_cond rfl (fun h1 => ?_) (fun h2 => ?_)
  · (try simp only [Bool.not_eq_true', Bool.not_eq_false', Bool.not_eq_true, Bool.not_eq_false, decide_eq_true_eq, decide_eq_false_iff_not, List.length_map, List.length_range] at h1)
    refine a_region ?_
    refine aops_cons rfl (w_pure rfl (p_move rfl) ?_)
    refine aops_cons rfl (w_lit_vM eInt [_, _, _, _, _, _, _] rfl el_25 rfl rfl rfl rfl rfl ?_)
    refine aops_cons rfl (w_callM0 rfl rfl rfl cl_55 (.cons (by repeat (first | exact Pick.here _ _ _ | apply Pick.next)) (.nil _)) (c_spec_l1Cur_among _ _ hb _ _ (by omega) (by omega) _ (by first | (simp; done) | (simp; omega)) (0) 100000 (by first | (intro x hx; simp only [List.mem_cons, List.not_mem_nil, or_false] at hx; omega) | (intro x hx; have hx := List.mem_of_mem_take hx; simp only [List.mem_cons, List.not_mem_nil, or_false] at hx; omega))) trivial ?_)
    rintro _ _ ⟨m4, a4, s4, rfl, hm4, ha4, hc4, rfl⟩
    (try simp only [List.length_map] at hm4)
    refine aops_cons rfl (w_pure rfl (p_field_box fo_47_1 rfl) ?_)
    refine aops_cons rfl (w_store (cells' := [_, _, _, _]) rfl rfl rfl (by repeat (first | exact Pick.here _ _ _ | apply Pick.next)) cn_3 (by rfl) (by rfl) (by rfl) trivial ?_)
    refine aops_nil ?_
    refine a_seq ?_
    refine a_seq ?_
    refine a_region ?_
    refine aops_cons rfl (w_pure rfl (p_move rfl) ?_)
    refine aops_cons rfl (w_callM0 rfl rfl rfl cl_56 (.cons (by repeat (first | exact Pick.here _ _ _ | apply Pick.next)) (.nil _)) (c_spec_l1Cur_pick _ _ hb _ _ (by omega) (by omega) _ (by first | omega | (simp; done) | (simp; omega))) trivial ?_)
    rintro _ _ ⟨m5, a5, s5, rfl, hm5, ha5, hc5, rfl⟩
    (try simp only [List.length_map] at hm5)
    refine aops_nil ?_
    refine a_block ?_
    refine a_seq ?_
    refine a_region ?_
    refine aops_cons rfl (w_pure rfl (p_eql rfl rfl) ?_)
    refine aops_cons rfl (w_pure rfl (p_assign rfl) ?_)
    refine aops_nil ?_
    first | refine a_cond_d rfl (fun h3 => ?_) (fun h4 => ?_) | refine a_cond_n rfl (fun h3 => ?_) (fun h4 => ?_) | refine a_cond_nb rfl (fun h3 => ?_) (fun h4 => ?_) | refine a_cond rfl (fun h3 => ?_) (fun h4 => ?_)
    · (try simp only [Bool.not_eq_true', Bool.not_eq_false', Bool.not_eq_true, Bool.not_eq_false, decide_eq_true_eq, decide_eq_false_iff_not, List.length_map, List.length_range] at h3)
      refine a_region ?_
      refine aops_cons rfl (w_pure rfl (p_move rfl) ?_)
      refine aops_cons rfl (w_lit_vM eInt [_, _, _] rfl el_25 rfl rfl rfl rfl rfl ?_)
      refine aops_cons rfl (w_callM0 rfl rfl rfl cl_55 (.cons (by repeat (first | exact Pick.here _ _ _ | apply Pick.next)) (.nil _)) (c_spec_l1Cur_among _ _ hb _ _ (by omega) (by omega) _ (by first | (simp; done) | (simp; omega)) (-1) 100001 (by first | (intro x hx; simp only [List.mem_cons, List.not_mem_nil, or_false] at hx; omega) | (intro x hx; have hx := List.mem_of_mem_take hx; simp only [List.mem_cons, List.not_mem_nil, or_false] at hx; omega))) trivial ?_)
      rintro _ _ ⟨m6, a6, s6, rfl, hm6, ha6, hc6, rfl⟩
      (try simp only [List.length_map] at hm6)
      refine aops_cons rfl (w_pure rfl (p_field_box fo_47_1 rfl) ?_)
      refine aops_cons rfl (w_store (cells' := [_, _, _, _]) rfl rfl rfl (by repeat (first | exact Pick.here _ _ _ | apply Pick.next)) cn_3 (by rfl) (by rfl) (by rfl) trivial ?_)
      refine aops_nil ?_
      refine a_seq ?_
      refine a_region ?_
      refine aops_cons rfl (w_pure rfl (p_load_box_all ag_47 rfl (by repeat (first | exact Pick.here _ _ _ | apply Pick.next)) (by rfl) noX) ?_)
      refine aops_cons rfl (w_store (cells' := [_, _, _, _]) rfl rfl rfl (by repeat (first | exact Pick.here _ _ _ | apply Pick.next)) cn_47 (by rfl) (by rfl) (by rfl) trivial ?_)
      refine aops_nil ?_
      refine a_ret ?_
      refine ret_ok (hands1 rfl (.cell ag_47 rfl (by repeat (first | exact Pick.here _ _ _ | apply Pick.next)) (by rfl))) (st' := [(q, _)]) (.cons (by repeat (first | exact Pick.here _ _ _ | apply Pick.next)) (.nil _)) ?_
      exact ⟨⟨_, _, _, _⟩, _, _, rfl, by omega, by omega, rfl⟩
    · (try simp only [Bool.not_eq_true', Bool.not_eq_false', Bool.not_eq_true, Bool.not_eq_false, decide_eq_true_eq, decide_eq_false_iff_not, List.length_map, List.length_range] at h4)
      refine a_seq ?_
      refine a_region ?_
      refine aops_cons rfl (w_pure rfl (p_eql rfl rfl) ?_)
      refine aops_cons rfl (w_pure rfl (p_assign rfl) ?_)
      refine aops_nil ?_
      first | refine a_cond_d rfl (fun h5 => ?_) (fun h6 => ?_) | refine a_cond_n rfl (fun h5 => ?_) (fun h6 => ?_) | refine a_cond_nb rfl (fun h5 => ?_) (fun h6 => ?_) | refine a_cond rfl (fun h5 => ?_) (fun h6 => ?_)
      · (try simp only [Bool.not_eq_true', Bool.not_eq_false', Bool.not_eq_true, Bool.not_eq_false, decide_eq_true_eq, decide_eq_false_iff_not, List.length_map, List.length_range] at h5)
        refine a_region ?_
        refine aops_cons rfl (w_pure rfl (p_move rfl) ?_)
        refine aops_cons rfl (w_lit_vM eInt [_, _] rfl el_25 rfl rfl rfl rfl rfl ?_)
        refine aops_cons rfl (w_callM0 rfl rfl rfl cl_55 (.cons (by repeat (first | exact Pick.here _ _ _ | apply Pick.next)) (.nil _)) (c_spec_l1Cur_among _ _ hb _ _ (by omega) (by omega) _ (by first | (simp; done) | (simp; omega)) (-1) 100001 (by first | (intro x hx; simp only [List.mem_cons, List.not_mem_nil, or_false] at hx; omega) | (intro x hx; have hx := List.mem_of_mem_take hx; simp only [List.mem_cons, List.not_mem_nil, or_false] at hx; omega))) trivial ?_)
        rintro _ _ ⟨m6, a6, s6, rfl, hm6, ha6, hc6, rfl⟩
        (try simp only [List.length_map] at hm6)
        refine aops_cons rfl (w_pure rfl (p_field_box fo_47_2 rfl) ?_)
        refine aops_cons rfl (w_store (cells' := [_, _, _, _]) rfl rfl rfl (by repeat (first | exact Pick.here _ _ _ | apply Pick.next)) cn_3 (by rfl) (by rfl) (by rfl) trivial ?_)
        refine aops_nil ?_
        refine a_seq ?_
        refine a_region ?_
        refine aops_cons rfl (w_pure rfl (p_load_box_all ag_47 rfl (by repeat (first | exact Pick.here _ _ _ | apply Pick.next)) (by rfl) noX) ?_)
        refine aops_cons rfl (w_store (cells' := [_, _, _, _]) rfl rfl rfl (by repeat (first | exact Pick.here _ _ _ | apply Pick.next)) cn_47 (by rfl) (by rfl) (by rfl) trivial ?_)
        refine aops_nil ?_
        refine a_ret ?_
        refine ret_ok (hands1 rfl (.cell ag_47 rfl (by repeat (first | exact Pick.here _ _ _ | apply Pick.next)) (by rfl))) (st' := [(q, _)]) (.cons (by repeat (first | exact Pick.here _ _ _ | apply Pick.next)) (.nil _)) ?_
        exact ⟨⟨_, _, _, _⟩, _, _, rfl, by omega, by omega, rfl⟩
      · (try simp only [Bool.not_eq_true', Bool.not_eq_false', Bool.not_eq_true, Bool.not_eq_false, decide_eq_true_eq, decide_eq_false_iff_not, List.length_map, List.length_range] at h6)
        refine a_seq ?_
        refine a_region ?_
        refine aops_cons rfl (w_pure rfl (p_eql rfl rfl) ?_)
        refine aops_cons rfl (w_pure rfl (p_assign rfl) ?_)
        refine aops_nil ?_
        first | refine a_cond_d rfl (fun h7 => ?_) (fun h8 => ?_) | refine a_cond_n rfl (fun h7 => ?_) (fun h8 => ?_) | refine a_cond_nb rfl (fun h7 => ?_) (fun h8 => ?_) | refine a_cond rfl (fun h7 => ?_) (fun h8 => ?_)
        · (try simp only [Bool.not_eq_true', Bool.not_eq_false', Bool.not_eq_true, Bool.not_eq_false, decide_eq_true_eq, decide_eq_false_iff_not, List.length_map, List.length_range] at h7)
          refine a_region ?_
          refine aops_cons rfl (w_pure rfl (p_move rfl) ?_)
          refine aops_cons rfl (w_lit_vM eInt [_, _] rfl el_25 rfl rfl rfl rfl rfl ?_)
          refine aops_cons rfl (w_callM0 rfl rfl rfl cl_55 (.cons (by repeat (first | exact Pick.here _ _ _ | apply Pick.next)) (.nil _)) (c_spec_l1Cur_among _ _ hb _ _ (by omega) (by omega) _ (by first | (simp; done) | (simp; omega)) (-1) 8 (by first | (intro x hx; simp only [List.mem_cons, List.not_mem_nil, or_false] at hx; omega) | (intro x hx; have hx := List.mem_of_mem_take hx; simp only [List.mem_cons, List.not_mem_nil, or_false] at hx; omega))) trivial ?_)
          rintro _ _ ⟨m6, a6, s6, rfl, hm6, ha6, hc6, rfl⟩
          (try simp only [List.length_map] at hm6)
          refine aops_cons rfl (w_pure rfl (p_field_box fo_47_3 rfl) ?_)
          refine aops_cons rfl (w_store (cells' := [_, _, _, _]) rfl rfl rfl (by repeat (first | exact Pick.here _ _ _ | apply Pick.next)) cn_3 (by rfl) (by rfl) (by rfl) trivial ?_)
          refine aops_nil ?_
          refine a_seq ?_
          refine a_region ?_
          refine aops_cons rfl (w_pure rfl (p_load_box_all ag_47 rfl (by repeat (first | exact Pick.here _ _ _ | apply Pick.next)) (by rfl) noX) ?_)
          refine aops_cons rfl (w_store (cells' := [_, _, _, _]) rfl rfl rfl (by repeat (first | exact Pick.here _ _ _ | apply Pick.next)) cn_47 (by rfl) (by rfl) (by rfl) trivial ?_)
          refine aops_nil ?_
          refine a_ret ?_
          refine ret_ok (hands1 rfl (.cell ag_47 rfl (by repeat (first | exact Pick.here _ _ _ | apply Pick.next)) (by rfl))) (st' := [(q, _)]) (.cons (by repeat (first | exact Pick.here _ _ _ | apply Pick.next)) (.nil _)) ?_
          exact ⟨⟨_, _, _, _⟩, _, _, rfl, by omega, by omega, rfl⟩
        · (try simp only [Bool.not_eq_true', Bool.not_eq_false', Bool.not_eq_true, Bool.not_eq_false, decide_eq_true_eq, decide_eq_false_iff_not, List.length_map, List.length_range] at h8)
          refine a_skip ?_
          refine a_seq ?_
          refine a_region ?_
          refine aops_cons rfl (w_pure rfl (p_load_box_all ag_47 rfl (by repeat (first | exact Pick.here _ _ _ | apply Pick.next)) (by rfl) noX) ?_)
          refine aops_cons rfl (w_store (cells' := [_, _, _, _]) rfl rfl rfl (by repeat (first | exact Pick.here _ _ _ | apply Pick.next)) cn_47 (by rfl) (by rfl) (by rfl) trivial ?_)
          refine aops_nil ?_
          refine a_ret ?_
          refine ret_ok (hands1 rfl (.cell ag_47 rfl (by repeat (first | exact Pick.here _ _ _ | apply Pick.next)) (by rfl))) (st' := [(q, _)]) (.cons (by repeat (first | exact Pick.here _ _ _ | apply Pick.next)) (.nil _)) ?_
          exact ⟨⟨_, _, _, _⟩, _, _, rfl, by omega, by omega, rfl⟩
  · (try simp only [Bool.not_eq_true', Bool.not_eq_false', Bool.not_eq_true, Bool.not_eq_false, decide_eq_true_eq, decide_eq_false_iff_not, List.length_map, List.length_range] at h2)
    refine a_skip ?_
    refine a_seq ?_
    refine a_seq ?_
    refine a_region ?_
    refine aops_cons rfl (w_pure rfl (p_move rfl) ?_)
    refine aops_cons rfl (w_callM0 rfl rfl rfl cl_56 (.cons (by repeat (first | exact Pick.here _ _ _ | apply Pick.next)) (.nil _)) (c_spec_l1Cur_pick _ _ hb _ _ (by omega) (by omega) _ (by first | omega | (simp; done) | (simp; omega))) trivial ?_)
    rintro _ _ ⟨m4, a4, s4, rfl, hm4, ha4, hc4, rfl⟩
    (try simp only [List.length_map] at hm4)
    refine aops_nil ?_
    refine a_block ?_
    refine a_seq ?_
    refine a_region ?_
    refine aops_cons rfl (w_pure rfl (p_eql rfl rfl) ?_)
    refine aops_cons rfl (w_pure rfl (p_assign rfl) ?_)
    refine aops_nil ?_
    first | refine a_cond_d rfl (fun h9 => ?_) (fun h10 => ?_) | refine a_cond_n rfl (fun h9 => ?_) (fun h10 => ?_) | refine a_cond_nb rfl (fun h9 => ?_) (fun h10 => ?_) | refine a_cond rfl (fun h9 => ?_) (fun h10 => ?_)
    · (try simp only [Bool.not_eq_true', Bool.not_eq_false', Bool.not_eq_true, Bool.not_eq_false, decide_eq_true_eq, decide_eq_false_iff_not, List.length_map, List.length_range] at h9)
      refine a_region ?_
      refine aops_cons rfl (w_pure rfl (p_move rfl) ?_)
      refine aops_cons rfl (w_lit_vM eInt [_, _, _] rfl el_25 rfl rfl rfl rfl rfl ?_)
      refine aops_cons rfl (w_callM0 rfl rfl rfl cl_55 (.cons (by repeat (first | exact Pick.here _ _ _ | apply Pick.next)) (.nil _)) (c_spec_l1Cur_among _ _ hb _ _ (by omega) (by omega) _ (by first | (simp; done) | (simp; omega)) (-1) 100001 (by first | (intro x hx; simp only [List.mem_cons, List.not_mem_nil, or_false] at hx; omega) | (intro x hx; have hx := List.mem_of_mem_take hx; simp only [List.mem_cons, List.not_mem_nil, or_false] at hx; omega))) trivial ?_)
      rintro _ _ ⟨m5, a5, s5, rfl, hm5, ha5, hc5, rfl⟩
      (try simp only [List.length_map] at hm5)
      refine aops_cons rfl (w_pure rfl (p_field_box fo_47_1 rfl) ?_)
      refine aops_cons rfl (w_store (cells' := [_, _, _, _]) rfl rfl rfl (by repeat (first | exact Pick.here _ _ _ | apply Pick.next)) cn_3 (by rfl) (by rfl) (by rfl) trivial ?_)
      refine aops_nil ?_
      refine a_seq ?_
      refine a_region ?_
      refine aops_cons rfl (w_pure rfl (p_load_box_all ag_47 rfl (by repeat (first | exact Pick.here _ _ _ | apply Pick.next)) (by rfl) noX) ?_)
      refine aops_cons rfl (w_store (cells' := [_, _, _, _]) rfl rfl rfl (by repeat (first | exact Pick.here _ _ _ | apply Pick.next)) cn_47 (by rfl) (by rfl) (by rfl) trivial ?_)
      refine aops_nil ?_
      refine a_ret ?_
      refine ret_ok (hands1 rfl (.cell ag_47 rfl (by repeat (first | exact Pick.here _ _ _ | apply Pick.next)) (by rfl))) (st' := [(q, _)]) (.cons (by repeat (first | exact Pick.here _ _ _ | apply Pick.next)) (.nil _)) ?_
      exact ⟨⟨_, _, _, _⟩, _, _, rfl, by omega, by omega, rfl⟩
    · (try simp only [Bool.not_eq_true', Bool.not_eq_false', Bool.not_eq_true, Bool.not_eq_false, decide_eq_true_eq, decide_eq_false_iff_not, List.length_map, List.length_range] at h10)
      refine a_seq ?_
      refine a_region ?_
      refine aops_cons rfl (w_pure rfl (p_eql rfl rfl) ?_)
      refine aops_cons rfl (w_pure rfl (p_assign rfl) ?_)
      refine aops_nil ?_
      first | refine a_cond_d rfl (fun h11 => ?_) (fun h12 => ?_) | refine a_cond_n rfl (fun h11 => ?_) (fun h12 => ?_) | refine a_cond_nb rfl (fun h11 => ?_) (fun h12 => ?_) | refine a_cond rfl (fun h11 => ?_) (fun h12 => ?_)
      · (try simp only [Bool.not_eq_true', Bool.not_eq_false', Bool.not_eq_true, Bool.not_eq_false, decide_eq_true_eq, decide_eq_false_iff_not, List.length_map, List.length_range] at h11)
        refine a_region ?_
        refine aops_cons rfl (w_pure rfl (p_move rfl) ?_)
        refine aops_cons rfl (w_lit_vM eInt [_, _] rfl el_25 rfl rfl rfl rfl rfl ?_)
        refine aops_cons rfl (w_callM0 rfl rfl rfl cl_55 (.cons (by repeat (first | exact Pick.here _ _ _ | apply Pick.next)) (.nil _)) (c_spec_l1Cur_among _ _ hb _ _ (by omega) (by omega) _ (by first | (simp; done) | (simp; omega)) (-1) 100001 (by first | (intro x hx; simp only [List.mem_cons, List.not_mem_nil, or_false] at hx; omega) | (intro x hx; have hx := List.mem_of_mem_take hx; simp only [List.mem_cons, List.not_mem_nil, or_false] at hx; omega))) trivial ?_)
        rintro _ _ ⟨m5, a5, s5, rfl, hm5, ha5, hc5, rfl⟩
        (try simp only [List.length_map] at hm5)
        refine aops_cons rfl (w_pure rfl (p_field_box fo_47_2 rfl) ?_)
        refine aops_cons rfl (w_store (cells' := [_, _, _, _]) rfl rfl rfl (by repeat (first | exact Pick.here _ _ _ | apply Pick.next)) cn_3 (by rfl) (by rfl) (by rfl) trivial ?_)
        refine aops_nil ?_
        refine a_seq ?_
        refine a_region ?_
        refine aops_cons rfl (w_pure rfl (p_load_box_all ag_47 rfl (by repeat (first | exact Pick.here _ _ _ | apply Pick.next)) (by rfl) noX) ?_)
        refine aops_cons rfl (w_store (cells' := [_, _, _, _]) rfl rfl rfl (by repeat (first | exact Pick.here _ _ _ | apply Pick.next)) cn_47 (by rfl) (by rfl) (by rfl) trivial ?_)
        refine aops_nil ?_
        refine a_ret ?_
        refine ret_ok (hands1 rfl (.cell ag_47 rfl (by repeat (first | exact Pick.here _ _ _ | apply Pick.next)) (by rfl))) (st' := [(q, _)]) (.cons (by repeat (first | exact Pick.here _ _ _ | apply Pick.next)) (.nil _)) ?_
        exact ⟨⟨_, _, _, _⟩, _, _, rfl, by omega, by omega, rfl⟩
      · (try simp only [Bool.not_eq_true', Bool.not_eq_false', Bool.not_eq_true, Bool.not_eq_false, decide_eq_true_eq, decide_eq_false_iff_not, List.length_map, List.length_range] at h12)
        refine a_seq ?_
        refine a_region ?_
        refine aops_cons rfl (w_pure rfl (p_eql rfl rfl) ?_)
        refine aops_cons rfl (w_pure rfl (p_assign rfl) ?_)
        refine aops_nil ?_
        first | refine a_cond_d rfl (fun h13 => ?_) (fun h14 => ?_) | refine a_cond_n rfl (fun h13 => ?_) (fun h14 => ?_) | refine a_cond_nb rfl (fun h13 => ?_) (fun h14 => ?_) | refine a_cond rfl (fun h13 => ?_) (fun h14 => ?_)
        · (try simp only [Bool.not_eq_true', Bool.not_eq_false', Bool.not_eq_true, Bool.not_eq_false, decide_eq_true_eq, decide_eq_false_iff_not, List.length_map, List.length_range] at h13)
          refine a_region ?_
          refine aops_cons rfl (w_pure rfl (p_move rfl) ?_)
          refine aops_cons rfl (w_lit_vM eInt [_, _] rfl el_25 rfl rfl rfl rfl rfl ?_)
          refine aops_cons rfl (w_callM0 rfl rfl rfl cl_55 (.cons (by repeat (first | exact Pick.here _ _ _ | apply Pick.next)) (.nil _)) (c_spec_l1Cur_among _ _ hb _ _ (by omega) (by omega) _ (by first | (simp; done) | (simp; omega)) (-1) 8 (by first | (intro x hx; simp only [List.mem_cons, List.not_mem_nil, or_false] at hx; omega) | (intro x hx; have hx := List.mem_of_mem_take hx; simp only [List.mem_cons, List.not_mem_nil, or_false] at hx; omega))) trivial ?_)
          rintro _ _ ⟨m5, a5, s5, rfl, hm5, ha5, hc5, rfl⟩
          (try simp only [List.length_map] at hm5)
          refine aops_cons rfl (w_pure rfl (p_field_box fo_47_3 rfl) ?_)
          refine aops_cons rfl (w_store (cells' := [_, _, _, _]) rfl rfl rfl (by repeat (first | exact Pick.here _ _ _ | apply Pick.next)) cn_3 (by rfl) (by rfl) (by rfl) trivial ?_)
          refine aops_nil ?_
          refine a_seq ?_
          refine a_region ?_
          refine aops_cons rfl (w_pure rfl (p_load_box_all ag_47 rfl (by repeat (first | exact Pick.here _ _ _ | apply Pick.next)) (by rfl) noX) ?_)
          refine aops_cons rfl (w_store (cells' := [_, _, _, _]) rfl rfl rfl (by repeat (first | exact Pick.here _ _ _ | apply Pick.next)) cn_47 (by rfl) (by rfl) (by rfl) trivial ?_)
          refine aops_nil ?_
          refine a_ret ?_
          refine ret_ok (hands1 rfl (.cell ag_47 rfl (by repeat (first | exact Pick.here _ _ _ | apply Pick.next)) (by rfl))) (st' := [(q, _)]) (.cons (by repeat (first | exact Pick.here _ _ _ | apply Pick.next)) (.nil _)) ?_
          exact ⟨⟨_, _, _, _⟩, _, _, rfl, by omega, by omega, rfl⟩
        · (try simp only [Bool.not_eq_true', Bool.not_eq_false', Bool.not_eq_true, Bool.not_eq_false, decide_eq_true_eq, decide_eq_false_iff_not, List.length_map, List.length_range] at h14)
          refine a_skip ?_
          refine a_seq ?_
          refine a_region ?_
          refine aops_cons rfl (w_pure rfl (p_load_box_all ag_47 rfl (by repeat (first | exact Pick.here _ _ _ | apply Pick.next)) (by rfl) noX) ?_)
          refine aops_cons rfl (w_store (cells' := [_, _, _, _]) rfl rfl rfl (by repeat (first | exact Pick.here _ _ _ | apply Pick.next)) cn_47 (by rfl) (by rfl) (by rfl) trivial ?_)
          refine aops_nil ?_
          refine a_ret ?_
          refine ret_ok (hands1 rfl (.cell ag_47 rfl (by repeat (first | exact Pick.here _ _ _ | apply Pick.next)) (by rfl))) (st' := [(q, _)]) (.cons (by repeat (first | exact Pick.here _ _ _ | apply Pick.next)) (.nil _)) ?_
          exact ⟨⟨_, _, _, _⟩, _, _, rfl, by omega, by omega, rfl⟩

theorem c_spec_l1Cur_timers (q : Nat) (bs : List Int) (hb : Bytes bs) (a s : Int) (h0 : 0 ≤ a) (h1 : a ≤ 999999870000)  : ACalls Try.prog 52 [.ptr q 0] [(q, curE bs a s)] (fun r st => ∃ (b : Nat) (xs : List Tmr) (a' : Int) (s' : Int), r = .own 4 b 0 xs.length ∧ xs.length ≤ 9 ∧ a ≤ a' ∧ a' ≤ a + 130 ∧ st = [(q, curE bs a' s'), (b, .arr 47 4 (xs.map eTimer))]) := by
  refine a_enter Try.func52 rfl rfl (fun w0 M0 => ?_)
  refine a_seq ?_
  refine a_region ?_
  refine aops_cons rfl (w_pure rfl (p_assign rfl) ?_)
  refine aops_nil ?_
  refine a_seq ?_
  refine a_region ?_
  refine aops_cons rfl (w_litM eTimer [] rfl el_24 rfl rfl rfl rfl rfl fun b1 => ?_)
  refine aops_cons rfl (w_pure rfl (p_assign rfl) ?_)
  refine aops_nil ?_
  refine a_seq ?_
  refine a_seq ?_
  refine a_region ?_
  refine aops_cons rfl (w_pure rfl (p_move rfl) ?_)
  refine aops_cons rfl (w_callM0 rfl rfl rfl cl_56 (.cons (by repeat (first | exact Pick.here _ _ _ | apply Pick.next)) (.nil _)) (c_spec_l1Cur_pick _ _ hb _ _ (by omega) (by omega) _ (by first | omega | (simp; done) | (simp; omega))) trivial ?_)
  rintro _ _ ⟨m1, a1, s1, rfl, hm1, ha1, hc1, rfl⟩
  (try simp only [List.length_map] at hm1)
  refine aops_cons rfl (w_pure rfl (p_assign rfl) ?_)
  refine aops_nil ?_
  refine a_block ?_
  refine a_loop (ι := Int × Nat × List Tmr × Int × Int) (fun ⟨n, b, xs, ka, ks⟩ => n + xs.length = m1 ∧ 0 ≤ n ∧ a ≤ ka ∧ ka ≤ a + 2 + 14 * xs.length) (fun ⟨n, b, xs, ka, ks⟩ => [(3, .own 4 b 0 xs.length), (4, .int .i64 n)]) (fun ⟨n, b, xs, ka, ks⟩ => [(q, curE bs ka ks), (b, .arr 47 4 (xs.map eTimer))]) (fun ⟨n, b, xs, ka, ks⟩ => n.toNat) (m1, b1, [], a1, s1) ⟨by simp, by omega, by omega, by simp; omega⟩ (by repeat (first | exact Knows.nil | refine Knows.cons (by rfl) ?_)) (by repeat (first | exact Picks.nil _ | exact Pick.here _ _ _ | apply Pick.next | apply Picks.cons)) ?_
  rintro ⟨n, b, xs, ka, ks⟩ ⟨hk1, hk2, hk3, hk4⟩
  skip
  refine a_seq ?_
  refine a_seq ?_
  refine a_region ?_
  refine aops_cons rfl (w_pure rfl (p_move rfl) ?_)
  refine aops_cons rfl (w_pure rfl (p_gtr rfl rfl) ?_)
  refine aops_nil ?_
  first | refine a_cond_d rfl (fun h1 => ?_) (fun h2 => ?_) | refine a_cond_n rfl (fun h1 => ?_) (fun h2 => ?_) | refine a_cond_nb rfl (fun h1 => ?_) (fun h2 => ?_) | refine a_cond rfl (fun h1 => ?_) (fun h2 => ?_)
  · (try simp only [Bool.not_eq_true', Bool.not_eq_false', Bool.not_eq_true, Bool.not_eq_false, decide_eq_true_eq, decide_eq_false_iff_not, List.length_map, List.length_range] at h1)
    refine a_skip ?_
    refine a_seq ?_
    refine a_block ?_
    refine a_region ?_
    refine aops_cons rfl (w_pure rfl (p_move rfl) ?_)
    refine aops_cons rfl (w_pure rfl (p_move rfl) ?_)
    refine aops_cons rfl (w_callM0 rfl rfl rfl cl_70 (.cons (by repeat (first | exact Pick.here _ _ _ | apply Pick.next)) (.nil _)) (c_spec_l1Cur_timer _ _ hb _ _ (by omega) (by omega) ) trivial ?_)
    rintro _ _ ⟨v2, a2, s2, rfl, ha2, hc2, rfl⟩
    skip
    refine aops_cons rfl (w_lit_vM eTimer [⟨_, _, _, _⟩] rfl el_24 rfl rfl rfl rfl rfl ?_)
    refine aops_cons rfl (w_appendM eTimer rfl el_24 rfl rfl (by repeat (first | exact Pick.here _ _ _ | apply Pick.next)) rfl (.sl _) (fun _ => rfl) (fun _ => rfl) (by simp; omega) (by simp; omega) trivial fun b2 => ?_)
    refine aops_cons rfl (w_pure rfl (p_assign rfl) ?_)
    refine aops_nil ?_
    refine a_region ?_
    refine aops_cons rfl (w_pure rfl (p_move rfl) ?_)
    refine aops_cons rfl (w_pure rfl (p_sub' rfl rfl ⟨by omega, by omega⟩) ?_)
    refine aops_cons rfl (w_pure rfl (p_assign rfl) ?_)
    refine aops_nil ?_
    refine ⟨(_, _, _, _, _), _, ?_, ?_, (by repeat (first | exact Knows.nil | refine Knows.cons (by rfl) ?_)), (by repeat (first | exact Back.refl _ _ | refine Back.cons (by rfl) ?_)), (by repeat (first | exact Picks.nil _ | exact Pick.here _ _ _ | apply Pick.next | apply Picks.cons))⟩
    · refine ⟨by first | omega | (simp; omega), by omega, by omega, by first | omega | (simp; omega)⟩
    · (try dsimp only); omega
  · (try simp only [Bool.not_eq_true', Bool.not_eq_false', Bool.not_eq_true, Bool.not_eq_false, decide_eq_true_eq, decide_eq_false_iff_not, List.length_map, List.length_range] at h2)
    refine a_exit ?_
    refine a_seq ?_
    refine a_seq ?_
    refine a_region ?_
    refine aops_cons rfl (w_pure rfl (p_move rfl) ?_)
    refine aops_cons rfl (w_callM0 rfl rfl rfl cl_73 (.cons (by repeat (first | exact Pick.here _ _ _ | apply Pick.next)) (.nil _)) (c_spec_l1Cur_one _ _ hb _ _ (by omega) (by omega) _ (by omega)) trivial ?_)
    rintro _ _ ⟨b2, a2, s2, rfl, ha2, hc2, rfl⟩
    skip
    refine aops_nil ?_
    first | refine a_cond_d rfl (fun h3 => ?_) (fun h4 => ?_) | refine a_cond_n rfl (fun h3 => ?_) (fun h4 => ?_) | refine a_cond_nb rfl (fun h3 => ?_) (fun h4 => ?_) | refine a_cond rfl (fun h3 => ?_) (fun h4 => ?_)
    · (try simp only [Bool.not_eq_true', Bool.not_eq_false', Bool.not_eq_true, Bool.not_eq_false, decide_eq_true_eq, decide_eq_false_iff_not, List.length_map, List.length_range] at h3)
      refine a_block ?_
      refine a_loop (ι := Nat × List Tmr × Int × Int) (fun ⟨b, xs, ka, ks⟩ => xs.length ≤ 9 ∧ a ≤ ka ∧ ka ≤ a + 100 + 2 * xs.length) (fun ⟨b, xs, ka, ks⟩ => [(3, .own 4 b 0 xs.length)]) (fun ⟨b, xs, ka, ks⟩ => [(q, curE bs ka ks), (b, .arr 47 4 (xs.map eTimer))]) (fun ⟨b, xs, ka, ks⟩ => 10 - xs.length) (b, xs, a2, s2) ⟨by omega, by omega, by omega⟩ (by repeat (first | exact Knows.nil | refine Knows.cons (by rfl) ?_)) (by repeat (first | exact Picks.nil _ | exact Pick.here _ _ _ | apply Pick.next | apply Picks.cons)) ?_
      rintro ⟨c, ps, ja, js⟩ ⟨hj1, hj2, hj3⟩
      skip
      refine a_seq ?_
      refine a_seq ?_
      refine a_region ?_
      refine aops_cons rfl (w_pure rfl (p_move rfl) ?_)
      refine aops_cons rfl (w_pure rfl (p_len sl_24 rfl rfl) ?_)
      refine aops_cons rfl (w_pure rfl (p_move rfl) ?_)
      refine aops_cons rfl (w_callM0 rfl rfl rfl cl_56 (.cons (by repeat (first | exact Pick.here _ _ _ | apply Pick.next)) (.nil _)) (c_spec_l1Cur_pick _ _ hb _ _ (by omega) (by omega) _ (by first | omega | (simp; done) | (simp; omega))) trivial ?_)
      rintro _ _ ⟨m3, a3, s3, rfl, hm3, ha3, hc3, rfl⟩
      (try simp only [List.length_map] at hm3)
      refine aops_cons rfl (w_pure rfl (p_add' rfl rfl ⟨by omega, by omega⟩) ?_)
      refine aops_cons rfl (w_pure rfl (p_lss rfl rfl) ?_)
      refine aops_nil ?_
      first | refine a_cond_d rfl (fun h5 => ?_) (fun h6 => ?_) | refine a_cond_n rfl (fun h5 => ?_) (fun h6 => ?_) | refine a_cond_nb rfl (fun h5 => ?_) (fun h6 => ?_) | refine a_cond rfl (fun h5 => ?_) (fun h6 => ?_)
      · (try simp only [Bool.not_eq_true', Bool.not_eq_false', Bool.not_eq_true, Bool.not_eq_false, decide_eq_true_eq, decide_eq_false_iff_not, List.length_map, List.length_range] at h5)
        refine a_skip ?_
        refine a_block ?_
        refine a_region ?_
        refine aops_cons rfl (w_pure rfl (p_move rfl) ?_)
        refine aops_cons rfl (w_pure rfl (p_build (cells := [_, _, _, _]) z_47 pl_47 rfl rfl) ?_)
        refine aops_cons rfl (w_lit_vM eTimer [⟨_, _, _, _⟩] rfl el_24 rfl rfl rfl rfl rfl ?_)
        refine aops_cons rfl (w_appendM eTimer rfl el_24 rfl rfl (by repeat (first | exact Pick.here _ _ _ | apply Pick.next)) rfl (.sl _) (fun _ => rfl) (fun _ => rfl) (by simp; omega) (by simp; omega) trivial fun b3 => ?_)
        refine aops_cons rfl (w_pure rfl (p_assign rfl) ?_)
        refine aops_nil ?_
        refine ⟨(_, _, _, _), _, ?_, ?_, (by repeat (first | exact Knows.nil | refine Knows.cons (by rfl) ?_)), (by repeat (first | exact Back.refl _ _ | refine Back.cons (by rfl) ?_)), (by repeat (first | exact Picks.nil _ | exact Pick.here _ _ _ | apply Pick.next | apply Picks.cons))⟩
        · refine ⟨by first | omega | (simp; omega), by omega, by first | omega | (simp; omega)⟩
        · simp; omega
      · (try simp only [Bool.not_eq_true', Bool.not_eq_false', Bool.not_eq_true, Bool.not_eq_false, decide_eq_true_eq, decide_eq_false_iff_not, List.length_map, List.length_range] at h6)
        refine a_exit ?_
        refine a_seq ?_
        refine a_region ?_
        refine aops_cons rfl (w_pure rfl (p_move rfl) ?_)
        refine aops_cons rfl (w_pure rfl (p_assign rfl) ?_)
        refine aops_nil ?_
        refine a_ret ?_
        refine ret_ok (hands1 rfl (.tmp rfl)) (st' := [(q, _), (c, _)]) (.cons (by repeat (first | exact Pick.here _ _ _ | apply Pick.next)) (.cons (by repeat (first | exact Pick.here _ _ _ | apply Pick.next)) (.nil _))) ?_
        exact ⟨_, _, _, _, rfl, (by first | omega | (simp; omega)), by omega, by omega, rfl⟩
    · (try simp only [Bool.not_eq_true', Bool.not_eq_false', Bool.not_eq_true, Bool.not_eq_false, decide_eq_true_eq, decide_eq_false_iff_not, List.length_map, List.length_range] at h4)
      refine a_skip ?_
      refine a_seq ?_
      refine a_region ?_
      refine aops_cons rfl (w_pure rfl (p_move rfl) ?_)
      refine aops_cons rfl (w_pure rfl (p_assign rfl) ?_)
      refine aops_nil ?_
      refine a_ret ?_
      refine ret_ok (hands1 rfl (.tmp rfl)) (st' := [(q, _), (b, _)]) (.cons (by repeat (first | exact Pick.here _ _ _ | apply Pick.next)) (.cons (by repeat (first | exact Pick.here _ _ _ | apply Pick.next)) (.nil _))) ?_
      exact ⟨_, _, _, _, rfl, (by first | omega | (simp; omega)), by omega, by omega, rfl⟩

theorem c_spec_l1Cur_timerOf (q : Nat) (bs : List Int) (hb : Bytes bs) (a s : Int) (h0 : 0 ≤ a) (h1 : a ≤ 999999996000) (b n : Nat) (hn : n ≤ 1000) : ACalls Try.prog 53 [.ptr q 0, .own 4 b 0 n] [(q, curE bs a s)] (fun r st => ∃ m a' s', r = .int .i64 m ∧ a ≤ a' ∧ a' ≤ a + 4 ∧ st = [(q, curE bs a' s')]) := by
  refine a_enter Try.func53 rfl rfl (fun w0 M0 => ?_)
  refine a_seq ?_
  refine a_region ?_
  refine aops_cons rfl (w_pure rfl (p_assign rfl) ?_)
  refine aops_nil ?_
  refine a_seq ?_
  refine a_region ?_
  refine aops_cons rfl (w_pure rfl (p_move rfl) ?_)
  refine aops_cons rfl (w_pure rfl (p_move rfl) ?_)
  refine aops_cons rfl (w_pure rfl (p_len sl_24 rfl rfl) ?_)
  refine aops_cons rfl (w_pure rfl (p_add' rfl rfl ⟨by omega, by omega⟩) ?_)
  refine aops_cons rfl (w_callM0 rfl rfl rfl cl_56 (.cons (by repeat (first | exact Pick.here _ _ _ | apply Pick.next)) (.nil _)) (c_spec_l1Cur_pick _ _ hb _ _ (by omega) (by omega) _ (by first | omega | (simp; done) | (simp; omega))) trivial ?_)
  rintro _ _ ⟨m1, a1, s1, rfl, hm1, ha1, hc1, rfl⟩
  (try simp only [List.length_map] at hm1)
  refine aops_cons rfl (w_pure rfl (p_move rfl) ?_)
  refine aops_cons rfl (w_callM0 rfl rfl rfl cl_56 (.cons (by repeat (first | exact Pick.here _ _ _ | apply Pick.next)) (.nil _)) (c_spec_l1Cur_pick _ _ hb _ _ (by omega) (by omega) _ (by first | omega | (simp; done) | (simp; omega))) trivial ?_)
  rintro _ _ ⟨m2, a2, s2, rfl, hm2, ha2, hc2, rfl⟩
  (try simp only [List.length_map] at hm2)
  refine aops_cons rfl (w_pure rfl (p_quo' rfl rfl (by omega) (by omega) (by omega)) ?_)
  refine aops_cons rfl (w_pure rfl (p_sub' rfl rfl ⟨by omega, by omega⟩) ?_)
  refine aops_cons rfl (w_pure rfl (p_assign rfl) ?_)
  refine aops_nil ?_
  refine a_ret ?_
  refine ret_ok (hands1 rfl (.tmp rfl)) (st' := [(q, _)]) (.cons (by repeat (first | exact Pick.here _ _ _ | apply Pick.next)) (.nil _)) ?_
  exact ⟨_, _, _, rfl, by omega, by omega, rfl⟩

theorem c_spec_l1Cur_tick11 (q : Nat) (bs : List Int) (hb : Bytes bs) (a s : Int) (h0 : 0 ≤ a) (h1 : a ≤ 999999996000)  : ACalls Try.prog 54 [.ptr q 0] [(q, curE bs a s)] (fun r st => ∃ m a' s', r = .int .i64 m ∧ a ≤ a' ∧ a' ≤ a + 4 ∧ st = [(q, curE bs a' s')]) := by
  refine a_enter Try.func54 rfl rfl (fun w0 M0 => ?_)
  refine a_seq ?_
  refine a_region ?_
  refine aops_cons rfl (w_pure rfl (p_assign rfl) ?_)
  refine aops_nil ?_
  refine a_seq ?_
  refine a_region ?_
  refine aops_cons rfl (w_pure rfl (p_move rfl) ?_)
  refine aops_cons rfl (w_lit_vM eInt [_, _, _, _, _, _, _, _, _, _] rfl el_25 rfl rfl rfl rfl rfl ?_)
  refine aops_cons rfl (w_pure rfl (p_move rfl) ?_)
  refine aops_cons rfl (w_callM0 rfl rfl rfl cl_56 (.cons (by repeat (first | exact Pick.here _ _ _ | apply Pick.next)) (.nil _)) (c_spec_l1Cur_pick _ _ hb _ _ (by omega) (by omega) _ (by first | omega | (simp; done) | (simp; omega))) trivial ?_)
  rintro _ _ ⟨m1, a1, s1, rfl, hm1, ha1, hc1, rfl⟩
  (try simp only [List.length_map] at hm1)
  refine aops_cons rfl (w_pure rfl (p_quo' rfl rfl (by omega) (by omega) (by omega)) ?_)
  refine aops_cons rfl (w_pure rfl (p_add' rfl rfl ⟨by omega, by omega⟩) ?_)
  refine aops_cons rfl (w_pure rfl (p_take eInt es_25 rfl rfl (by omega) (by first | (simp; omega) | omega) (fun _ => rfl)) ?_)
  refine aops_cons rfl (w_callM0 rfl rfl rfl cl_55 (.cons (by repeat (first | exact Pick.here _ _ _ | apply Pick.next)) (.nil _)) (c_spec_l1Cur_among _ _ hb _ _ (by omega) (by omega) _ (by first | (simp; done) | (simp; omega)) (-1) 100001 (by first | (intro x hx; simp only [List.mem_cons, List.not_mem_nil, or_false] at hx; omega) | (intro x hx; have hx := List.mem_of_mem_take hx; simp only [List.mem_cons, List.not_mem_nil, or_false] at hx; omega))) trivial ?_)
  rintro _ _ ⟨m2, a2, s2, rfl, hm2, ha2, hc2, rfl⟩
  (try simp only [List.length_map] at hm2)
  refine aops_cons rfl (w_pure rfl (p_assign rfl) ?_)
  refine aops_nil ?_
  refine a_ret ?_
  refine ret_ok (hands1 rfl (.tmp rfl)) (st' := [(q, _)]) (.cons (by repeat (first | exact Pick.here _ _ _ | apply Pick.next)) (.nil _)) ?_
  exact ⟨_, _, _, rfl, by omega, by omega, rfl⟩

theorem co_spec_DrawAreTimers (bs : List Int) (hb : Bytes bs) : ACalls Try.prog 65 [.sl (bs.map eByte)] [] (fun r st => ∃ (b : Nat) (xs : List Tmr), r = .own 4 b 0 xs.length ∧ xs.length ≤ 9 ∧ st = [(b, .arr 47 4 (xs.map eTimer))]) := by
  refine a_enter Try.func65 rfl rfl (fun w0 M0 => ?_)
  refine a_seq ?_
  refine a_region ?_
  refine aops_cons rfl (w_pure rfl (p_assign rfl) ?_)
  refine aops_nil ?_
  refine a_seq ?_
  refine a_region ?_
  refine aops_cons rfl (w_pure rfl (p_move rfl) ?_)
  refine aops_cons rfl (w_pure rfl (p_build (cells := [_, _, _]) z_67 pl_67 rfl rfl) ?_)
  refine aops_cons rfl (w_box rfl rfl rfl fun b1 => ?_)
  refine aops_cons rfl (w_pure rfl (p_assign rfl) ?_)
  refine aops_nil ?_
  refine a_seq ?_
  refine a_region ?_
  refine aops_cons rfl (w_pure rfl (p_move rfl) ?_)
  refine aops_cons rfl (w_callM0 rfl rfl rfl cl_52 (.cons (by repeat (first | exact Pick.here _ _ _ | apply Pick.next)) (.nil _)) (c_spec_l1Cur_timers _ _ hb _ _ (by omega) (by omega) ) trivial ?_)
  rintro _ _ ⟨b2, xs1, a1, s1, rfl, hx1, ha1, hc1, rfl⟩
  skip
  refine aops_cons rfl (w_pure rfl (p_assign rfl) ?_)
  refine aops_nil ?_
  refine a_ret ?_
  refine ret_ok (hands1 rfl (.tmp rfl)) (st' := [(b2, _)]) (.cons (by repeat (first | exact Pick.here _ _ _ | apply Pick.next)) (.nil _)) ?_
  exact ⟨_, _, rfl, hx1, rfl⟩

theorem c_spec_DrawAreTimers (bs : List Int) (hb : Bytes bs) : ACalls Try.prog 65 [.sl (bs.map eByte)] [] (fun r st => (∃ (xs : List Tmr), r = .sl (xs.map eTimer) ∧ xs.length ≤ 9) ∧ st = []) :=
  freezeE (co_spec_DrawAreTimers bs hb) (by rintro _ _ ⟨b, xs, rfl, hx, rfl⟩; exact ⟨_, (.own (by repeat (first | exact List.Mem.head _ | apply List.Mem.tail)) (List.length_map _)), xs, rfl, hx⟩)

theorem c_spec_DrawNextToFire (bs : List Int) (hb : Bytes bs) : ACalls Try.prog 27 [.sl (bs.map eByte)] [] (fun r st => (∃ (xs : List Tmr), r = .sl (xs.map eTimer) ∧ xs.length ≤ 9) ∧ st = []) := by
  refine a_enter Try.func27 rfl rfl (fun w0 M0 => ?_)
  refine a_seq ?_
  refine a_region ?_
  refine aops_cons rfl (w_pure rfl (p_assign rfl) ?_)
  refine aops_nil ?_
  refine a_seq ?_
  refine a_region ?_
  refine aops_cons rfl (w_pure rfl (p_move rfl) ?_)
  refine aops_cons rfl (w_call rfl rfl rfl cl_65 (c_spec_DrawAreTimers bs hb) ?_)
  rintro _ _ ⟨⟨xs1, rfl, hx1⟩, rfl⟩
  skip
  refine aops_cons rfl (w_pure rfl (p_assign rfl) ?_)
  refine aops_nil ?_
  refine a_ret ?_
  refine ret_ok (hands1 rfl (.tmp rfl)) (.nil _) ?_
  exact ⟨⟨_, rfl, hx1⟩, rfl⟩

theorem co_spec_DrawArmTimer (bs : List Int) (hb : Bytes bs) : ACalls Try.prog 17 [.sl (bs.map eByte)] [] (fun r st => ∃ (b : Nat) (xs : List Tmr) (m : Int) (n : Int) (e : Int), r = .tup [.own 4 b 0 xs.length, .int .i64 m, .int .i64 n, .int .i64 e] ∧ xs.length ≤ 9 ∧ st = [(b, .arr 47 4 (xs.map eTimer))]) := by
  refine a_enter Try.func17 rfl rfl (fun w0 M0 => ?_)
  refine a_seq ?_
  refine a_region ?_
  refine aops_cons rfl (w_pure rfl (p_assign rfl) ?_)
  refine aops_cons rfl (w_pure rfl (p_assign rfl) ?_)
  refine aops_cons rfl (w_pure rfl (p_assign rfl) ?_)
  refine aops_cons rfl (w_pure rfl (p_assign rfl) ?_)
  refine aops_nil ?_
  refine a_seq ?_
  refine a_region ?_
  refine aops_cons rfl (w_pure rfl (p_move rfl) ?_)
  refine aops_cons rfl (w_pure rfl (p_build (cells := [_, _, _]) z_67 pl_67 rfl rfl) ?_)
  refine aops_cons rfl (w_box rfl rfl rfl fun b1 => ?_)
  refine aops_cons rfl (w_pure rfl (p_assign rfl) ?_)
  refine aops_nil ?_
  refine a_seq ?_
  refine a_region ?_
  refine aops_cons rfl (w_pure rfl (p_move rfl) ?_)
  refine aops_cons rfl (w_callM0 rfl rfl rfl cl_52 (.cons (by repeat (first | exact Pick.here _ _ _ | apply Pick.next)) (.nil _)) (c_spec_l1Cur_timers _ _ hb _ _ (by omega) (by omega) ) trivial ?_)
  rintro _ _ ⟨b2, xs1, a1, s1, rfl, hx1, ha1, hc1, rfl⟩
  skip
  refine aops_cons rfl (w_pure rfl (p_assign rfl) ?_)
  refine aops_nil ?_
  refine a_seq ?_
  refine a_region ?_
  refine aops_cons rfl (w_pure rfl (p_move rfl) ?_)
  refine aops_cons rfl (w_pure rfl (p_move rfl) ?_)
  refine aops_cons rfl (w_pure rfl (p_move rfl) ?_)
  refine aops_cons rfl (w_callM0 rfl rfl rfl cl_53 (.cons (by repeat (first | exact Pick.here _ _ _ | apply Pick.next)) (.nil _)) (c_spec_l1Cur_timerOf _ _ hb _ _ (by omega) (by omega) _ _ (by omega)) trivial ?_)
  rintro _ _ ⟨m2, a2, s2, rfl, ha2, hc2, rfl⟩
  skip
  refine aops_cons rfl (w_pure rfl (p_move rfl) ?_)
  refine aops_cons rfl (w_callM0 rfl rfl rfl cl_54 (.cons (by repeat (first | exact Pick.here _ _ _ | apply Pick.next)) (.nil _)) (c_spec_l1Cur_tick11 _ _ hb _ _ (by omega) (by omega) ) trivial ?_)
  rintro _ _ ⟨m3, a3, s3, rfl, ha3, hc3, rfl⟩
  skip
  refine aops_cons rfl (w_pure rfl (p_move rfl) ?_)
  refine aops_cons rfl (w_lit_vM eInt [_, _, _, _, _] rfl el_25 rfl rfl rfl rfl rfl ?_)
  refine aops_cons rfl (w_pure rfl (p_move rfl) ?_)
  refine aops_cons rfl (w_callM0 rfl rfl rfl cl_56 (.cons (by repeat (first | exact Pick.here _ _ _ | apply Pick.next)) (.nil _)) (c_spec_l1Cur_pick _ _ hb _ _ (by omega) (by omega) _ (by first | omega | (simp; done) | (simp; omega))) trivial ?_)
  rintro _ _ ⟨m4, a4, s4, rfl, hm4, ha4, hc4, rfl⟩
  (try simp only [List.length_map] at hm4)
  refine aops_cons rfl (w_pure rfl (p_quo' rfl rfl (by omega) (by omega) (by omega)) ?_)
  refine aops_cons rfl (w_pure rfl (p_add' rfl rfl ⟨by omega, by omega⟩) ?_)
  refine aops_cons rfl (w_pure rfl (p_take eInt es_25 rfl rfl (by omega) (by first | (simp; omega) | omega) (fun _ => rfl)) ?_)
  refine aops_cons rfl (w_callM0 rfl rfl rfl cl_55 (.cons (by repeat (first | exact Pick.here _ _ _ | apply Pick.next)) (.nil _)) (c_spec_l1Cur_among _ _ hb _ _ (by omega) (by omega) _ (by first | (simp; done) | (simp; omega)) (-1) 100001 (by first | (intro x hx; simp only [List.mem_cons, List.not_mem_nil, or_false] at hx; omega) | (intro x hx; have hx := List.mem_of_mem_take hx; simp only [List.mem_cons, List.not_mem_nil, or_false] at hx; omega))) trivial ?_)
  rintro _ _ ⟨m5, a5, s5, rfl, hm5, ha5, hc5, rfl⟩
  (try simp only [List.length_map] at hm5)
  refine aops_cons rfl (w_pure rfl (p_assign rfl) ?_)
  refine aops_cons rfl (w_pure rfl (p_assign rfl) ?_)
  refine aops_cons rfl (w_pure rfl (p_assign rfl) ?_)
  refine aops_cons rfl (w_pure rfl (p_assign rfl) ?_)
  refine aops_nil ?_
  refine a_ret ?_
  refine ret_ok (hands4 rfl (.tmp rfl) (.tmp rfl) (.tmp rfl) (.tmp rfl)) (st' := [(b2, _)]) (.cons (by repeat (first | exact Pick.here _ _ _ | apply Pick.next)) (.nil _)) ?_
  exact ⟨_, _, _, _, _, rfl, hx1, rfl⟩

theorem c_spec_DrawArmTimer (bs : List Int) (hb : Bytes bs) : ACalls Try.prog 17 [.sl (bs.map eByte)] [] (fun r st => (∃ (xs : List Tmr) (m : Int) (n : Int) (e : Int), r = .tup [.sl (xs.map eTimer), .int .i64 m, .int .i64 n, .int .i64 e] ∧ xs.length ≤ 9) ∧ st = []) :=
  freezeE (co_spec_DrawArmTimer bs hb) (by rintro _ _ ⟨b, xs, m, n, e, rfl, hx, rfl⟩; exact ⟨_, (.tup (.cons (.own (by repeat (first | exact List.Mem.head _ | apply List.Mem.tail)) (List.length_map _)) (.cons (.refl _) (.cons (.refl _) (.cons (.refl _) .nil))))), xs, m, n, e, rfl, hx⟩)

theorem co_spec_DrawDisarmTimer (bs : List Int) (hb : Bytes bs) : ACalls Try.prog 25 [.sl (bs.map eByte)] [] (fun r st => ∃ (b : Nat) (xs : List Tmr) (m : Int), r = .tup [.own 4 b 0 xs.length, .int .i64 m] ∧ xs.length ≤ 9 ∧ st = [(b, .arr 47 4 (xs.map eTimer))]) := by
  refine a_enter Try.func25 rfl rfl (fun w0 M0 => ?_)
  refine a_seq ?_
  refine a_region ?_
  refine aops_cons rfl (w_pure rfl (p_assign rfl) ?_)
  refine aops_cons rfl (w_pure rfl (p_assign rfl) ?_)
  refine aops_nil ?_
  refine a_seq ?_
  refine a_region ?_
  refine aops_cons rfl (w_pure rfl (p_move rfl) ?_)
  refine aops_cons rfl (w_pure rfl (p_build (cells := [_, _, _]) z_67 pl_67 rfl rfl) ?_)
  refine aops_cons rfl (w_box rfl rfl rfl fun b1 => ?_)
  refine aops_cons rfl (w_pure rfl (p_assign rfl) ?_)
  refine aops_nil ?_
  refine a_seq ?_
  refine a_region ?_
  refine aops_cons rfl (w_pure rfl (p_move rfl) ?_)
  refine aops_cons rfl (w_callM0 rfl rfl rfl cl_52 (.cons (by repeat (first | exact Pick.here _ _ _ | apply Pick.next)) (.nil _)) (c_spec_l1Cur_timers _ _ hb _ _ (by omega) (by omega) ) trivial ?_)
  rintro _ _ ⟨b2, xs1, a1, s1, rfl, hx1, ha1, hc1, rfl⟩
  skip
  refine aops_cons rfl (w_pure rfl (p_assign rfl) ?_)
  refine aops_nil ?_
  refine a_seq ?_
  refine a_region ?_
  refine aops_cons rfl (w_pure rfl (p_move rfl) ?_)
  refine aops_cons rfl (w_pure rfl (p_move rfl) ?_)
  refine aops_cons rfl (w_pure rfl (p_move rfl) ?_)
  refine aops_cons rfl (w_callM0 rfl rfl rfl cl_53 (.cons (by repeat (first | exact Pick.here _ _ _ | apply Pick.next)) (.nil _)) (c_spec_l1Cur_timerOf _ _ hb _ _ (by omega) (by omega) _ _ (by omega)) trivial ?_)
  rintro _ _ ⟨m2, a2, s2, rfl, ha2, hc2, rfl⟩
  skip
  refine aops_cons rfl (w_pure rfl (p_assign rfl) ?_)
  refine aops_cons rfl (w_pure rfl (p_assign rfl) ?_)
  refine aops_nil ?_
  refine a_ret ?_
  refine ret_ok (hands2 rfl (.tmp rfl) (.tmp rfl)) (st' := [(b2, _)]) (.cons (by repeat (first | exact Pick.here _ _ _ | apply Pick.next)) (.nil _)) ?_
  exact ⟨_, _, _, rfl, hx1, rfl⟩

theorem c_spec_DrawDisarmTimer (bs : List Int) (hb : Bytes bs) : ACalls Try.prog 25 [.sl (bs.map eByte)] [] (fun r st => (∃ (xs : List Tmr) (m : Int), r = .tup [.sl (xs.map eTimer), .int .i64 m] ∧ xs.length ≤ 9) ∧ st = []) :=
  freezeE (co_spec_DrawDisarmTimer bs hb) (by rintro _ _ ⟨b, xs, m, rfl, hx, rfl⟩; exact ⟨_, (.tup (.cons (.own (by repeat (first | exact List.Mem.head _ | apply List.Mem.tail)) (List.length_map _)) (.cons (.refl _) .nil))), xs, m, rfl, hx⟩)

theorem co_spec_DrawShiftTimers (bs : List Int) (hb : Bytes bs) : ACalls Try.prog 29 [.sl (bs.map eByte)] [] (fun r st => ∃ (b : Nat) (xs : List Tmr) (m : Int), r = .tup [.own 4 b 0 xs.length, .int .i64 m] ∧ xs.length ≤ 9 ∧ st = [(b, .arr 47 4 (xs.map eTimer))]) := by
  refine a_enter Try.func29 rfl rfl (fun w0 M0 => ?_)
  refine a_seq ?_
  refine a_region ?_
  refine aops_cons rfl (w_pure rfl (p_assign rfl) ?_)
  refine aops_cons rfl (w_pure rfl (p_assign rfl) ?_)
  refine aops_nil ?_
  refine a_seq ?_
  refine a_region ?_
  refine aops_cons rfl (w_pure rfl (p_move rfl) ?_)
  refine aops_cons rfl (w_pure rfl (p_build (cells := [_, _, _]) z_67 pl_67 rfl rfl) ?_)
  refine aops_cons rfl (w_box rfl rfl rfl fun b1 => ?_)
  refine aops_cons rfl (w_pure rfl (p_assign rfl) ?_)
  refine aops_nil ?_
  refine a_seq ?_
  refine a_region ?_
  refine aops_cons rfl (w_pure rfl (p_move rfl) ?_)
  refine aops_cons rfl (w_callM0 rfl rfl rfl cl_52 (.cons (by repeat (first | exact Pick.here _ _ _ | apply Pick.next)) (.nil _)) (c_spec_l1Cur_timers _ _ hb _ _ (by omega) (by omega) ) trivial ?_)
  rintro _ _ ⟨b2, xs1, a1, s1, rfl, hx1, ha1, hc1, rfl⟩
  skip
  refine aops_cons rfl (w_pure rfl (p_assign rfl) ?_)
  refine aops_nil ?_
  refine a_seq ?_
  refine a_region ?_
  refine aops_cons rfl (w_pure rfl (p_move rfl) ?_)
  refine aops_cons rfl (w_pure rfl (p_move rfl) ?_)
  refine aops_cons rfl (w_lit_vM eInt [_, _, _, _, _, _, _, _] rfl el_25 rfl rfl rfl rfl rfl ?_)
  refine aops_cons rfl (w_pure rfl (p_move rfl) ?_)
  refine aops_cons rfl (w_callM0 rfl rfl rfl cl_56 (.cons (by repeat (first | exact Pick.here _ _ _ | apply Pick.next)) (.nil _)) (c_spec_l1Cur_pick _ _ hb _ _ (by omega) (by omega) _ (by first | omega | (simp; done) | (simp; omega))) trivial ?_)
  rintro _ _ ⟨m2, a2, s2, rfl, hm2, ha2, hc2, rfl⟩
  (try simp only [List.length_map] at hm2)
  refine aops_cons rfl (w_pure rfl (p_quo' rfl rfl (by omega) (by omega) (by omega)) ?_)
  refine aops_cons rfl (w_pure rfl (p_add' rfl rfl ⟨by omega, by omega⟩) ?_)
  refine aops_cons rfl (w_pure rfl (p_take eInt es_25 rfl rfl (by omega) (by first | (simp; omega) | omega) (fun _ => rfl)) ?_)
  refine aops_cons rfl (w_callM0 rfl rfl rfl cl_55 (.cons (by repeat (first | exact Pick.here _ _ _ | apply Pick.next)) (.nil _)) (c_spec_l1Cur_among _ _ hb _ _ (by omega) (by omega) _ (by first | (simp; done) | (simp; omega)) (-100000) 100001 (by first | (intro x hx; simp only [List.mem_cons, List.not_mem_nil, or_false] at hx; omega) | (intro x hx; have hx := List.mem_of_mem_take hx; simp only [List.mem_cons, List.not_mem_nil, or_false] at hx; omega))) trivial ?_)
  rintro _ _ ⟨m3, a3, s3, rfl, hm3, ha3, hc3, rfl⟩
  (try simp only [List.length_map] at hm3)
  refine aops_cons rfl (w_pure rfl (p_assign rfl) ?_)
  refine aops_cons rfl (w_pure rfl (p_assign rfl) ?_)
  refine aops_nil ?_
  refine a_ret ?_
  refine ret_ok (hands2 rfl (.tmp rfl) (.tmp rfl)) (st' := [(b2, _)]) (.cons (by repeat (first | exact Pick.here _ _ _ | apply Pick.next)) (.nil _)) ?_
  exact ⟨_, _, _, rfl, hx1, rfl⟩

theorem c_spec_DrawShiftTimers (bs : List Int) (hb : Bytes bs) : ACalls Try.prog 29 [.sl (bs.map eByte)] [] (fun r st => (∃ (xs : List Tmr) (m : Int), r = .tup [.sl (xs.map eTimer), .int .i64 m] ∧ xs.length ≤ 9) ∧ st = []) :=
  freezeE (co_spec_DrawShiftTimers bs hb) (by rintro _ _ ⟨b, xs, m, rfl, hx, rfl⟩; exact ⟨_, (.tup (.cons (.own (by repeat (first | exact List.Mem.head _ | apply List.Mem.tail)) (List.length_map _)) (.cons (.refl _) .nil))), xs, m, rfl, hx⟩)

theorem co_spec_DrawFireTimers (bs : List Int) (hb : Bytes bs) : ACalls Try.prog 32 [.sl (bs.map eByte)] [] (fun r st => ∃ (b : Nat) (xs : List Tmr) (m : Int), r = .tup [.own 4 b 0 xs.length, .int .i64 m] ∧ xs.length ≤ 9 ∧ st = [(b, .arr 47 4 (xs.map eTimer))]) := by
  refine a_enter Try.func32 rfl rfl (fun w0 M0 => ?_)
  refine a_seq ?_
  refine a_region ?_
  refine aops_cons rfl (w_pure rfl (p_assign rfl) ?_)
  refine aops_cons rfl (w_pure rfl (p_assign rfl) ?_)
  refine aops_nil ?_
  refine a_seq ?_
  refine a_region ?_
  refine aops_cons rfl (w_pure rfl (p_move rfl) ?_)
  refine aops_cons rfl (w_pure rfl (p_build (cells := [_, _, _]) z_67 pl_67 rfl rfl) ?_)
  refine aops_cons rfl (w_box rfl rfl rfl fun b1 => ?_)
  refine aops_cons rfl (w_pure rfl (p_assign rfl) ?_)
  refine aops_nil ?_
  refine a_seq ?_
  refine a_region ?_
  refine aops_cons rfl (w_pure rfl (p_move rfl) ?_)
  refine aops_cons rfl (w_callM0 rfl rfl rfl cl_52 (.cons (by repeat (first | exact Pick.here _ _ _ | apply Pick.next)) (.nil _)) (c_spec_l1Cur_timers _ _ hb _ _ (by omega) (by omega) ) trivial ?_)
  rintro _ _ ⟨b2, xs1, a1, s1, rfl, hx1, ha1, hc1, rfl⟩
  skip
  refine aops_cons rfl (w_pure rfl (p_assign rfl) ?_)
  refine aops_nil ?_
  refine a_seq ?_
  refine a_region ?_
  refine aops_cons rfl (w_pure rfl (p_move rfl) ?_)
  refine aops_cons rfl (w_pure rfl (p_move rfl) ?_)
  refine aops_cons rfl (w_callM0 rfl rfl rfl cl_54 (.cons (by repeat (first | exact Pick.here _ _ _ | apply Pick.next)) (.nil _)) (c_spec_l1Cur_tick11 _ _ hb _ _ (by omega) (by omega) ) trivial ?_)
  rintro _ _ ⟨m2, a2, s2, rfl, ha2, hc2, rfl⟩
  skip
  refine aops_cons rfl (w_pure rfl (p_assign rfl) ?_)
  refine aops_cons rfl (w_pure rfl (p_assign rfl) ?_)
  refine aops_nil ?_
  refine a_ret ?_
  refine ret_ok (hands2 rfl (.tmp rfl) (.tmp rfl)) (st' := [(b2, _)]) (.cons (by repeat (first | exact Pick.here _ _ _ | apply Pick.next)) (.nil _)) ?_
  exact ⟨_, _, _, rfl, hx1, rfl⟩

theorem c_spec_DrawFireTimers (bs : List Int) (hb : Bytes bs) : ACalls Try.prog 32 [.sl (bs.map eByte)] [] (fun r st => (∃ (xs : List Tmr) (m : Int), r = .tup [.sl (xs.map eTimer), .int .i64 m] ∧ xs.length ≤ 9) ∧ st = []) :=
  freezeE (co_spec_DrawFireTimers bs hb) (by rintro _ _ ⟨b, xs, m, rfl, hx, rfl⟩; exact ⟨_, (.tup (.cons (.own (by repeat (first | exact List.Mem.head _ | apply List.Mem.tail)) (List.length_map _)) (.cons (.refl _) .nil))), xs, m, rfl, hx⟩)



theorem c_spec_DrawQuietFor (bs : List Int) (hb : Bytes bs) : ACalls Try.prog 41 [.sl (bs.map eByte)] [] (fun r st => (∃ (xs : List Tmr) (m : Int), r = .tup [.sl (xs.map eTimer), .int .i64 m] ∧ xs.length ≤ 9) ∧ st = []) := by
  refine a_enter Try.func41 rfl rfl (fun w0 M0 => ?_)
  refine a_seq ?_
  refine a_region ?_
  refine aops_cons rfl (w_pure rfl (p_assign rfl) ?_)
  refine aops_cons rfl (w_pure rfl (p_assign rfl) ?_)
  refine aops_nil ?_
  refine a_seq ?_
  refine a_region ?_
  refine aops_cons rfl (w_pure rfl (p_move rfl) ?_)
  refine aops_cons rfl (w_call rfl rfl rfl cl_32 (c_spec_DrawFireTimers bs hb) ?_)
  rintro _ _ ⟨⟨xs1, m1, rfl, hx1⟩, rfl⟩
  skip
  refine aops_cons rfl (w_pure rfl (p_extract rfl rfl) ?_)
  refine aops_cons rfl (w_pure rfl (p_extract rfl rfl) ?_)
  refine aops_cons rfl (w_pure rfl (p_assign rfl) ?_)
  refine aops_cons rfl (w_pure rfl (p_assign rfl) ?_)
  refine aops_nil ?_
  refine a_ret ?_
  refine ret_ok (hands2 rfl (.tmp rfl) (.tmp rfl)) (.nil _) ?_
  exact ⟨⟨_, _, rfl, hx1⟩, rfl⟩

theorem c_spec_DrawFiresUpTo (bs : List Int) (hb : Bytes bs) : ACalls Try.prog 37 [.sl (bs.map eByte)] [] (fun r st => ∃ (v : Tmr) (m : Int), r = .tup [.agg (eTimer v), .int .i64 m] ∧ st = []) := by
  refine a_enter Try.func37 rfl rfl (fun w0 M0 => ?_)
  refine a_seq ?_
  refine a_region ?_
  refine aops_cons rfl (w_alloc rfl z_47 fun b1 => ?_)
  refine aops_cons rfl (w_pure rfl (p_assign rfl) ?_)
  refine aops_nil ?_
  refine a_seq ?_
  refine a_region ?_
  refine aops_cons rfl (w_pure rfl (p_move rfl) ?_)
  refine aops_cons rfl (w_pure rfl (p_build (cells := [_, _, _]) z_67 pl_67 rfl rfl) ?_)
  refine aops_cons rfl (w_box rfl rfl rfl fun b2 => ?_)
  refine aops_cons rfl (w_pure rfl (p_assign rfl) ?_)
  refine aops_nil ?_
  refine a_seq ?_
  refine a_region ?_
  refine aops_cons rfl (w_pure rfl (p_move rfl) ?_)
  refine aops_cons rfl (w_callM0 rfl rfl rfl cl_70 (.cons (by repeat (first | exact Pick.here _ _ _ | apply Pick.next)) (.nil _)) (c_spec_l1Cur_timer _ _ hb _ _ (by omega) (by omega) ) trivial ?_)
  rintro _ _ ⟨v1, a1, s1, rfl, ha1, hc1, rfl⟩
  skip
  refine aops_cons rfl (w_pure rfl (p_move rfl) ?_)
  refine aops_cons rfl (w_callM0 rfl rfl rfl cl_54 (.cons (by repeat (first | exact Pick.here _ _ _ | apply Pick.next)) (.nil _)) (c_spec_l1Cur_tick11 _ _ hb _ _ (by omega) (by omega) ) trivial ?_)
  rintro _ _ ⟨m2, a2, s2, rfl, ha2, hc2, rfl⟩
  skip
  refine aops_cons rfl (w_store (cells' := [_, _, _, _]) rfl rfl rfl (by repeat (first | exact Pick.here _ _ _ | apply Pick.next)) cn_47 (by rfl) (by rfl) (by rfl) trivial ?_)
  refine aops_cons rfl (w_pure rfl (p_assign rfl) ?_)
  refine aops_nil ?_
  refine a_ret ?_
  refine ret_ok (hands2 rfl (.cell ag_47 rfl (by repeat (first | exact Pick.here _ _ _ | apply Pick.next)) (by rfl)) (.tmp rfl)) (.nil _) ?_
  exact ⟨_, _, rfl, rfl⟩

theorem cv_spec_ArmTimer (xs : List Tmr) (hn : xs.length ≤ 1048576) (tm nx ev : Int) : ACalls Try.prog 19 [.sl (xs.map eTimer), .int .i64 tm, .int .i64 nx, .int .i64 ev] [] (Ret (.tup [.sl ((pickT (GoodArm xs tm nx ev) (armL xs tm nx ev)).map eTimer), .bool (decide (GoodArm xs tm nx ev))])) := by
  by_cases hA : GoodArm xs tm nx ev
  · rw [pickT_y hA, decide_eq_true hA]
    exact cy_spec_ArmTimer xs hn tm nx ev hA
  · rw [pickT_n hA, decide_eq_false hA]
    exact (cn_spec_ArmTimer xs hn tm nx ev hA).freeze (by rintro _ _ ⟨rfl, rfl⟩; first | exact (.tup (.cons .nil (.cons (.refl _) .nil))) | exact (.tup (.cons (.refl _) (.cons (.refl _) .nil))))

theorem cv_impl_ArmTimer (xs : List Tmr) (hn : xs.length ≤ 1048576) (tm nx ev : Int) : ACalls Try.prog 18 [.sl (xs.map eTimer), .int .i64 tm, .int .i64 nx, .int .i64 ev] [] (Ret (.tup [.sl ((pickT (GoodArm xs tm nx ev) (armL xs tm nx ev)).map eTimer), .bool (decide (GoodArm xs tm nx ev))])) := by
  by_cases hA : GoodArm xs tm nx ev
  · rw [pickT_y hA, decide_eq_true hA]
    exact cf_impl_ArmTimer xs hn tm nx ev hA
  · rw [pickT_n hA, decide_eq_false hA]
    exact (cn_impl_ArmTimer xs hn tm nx ev hA).freeze (by rintro _ _ ⟨rfl, rfl⟩; first | exact (.tup (.cons .nil (.cons (.refl _) .nil))) | exact (.tup (.cons (.refl _) (.cons (.refl _) .nil))))

theorem cv_spec_DisarmTimer (xs : List Tmr) (hn : xs.length ≤ 1048576) (tm : Int) : ACalls Try.prog 26 [.sl (xs.map eTimer), .int .i64 tm] [] (Ret (.tup [.sl ((pickT (HasT xs tm) (disL xs tm)).map eTimer), .bool (decide (HasT xs tm))])) := by
  by_cases hA : HasT xs tm
  · rw [pickT_y hA, decide_eq_true hA]
    exact cy_spec_DisarmTimer xs hn tm hA
  · rw [pickT_n hA, decide_eq_false hA]
    exact (cn_spec_DisarmTimer xs hn tm hA).freeze (by rintro _ _ ⟨rfl, rfl⟩; first | exact (.tup (.cons .nil (.cons (.refl _) .nil))) | exact (.tup (.cons (.refl _) (.cons (.refl _) .nil))))

theorem cv_impl_DisarmTimer (xs : List Tmr) (hn : xs.length ≤ 1048576) (tm : Int) : ACalls Try.prog 23 [.sl (xs.map eTimer), .int .i64 tm] [] (Ret (.tup [.sl ((pickT (HasT xs tm) (disL xs tm)).map eTimer), .bool (decide (HasT xs tm))])) := by
  by_cases hA : HasT xs tm
  · rw [pickT_y hA, decide_eq_true hA]
    exact cf_impl_DisarmTimer xs hn tm hA
  · rw [pickT_n hA, decide_eq_false hA]
    exact (cn_impl_DisarmTimer xs hn tm hA).freeze (by rintro _ _ ⟨rfl, rfl⟩; first | exact (.tup (.cons .nil (.cons (.refl _) .nil))) | exact (.tup (.cons (.refl _) (.cons (.refl _) .nil))))

theorem cv_spec_ShiftTimers (xs : List Tmr) (hn : xs.length ≤ 1048576) (d : Int) : ACalls Try.prog 31 [.sl (xs.map eTimer), .int .i64 d] [] (Ret (.tup [.sl ((pickT (GoodShift xs d) (shiftL xs d)).map eTimer), .bool (decide (GoodShift xs d))])) := by
  by_cases hA : GoodShift xs d
  · rw [pickT_y hA, decide_eq_true hA]
    exact cy_spec_ShiftTimers xs hn d hA
  · rw [pickT_n hA, decide_eq_false hA]
    exact (cn_spec_ShiftTimers xs hn d hA).freeze (by rintro _ _ ⟨rfl, rfl⟩; first | exact (.tup (.cons .nil (.cons (.refl _) .nil))) | exact (.tup (.cons (.refl _) (.cons (.refl _) .nil))))

theorem cv_impl_ShiftTimers (xs : List Tmr) (hn : xs.length ≤ 1048576) (d : Int) : ACalls Try.prog 30 [.sl (xs.map eTimer), .int .i64 d] [] (Ret (.tup [.sl ((pickT (GoodShift xs d) (shiftL xs d)).map eTimer), .bool (decide (GoodShift xs d))])) := by
  by_cases hA : GoodShift xs d
  · rw [pickT_y hA, decide_eq_true hA]
    exact cf_impl_ShiftTimers xs hn d hA
  · rw [pickT_n hA, decide_eq_false hA]
    exact (cn_impl_ShiftTimers xs hn d hA).freeze (by rintro _ _ ⟨rfl, rfl⟩; first | exact (.tup (.cons .nil (.cons (.refl _) .nil))) | exact (.tup (.cons (.refl _) (.cons (.refl _) .nil))))

theorem cv_spec_FireTimers (xs : List Tmr) (hn : xs.length ≤ 1048576) (t : Int) : ACalls Try.prog 7 [.sl (xs.map eTimer), .int .i64 t] [] (Ret (.tup [.sl ((pickT (GoodFire xs t) (fireL xs t)).map eTimer), .sl ((pickL (GoodFire xs t) (firedL xs t)).map eInt), .bool (decide (GoodFire xs t))])) := by
  by_cases hA : GoodFire xs t
  · rw [pickT_y hA, pickL_y hA, decide_eq_true hA]
    exact cy_spec_FireTimers xs hn t hA
  · rw [pickT_n hA, pickL_n hA, decide_eq_false hA]
    exact (cn_spec_FireTimers xs hn t hA).freeze (by rintro _ _ ⟨rfl, rfl⟩; first | exact (.tup (.cons .nil (.cons .nil (.cons (.refl _) .nil)))) | exact (.tup (.cons (.refl _) (.cons (.refl _) (.cons (.refl _) .nil)))))

theorem cv_impl_FireTimers (xs : List Tmr) (hn : xs.length ≤ 1048576) (t : Int) : ACalls Try.prog 9 [.sl (xs.map eTimer), .int .i64 t] [] (Ret (.tup [.sl ((pickT (GoodFire xs t) (fireL xs t)).map eTimer), .sl ((pickL (GoodFire xs t) (firedL xs t)).map eInt), .bool (decide (GoodFire xs t))])) := by
  by_cases hA : GoodFire xs t
  · rw [pickT_y hA, pickL_y hA, decide_eq_true hA]
    exact cf_impl_FireTimers xs hn t hA
  · rw [pickT_n hA, pickL_n hA, decide_eq_false hA]
    exact (cn_impl_FireTimers xs hn t hA).freeze (by rintro _ _ ⟨rfl, rfl⟩; first | exact (.tup (.cons .nil (.cons .nil (.cons (.refl _) .nil)))) | exact (.tup (.cons (.refl _) (.cons (.refl _) (.cons (.refl _) .nil)))))

theorem cv_spec_IrqsUpTo (xs : List Tmr) (hn : xs.length ≤ 1048576) (t : Int) : ACalls Try.prog 35 [.sl (xs.map eTimer), .int .i64 t] [] (Ret (.tup [.sl ((pickL (GoodUpTo xs t) (irqs xs t)).map eInt), .bool (decide (GoodUpTo xs t))])) := by
  by_cases hA : GoodUpTo xs t
  · rw [pickL_y hA, decide_eq_true hA]
    exact cy_spec_IrqsUpTo xs hn t hA
  · rw [pickL_n hA, decide_eq_false hA]
    exact (cn_spec_IrqsUpTo xs hn t hA).freeze (by rintro _ _ ⟨rfl, rfl⟩; first | exact (.tup (.cons .nil (.cons (.refl _) .nil))) | exact (.tup (.cons (.refl _) (.cons (.refl _) .nil))))

theorem cv_impl_IrqsUpTo (xs : List Tmr) (hn : xs.length ≤ 1048576) (t : Int) : ACalls Try.prog 34 [.sl (xs.map eTimer), .int .i64 t] [] (Ret (.tup [.sl ((pickL (GoodUpTo xs t) (irqs xs t)).map eInt), .bool (decide (GoodUpTo xs t))])) := by
  by_cases hA : GoodUpTo xs t
  · rw [pickL_y hA, decide_eq_true hA]
    exact cf_impl_IrqsUpTo xs hn t hA
  · rw [pickL_n hA, decide_eq_false hA]
    exact (cn_impl_IrqsUpTo xs hn t hA).freeze (by rintro _ _ ⟨rfl, rfl⟩; first | exact (.tup (.cons .nil (.cons (.refl _) .nil))) | exact (.tup (.cons (.refl _) (.cons (.refl _) .nil))))

theorem ct_impl_NextToFire (xs : List Tmr) (hn : xs.length ≤ 1048576) (hg : GoodNext xs) : ACalls Try.prog 21 [.sl (xs.map eTimer)] [] (Ret (.tup [.int .i64 (fireI xs), .int .i64 (nextV xs), .bool true])) := by
  have := c_impl_NextToFire xs hn
  rwa [pickI_y hg, pickI_y hg, decide_eq_true hg] at this

theorem ct_impl_AreTimers (xs : List Tmr) (hn : xs.length ≤ 1048576) (hg : AreTimers xs) : ACalls Try.prog 22 [.sl (xs.map eTimer)] [] (Ret (.bool true)) := by
  have := c_impl_AreTimers xs hn
  rwa [decide_eq_true hg] at this

theorem ct_impl_FiresUpTo (v : Tmr) (t : Int) (hg : GoodUp v t) : ACalls Try.prog 24 [.agg (eTimer v), .int .i64 t] [] (Ret (.tup [.int .i64 (fires1 v t), .bool true])) := by
  have := c_impl_FiresUpTo v t
  rwa [pickI_y hg, decide_eq_true hg] at this

theorem eqs_47 : eqShape Try.prog 47 = some [false, true, true, true] := by kernel_rfl

theorem c_laws_rInts (xs : List Int) (hn : xs.length ≤ 1048576) : ACalls Try.prog 33 [.sl (xs.map eInt), .sl (xs.map eInt)] [] (Ret (.bool true)) := by
  refine a_enter Try.func33 rfl rfl (fun w0 M0 => ?_)
  refine a_seq ?_
  refine a_region ?_
  refine aops_cons rfl (w_pure rfl (p_assign rfl) ?_)
  refine aops_nil ?_
  refine a_seq ?_
  refine a_seq ?_
  refine a_region ?_
  refine aops_cons rfl (w_pure rfl (p_move rfl) ?_)
  refine aops_cons rfl (w_pure rfl (p_len sl_25 rfl rfl) ?_)
  refine aops_cons rfl (w_pure rfl (p_move rfl) ?_)
  refine aops_cons rfl (w_pure rfl (p_len sl_25 rfl rfl) ?_)
  refine aops_cons rfl (w_pure rfl (p_neq_same rfl rfl) ?_)
  refine aops_nil ?_
  refine a_cond_f rfl ?_
  refine a_skip ?_
  refine a_seq ?_
  refine a_seq ?_
  refine a_region ?_
  refine aops_cons rfl (w_pure rfl (p_assign rfl) ?_)
  refine aops_nil ?_
  refine a_block ?_
  refine a_loop (ι := Nat) (fun i => i ≤ xs.length) (fun i => [(5, .int .i64 (i : Int))]) (fun i => []) (fun i => xs.length - i) 0 (Nat.zero_le _) (by repeat (first | exact Knows.nil | refine Knows.cons (by rfl) ?_)) (by repeat (first | exact Picks.nil _ | exact Pick.here _ _ _ | apply Pick.next | apply Picks.cons)) ?_
  rintro i hi
  skip
  refine a_seq ?_
  refine a_seq ?_
  refine a_region ?_
  refine aops_cons rfl (w_pure rfl (p_move rfl) ?_)
  refine aops_cons rfl (w_pure rfl (p_move rfl) ?_)
  refine aops_cons rfl (w_pure rfl (p_len sl_25 rfl rfl) ?_)
  refine aops_cons rfl (w_pure rfl (p_lss rfl rfl) ?_)
  refine aops_nil ?_
  first | refine a_cond_d rfl (fun h1 => ?_) (fun h2 => ?_) | refine a_cond_n rfl (fun h1 => ?_) (fun h2 => ?_) | refine a_cond_nb rfl (fun h1 => ?_) (fun h2 => ?_) | refine a_cond rfl (fun h1 => ?_) (fun h2 => ?_)
  · (try simp only [Bool.not_eq_true', Bool.not_eq_false', Bool.not_eq_true, Bool.not_eq_false, decide_eq_true_eq, decide_eq_false_iff_not, List.length_map, List.length_range] at h1)
    refine a_skip ?_
    refine a_seq ?_
    refine a_block ?_
    refine a_seq ?_
    refine a_draw [] (by kernel_rfl) ?_
    show ADraw _ _ _ _ _ _ 9 _ _ _ _
    refine d_take 0 rfl (by kernel_rfl) (by kernel_rfl) (by kernel_rfl) rfl (p_move rfl) ?_
    refine d_take 1 rfl (by kernel_rfl) (by kernel_rfl) (by kernel_rfl) rfl (p_move rfl) ?_
    refine d_take 2 rfl (by kernel_rfl) (by kernel_rfl) (by kernel_rfl) rfl (p_index_sl _ rfl rfl rfl (rowD _ _ (0 : Int) (by omega)) es_25) ?_
    refine d_load 3 rfl (by kernel_rfl) (by kernel_rfl) (by kernel_rfl) rfl (p_load_v ag_3 rfl (by rfl) noX) ?_
    refine d_take 4 rfl (by kernel_rfl) (by kernel_rfl) (by kernel_rfl) rfl (p_move rfl) ?_
    refine d_take 5 rfl (by kernel_rfl) (by kernel_rfl) (by kernel_rfl) rfl (p_move rfl) ?_
    refine d_take 6 rfl (by kernel_rfl) (by kernel_rfl) (by kernel_rfl) rfl (p_index_sl _ rfl rfl rfl (rowD _ _ (0 : Int) (by omega)) es_25) ?_
    refine d_load 7 rfl (by kernel_rfl) (by kernel_rfl) (by kernel_rfl) rfl (p_load_v ag_3 rfl (by rfl) noX) ?_
    refine d_take 8 rfl (by kernel_rfl) (by kernel_rfl) (by kernel_rfl) rfl (p_neq_same rfl rfl) ?_
    refine draw_done (by kernel_rfl) ?_
    refine a_cond_f rfl ?_
    refine a_skip ?_
    refine a_region ?_
    refine aops_cons rfl (w_pure rfl (p_move rfl) ?_)
    refine aops_cons rfl (w_pure rfl (p_add' rfl rfl ⟨by omega, by omega⟩) ?_)
    refine aops_cons rfl (w_pure rfl (p_assign rfl) ?_)
    refine aops_nil ?_
    refine ⟨(i + 1), _, ?_, ?_, (by repeat (first | exact Knows.nil | refine Knows.cons (by rfl) ?_)), (by repeat (first | exact Back.refl _ _ | refine Back.cons (by rfl) ?_)), (by repeat (first | exact Picks.nil _ | exact Pick.here _ _ _ | apply Pick.next | apply Picks.cons))⟩
    · omega
    · (try dsimp only); omega
  · (try simp only [Bool.not_eq_true', Bool.not_eq_false', Bool.not_eq_true, Bool.not_eq_false, decide_eq_true_eq, decide_eq_false_iff_not, List.length_map, List.length_range] at h2)
    refine a_exit ?_
    refine a_seq ?_
    refine a_region ?_
    refine aops_cons rfl (w_pure rfl (p_assign rfl) ?_)
    refine aops_nil ?_
    refine a_ret ?_
    refine ret_ok (hands1 rfl (.tmp rfl)) (.nil _) ?_
    first | exact ⟨rfl, rfl⟩ | (exfalso; omega)

theorem ce_laws_rInts (xs ys : List Int) (hn : ys.length ≤ 1048576) (h : xs = ys) : ACalls Try.prog 33 [.sl (xs.map eInt), .sl (ys.map eInt)] [] (Ret (.bool true)) := by
  subst h
  exact c_laws_rInts xs hn

theorem c_laws_rTimers (xs : List Tmr) (hn : xs.length ≤ 1048576) : ACalls Try.prog 20 [.sl (xs.map eTimer), .sl (xs.map eTimer)] [] (Ret (.bool true)) := by
  refine a_enter Try.func20 rfl rfl (fun w0 M0 => ?_)
  refine a_seq ?_
  refine a_region ?_
  refine aops_cons rfl (w_pure rfl (p_assign rfl) ?_)
  refine aops_nil ?_
  refine a_seq ?_
  refine a_seq ?_
  refine a_region ?_
  refine aops_cons rfl (w_pure rfl (p_move rfl) ?_)
  refine aops_cons rfl (w_pure rfl (p_len sl_24 rfl rfl) ?_)
  refine aops_cons rfl (w_pure rfl (p_move rfl) ?_)
  refine aops_cons rfl (w_pure rfl (p_len sl_24 rfl rfl) ?_)
  refine aops_cons rfl (w_pure rfl (p_neq_same rfl rfl) ?_)
  refine aops_nil ?_
  refine a_cond_f rfl ?_
  refine a_skip ?_
  refine a_seq ?_
  refine a_seq ?_
  refine a_region ?_
  refine aops_cons rfl (w_pure rfl (p_assign rfl) ?_)
  refine aops_nil ?_
  refine a_block ?_
  refine a_loop (ι := Nat) (fun i => i ≤ xs.length) (fun i => [(5, .int .i64 (i : Int))]) (fun i => []) (fun i => xs.length - i) 0 (Nat.zero_le _) (by repeat (first | exact Knows.nil | refine Knows.cons (by rfl) ?_)) (by repeat (first | exact Picks.nil _ | exact Pick.here _ _ _ | apply Pick.next | apply Picks.cons)) ?_
  rintro i hi
  skip
  refine a_seq ?_
  refine a_seq ?_
  refine a_region ?_
  refine aops_cons rfl (w_pure rfl (p_move rfl) ?_)
  refine aops_cons rfl (w_pure rfl (p_move rfl) ?_)
  refine aops_cons rfl (w_pure rfl (p_len sl_24 rfl rfl) ?_)
  refine aops_cons rfl (w_pure rfl (p_lss rfl rfl) ?_)
  refine aops_nil ?_
  first | refine a_cond_d rfl (fun h1 => ?_) (fun h2 => ?_) | refine a_cond_n rfl (fun h1 => ?_) (fun h2 => ?_) | refine a_cond_nb rfl (fun h1 => ?_) (fun h2 => ?_) | refine a_cond rfl (fun h1 => ?_) (fun h2 => ?_)
  · (try simp only [Bool.not_eq_true', Bool.not_eq_false', Bool.not_eq_true, Bool.not_eq_false, decide_eq_true_eq, decide_eq_false_iff_not, List.length_map, List.length_range] at h1)
    refine a_skip ?_
    refine a_seq ?_
    refine a_block ?_
    refine a_seq ?_
    refine a_draw [] (by kernel_rfl) ?_
    show ADraw _ _ _ _ _ _ 9 _ _ _ _
    refine d_take 0 rfl (by kernel_rfl) (by kernel_rfl) (by kernel_rfl) rfl (p_move rfl) ?_
    refine d_take 1 rfl (by kernel_rfl) (by kernel_rfl) (by kernel_rfl) rfl (p_move rfl) ?_
    refine d_take 2 rfl (by kernel_rfl) (by kernel_rfl) (by kernel_rfl) rfl (p_index_sl _ rfl rfl rfl (rowD _ _ zTimer (by omega)) es_24) ?_
    refine d_load 3 rfl (by kernel_rfl) (by kernel_rfl) (by kernel_rfl) rfl (p_load_v_all ag_47 rfl (by rfl) noX) ?_
    refine d_take 4 rfl (by kernel_rfl) (by kernel_rfl) (by kernel_rfl) rfl (p_move rfl) ?_
    refine d_take 5 rfl (by kernel_rfl) (by kernel_rfl) (by kernel_rfl) rfl (p_move rfl) ?_
    refine d_take 6 rfl (by kernel_rfl) (by kernel_rfl) (by kernel_rfl) rfl (p_index_sl _ rfl rfl rfl (rowD _ _ zTimer (by omega)) es_24) ?_
    refine d_load 7 rfl (by kernel_rfl) (by kernel_rfl) (by kernel_rfl) rfl (p_load_v_all ag_47 rfl (by rfl) noX) ?_
    refine d_take 8 rfl (by kernel_rfl) (by kernel_rfl) (by kernel_rfl) rfl (p_neqS eqs_47 rfl rfl (eqC_timer rfl)) ?_
    refine draw_done (by kernel_rfl) ?_
    refine a_cond_f rfl ?_
    refine a_skip ?_
    refine a_region ?_
    refine aops_cons rfl (w_pure rfl (p_move rfl) ?_)
    refine aops_cons rfl (w_pure rfl (p_add' rfl rfl ⟨by omega, by omega⟩) ?_)
    refine aops_cons rfl (w_pure rfl (p_assign rfl) ?_)
    refine aops_nil ?_
    refine ⟨(i + 1), _, ?_, ?_, (by repeat (first | exact Knows.nil | refine Knows.cons (by rfl) ?_)), (by repeat (first | exact Back.refl _ _ | refine Back.cons (by rfl) ?_)), (by repeat (first | exact Picks.nil _ | exact Pick.here _ _ _ | apply Pick.next | apply Picks.cons))⟩
    · omega
    · (try dsimp only); omega
  · (try simp only [Bool.not_eq_true', Bool.not_eq_false', Bool.not_eq_true, Bool.not_eq_false, decide_eq_true_eq, decide_eq_false_iff_not, List.length_map, List.length_range] at h2)
    refine a_exit ?_
    refine a_seq ?_
    refine a_region ?_
    refine aops_cons rfl (w_pure rfl (p_assign rfl) ?_)
    refine aops_nil ?_
    refine a_ret ?_
    refine ret_ok (hands1 rfl (.tmp rfl)) (.nil _) ?_
    first | exact ⟨rfl, rfl⟩ | (exfalso; omega)

theorem ce_laws_rTimers (xs ys : List Tmr) (hn : ys.length ≤ 1048576) (h : xs = ys) : ACalls Try.prog 20 [.sl (xs.map eTimer), .sl (ys.map eTimer)] [] (Ret (.bool true)) := by
  subst h
  exact c_laws_rTimers xs hn

theorem c_laws_rBig (bs : List Int) (hn : bs.length ≤ 9223372036854775807) : ACalls Try.prog 16 [.sl (bs.map eByte)] [] (Ret (.bool (decide (65536 < bs.length)))) := by
  refine a_enter Try.func16 rfl rfl (fun w0 M0 => ?_)
  refine a_seq ?_
  refine a_region ?_
  refine aops_cons rfl (w_pure rfl (p_assign rfl) ?_)
  refine aops_nil ?_
  refine a_seq ?_
  refine a_region ?_
  refine aops_cons rfl (w_pure rfl (p_move rfl) ?_)
  refine aops_cons rfl (w_pure rfl (p_len sl_34 rfl rfl) ?_)
  refine aops_cons rfl (w_pure rfl (p_gtr rfl rfl) ?_)
  refine aops_cons rfl (w_pure rfl (p_assign rfl) ?_)
  refine aops_nil ?_
  refine a_ret ?_
  refine ret_ok (hands1 rfl (.tmp rfl)) (.nil _) ?_
  refine ret_dec ?_; simp only [List.length_map]; omega

theorem c_laws_rSum (xs : List Int) (hn : xs.length ≤ 8) (hr : ∀ i, i ≤ xs.length → 0 ≤ sumTo xs i ∧ sumTo xs i ≤ 800008 * i) : ACalls Try.prog 36 [.sl (xs.map eInt)] [] (Ret (.int .i64 (sumTo xs xs.length))) := by
  refine a_enter Try.func36 rfl rfl (fun w0 M0 => ?_)
  refine a_seq ?_
  refine a_region ?_
  refine aops_cons rfl (w_pure rfl (p_assign rfl) ?_)
  refine aops_nil ?_
  refine a_seq ?_
  refine a_region ?_
  refine aops_cons rfl (w_pure rfl (p_assign rfl) ?_)
  refine aops_nil ?_
  refine a_seq ?_
  refine a_seq ?_
  refine a_region ?_
  refine aops_cons rfl (w_pure rfl (p_assign rfl) ?_)
  refine aops_nil ?_
  refine a_block ?_
  refine a_loop (ι := Nat) (fun i => i ≤ xs.length) (fun i => [(4, .int .i64 (i : Int)), (3, .int .i64 (sumTo xs i))]) (fun i => []) (fun i => xs.length - i) 0 (Nat.zero_le _) (by repeat (first | exact Knows.nil | refine Knows.cons (by rfl) ?_)) (by repeat (first | exact Picks.nil _ | exact Pick.here _ _ _ | apply Pick.next | apply Picks.cons)) ?_
  rintro i hi
  skip
  refine a_seq ?_
  refine a_seq ?_
  refine a_region ?_
  refine aops_cons rfl (w_pure rfl (p_move rfl) ?_)
  refine aops_cons rfl (w_pure rfl (p_move rfl) ?_)
  refine aops_cons rfl (w_pure rfl (p_len sl_25 rfl rfl) ?_)
  refine aops_cons rfl (w_pure rfl (p_lss rfl rfl) ?_)
  refine aops_nil ?_
  first | refine a_cond_d rfl (fun h1 => ?_) (fun h2 => ?_) | refine a_cond_n rfl (fun h1 => ?_) (fun h2 => ?_) | refine a_cond_nb rfl (fun h1 => ?_) (fun h2 => ?_) | refine a_cond rfl (fun h1 => ?_) (fun h2 => ?_)
  · (try simp only [Bool.not_eq_true', Bool.not_eq_false', Bool.not_eq_true, Bool.not_eq_false, decide_eq_true_eq, decide_eq_false_iff_not, List.length_map, List.length_range] at h1)
    refine a_skip ?_
    refine a_seq ?_
    refine a_block ?_
    refine a_region ?_
    refine aops_cons rfl (w_pure rfl (p_move rfl) ?_)
    refine aops_cons rfl (w_pure rfl (p_move rfl) ?_)
    refine aops_cons rfl (w_pure rfl (p_move rfl) ?_)
    refine aops_cons rfl (w_pure rfl (p_index_sl _ rfl rfl rfl (rowD _ _ (0 : Int) (by omega)) es_25) ?_)
    refine aops_cons rfl (w_pure rfl (p_load_v ag_3 rfl (by rfl) noX) ?_)
    refine aops_cons rfl (w_pure rfl (p_add' rfl rfl ⟨by first | omega | (have := hr (i + 1) (by omega); rw [sumTo] at this; omega), by first | omega | (have := hr (i + 1) (by omega); rw [sumTo] at this; omega)⟩) ?_)
    refine aops_cons rfl (w_pure rfl (p_assign rfl) ?_)
    refine aops_nil ?_
    refine a_region ?_
    refine aops_cons rfl (w_pure rfl (p_move rfl) ?_)
    refine aops_cons rfl (w_pure rfl (p_add' rfl rfl ⟨by first | omega | (have := hr (i + 1) (by omega); rw [sumTo] at this; omega), by first | omega | (have := hr (i + 1) (by omega); rw [sumTo] at this; omega)⟩) ?_)
    refine aops_cons rfl (w_pure rfl (p_assign rfl) ?_)
    refine aops_nil ?_
    refine ⟨(i + 1), _, ?_, ?_, (by repeat (first | exact Knows.nil | refine Knows.cons (by rfl) ?_)), (by repeat (first | exact Back.refl _ _ | refine Back.cons (by rfl) ?_)), (by repeat (first | exact Picks.nil _ | exact Pick.here _ _ _ | apply Pick.next | apply Picks.cons))⟩
    · omega
    · (try dsimp only); omega
  · (try simp only [Bool.not_eq_true', Bool.not_eq_false', Bool.not_eq_true, Bool.not_eq_false, decide_eq_true_eq, decide_eq_false_iff_not, List.length_map, List.length_range] at h2)
    refine a_exit ?_
    refine a_seq ?_
    refine a_region ?_
    refine aops_cons rfl (w_pure rfl (p_move rfl) ?_)
    refine aops_cons rfl (w_pure rfl (p_assign rfl) ?_)
    refine aops_nil ?_
    refine a_ret ?_
    refine ret_ok (hands1 rfl (.tmp rfl)) (.nil _) ?_
    have hx : i = xs.length := (by omega); subst hx; exact ⟨rfl, rfl⟩

set_option maxHeartbeats 4000000 in
theorem c_laws_FnTimers (bs : List Int) (_hc : (∀ x ∈ bs, 0 ≤ x ∧ x ≤ 255) ∧ bs.length ≤ maxLen) : ACalls Try.prog 4 [.sl (bs.map eByte)] [] (Ret (.bool true)) := by
  have hm : bs.length ≤ 9223372036854775807 := _hc.2
  refine a_enter Try.func4 rfl rfl (fun w0 M0 => ?_)
  refine a_seq ?_
  refine a_region ?_
  refine aops_cons rfl (w_pure rfl (p_assign rfl) ?_)
  refine aops_nil ?_
  refine a_seq ?_
  refine a_seq ?_
  refine a_region ?_
  refine aops_cons rfl (w_pure rfl (p_move rfl) ?_)
  refine aops_cons rfl (w_callR rfl rfl rfl cl_16 (c_laws_rBig _ (by omega)) ?_)
  refine aops_nil ?_
  first | refine a_cond_d rfl (fun h1 => ?_) (fun h2 => ?_) | refine a_cond_n rfl (fun h1 => ?_) (fun h2 => ?_) | refine a_cond_nb rfl (fun h1 => ?_) (fun h2 => ?_) | refine a_cond rfl (fun h1 => ?_) (fun h2 => ?_)
  · (try simp only [Bool.not_eq_true', Bool.not_eq_false', Bool.not_eq_true, Bool.not_eq_false, decide_eq_true_eq, decide_eq_false_iff_not, List.length_map, List.length_range] at h1)
    refine a_seq ?_
    refine a_region ?_
    refine aops_cons rfl (w_pure rfl (p_assign rfl) ?_)
    refine aops_nil ?_
    refine a_ret ?_
    refine ret_ok (hands1 rfl (.tmp rfl)) (.nil _) ?_
    first | exact ⟨rfl, rfl⟩ | (exfalso; omega)
  · (try simp only [Bool.not_eq_true', Bool.not_eq_false', Bool.not_eq_true, Bool.not_eq_false, decide_eq_true_eq, decide_eq_false_iff_not, List.length_map, List.length_range] at h2)
    refine a_skip ?_
    refine a_seq ?_
    have hb : Bytes bs := ⟨by omega, _hc.1⟩
    refine a_region ?_
    refine aops_cons rfl (w_pure rfl (p_move rfl) ?_)
    refine aops_cons rfl (w_call rfl rfl rfl cl_17 (c_spec_DrawArmTimer bs hb) ?_)
    rintro _ _ ⟨⟨xs1, m1, n1, e1, rfl, hx1⟩, rfl⟩
    skip
    refine aops_cons rfl (w_pure rfl (p_move rfl) ?_)
    refine aops_cons rfl (w_pure rfl (p_extract rfl rfl) ?_)
    refine aops_cons rfl (w_pure rfl (p_extract rfl rfl) ?_)
    refine aops_cons rfl (w_pure rfl (p_extract rfl rfl) ?_)
    refine aops_cons rfl (w_pure rfl (p_extract rfl rfl) ?_)
    refine aops_cons rfl (w_pure rfl (p_assign rfl) ?_)
    refine aops_cons rfl (w_pure rfl (p_assign rfl) ?_)
    refine aops_cons rfl (w_pure rfl (p_assign rfl) ?_)
    refine aops_cons rfl (w_pure rfl (p_assign rfl) ?_)
    refine aops_nil ?_
    refine a_seq ?_
    refine a_region ?_
    refine aops_cons rfl (w_pure rfl (p_move rfl) ?_)
    refine aops_cons rfl (w_pure rfl (p_move rfl) ?_)
    refine aops_cons rfl (w_pure rfl (p_move rfl) ?_)
    refine aops_cons rfl (w_pure rfl (p_move rfl) ?_)
    refine aops_cons rfl (w_callR rfl rfl rfl cl_18 (cv_impl_ArmTimer xs1 (by omega) m1 n1 e1) ?_)
    refine aops_cons rfl (w_pure rfl (p_move rfl) ?_)
    refine aops_cons rfl (w_pure rfl (p_extract rfl rfl) ?_)
    refine aops_cons rfl (w_pure rfl (p_extract rfl rfl) ?_)
    refine aops_cons rfl (w_pure rfl (p_assign rfl) ?_)
    refine aops_cons rfl (w_pure rfl (p_assign rfl) ?_)
    refine aops_nil ?_
    refine a_seq ?_
    refine a_seq ?_
    refine a_region ?_
    refine aops_cons rfl (w_pure rfl (p_move rfl) ?_)
    refine aops_cons rfl (w_pure rfl (p_move rfl) ?_)
    refine aops_cons rfl (w_pure rfl (p_move rfl) ?_)
    refine aops_cons rfl (w_pure rfl (p_move rfl) ?_)
    refine aops_cons rfl (w_callR rfl rfl rfl cl_19 (cv_spec_ArmTimer xs1 (by omega) m1 n1 e1) ?_)
    refine aops_cons rfl (w_pure rfl (p_move rfl) ?_)
    refine aops_cons rfl (w_pure rfl (p_extract rfl rfl) ?_)
    refine aops_cons rfl (w_pure rfl (p_extract rfl rfl) ?_)
    refine aops_cons rfl (w_pure rfl (p_assign rfl) ?_)
    refine aops_cons rfl (w_pure rfl (p_assign rfl) ?_)
    refine aops_nil ?_
    refine a_seq ?_
    refine a_region ?_
    refine aops_cons rfl (w_pure rfl (p_move rfl) ?_)
    refine aops_cons rfl (w_pure rfl (p_move rfl) ?_)
    refine aops_cons rfl (w_pure rfl (p_neq_bsame um_4 rfl rfl) ?_)
    refine aops_cons rfl (w_pure rfl (p_move rfl) ?_)
    refine aops_guard_t rfl rfl rfl (w_pure rfl (p_move rfl) ?_)
    refine aops_guard_t rfl rfl rfl (w_pure rfl (p_move rfl) ?_)
    refine aops_guard_t rfl rfl rfl (w_callR rfl rfl rfl cl_20 (c_laws_rTimers (pickT (GoodArm xs1 m1 n1 e1) (armL xs1 m1 n1 e1)) (pickT_small (fun h => by rw [armL_len]; omega))) ?_)
    refine aops_guard_t rfl rfl rfl (w_pure rfl (p_not rfl) ?_)
    refine aops_cons rfl (w_pure rfl (p_pick_f rfl rfl) ?_)
    refine aops_nil ?_
    refine a_cond_f rfl ?_
    refine a_skip ?_
    refine a_seq_join (ι := Unit) (fun _ => True) (fun _ => []) (fun _ => []) (old := []) (by repeat (first | exact Picks.nil _ | exact Pick.here _ _ _ | apply Pick.next | apply Picks.cons)) ?_ ?_
    · skip
      refine a_seq ?_
      refine a_region ?_
      refine aops_cons rfl (w_pure rfl (p_move rfl) ?_)
      refine aops_nil ?_
      first | refine a_cond_d rfl (fun h3 => ?_) (fun h4 => ?_) | refine a_cond_n rfl (fun h3 => ?_) (fun h4 => ?_) | refine a_cond_nb rfl (fun h3 => ?_) (fun h4 => ?_) | refine a_cond rfl (fun h3 => ?_) (fun h4 => ?_)
      · (try simp only [Bool.not_eq_true', Bool.not_eq_false', Bool.not_eq_true, Bool.not_eq_false, decide_eq_true_eq, decide_eq_false_iff_not, List.length_map, List.length_range] at h3)
        refine a_seq ?_
        have hk : GoodArm xs1 m1 n1 e1 := (by assumption)
        rw [pickT_y hk]
        refine a_region ?_
        refine aops_cons rfl (w_pure rfl (p_move rfl) ?_)
        refine aops_cons rfl (w_callR rfl rfl rfl cl_21 (ct_impl_NextToFire (armL xs1 m1 n1 e1) (by simp only [armL_len, disL_len, shiftL_len]; omega) (arm_next hk).1) ?_)
        refine aops_cons rfl (w_pure rfl (p_move rfl) ?_)
        refine aops_cons rfl (w_pure rfl (p_extract rfl rfl) ?_)
        refine aops_cons rfl (w_pure rfl (p_extract rfl rfl) ?_)
        refine aops_cons rfl (w_pure rfl (p_extract rfl rfl) ?_)
        refine aops_cons rfl (w_pure rfl (p_assign rfl) ?_)
        refine aops_cons rfl (w_pure rfl (p_assign rfl) ?_)
        refine aops_cons rfl (w_pure rfl (p_assign rfl) ?_)
        refine aops_nil ?_
        refine a_seq ?_
        refine a_seq ?_
        refine a_region ?_
        refine aops_cons rfl (w_pure rfl (p_move rfl) ?_)
        refine aops_cons rfl (w_pure rfl (p_not rfl) ?_)
        refine aops_cons rfl (w_pure rfl (p_move rfl) ?_)
        refine aops_guard_t rfl rfl rfl (w_pure rfl (p_move rfl) ?_)
        refine aops_guard_t rfl rfl rfl (w_pure rfl (p_move rfl) ?_)
        refine aops_guard_t rfl rfl rfl (w_pure rfl (p_gtrF rfl rfl (arm_next hk).2.1) ?_)
        refine aops_cons rfl (w_pure rfl (p_pick_f rfl rfl) ?_)
        refine aops_cons rfl (w_pure rfl (p_move rfl) ?_)
        refine aops_guard_t rfl rfl rfl (w_pure rfl (p_move rfl) ?_)
        refine aops_guard_t rfl rfl rfl (w_pure rfl (p_move rfl) ?_)
        refine aops_guard_t rfl rfl rfl (w_pure rfl (p_eql rfl rfl) ?_)
        refine aops_guard_t rfl rfl rfl (w_pure rfl (p_move rfl) ?_)
        first | refine aops_split_d 91 rfl (fun h5 => ?_) (fun h6 => ?_) | refine aops_split 91 rfl (fun h5 => ?_) (fun h6 => ?_)
        · (try simp only [Bool.not_eq_true', Bool.not_eq_false', Bool.not_eq_true, Bool.not_eq_false, decide_eq_true_eq, decide_eq_false_iff_not, List.length_map, List.length_range] at h5)
          refine aops_guard_t rfl rfl rfl (w_pure rfl (p_move rfl) ?_)
          refine aops_guard_t rfl rfl rfl (w_pure rfl (p_move rfl) ?_)
          refine aops_guard_t rfl rfl rfl (w_pure rfl (p_neqF rfl rfl ((arm_next hk).2.2 (by assumption))) ?_)
          refine aops_guard_t rfl rfl rfl (w_pure rfl (p_pick_t rfl rfl) ?_)
          refine aops_cons rfl (w_pure rfl (p_pick_f rfl rfl) ?_)
          refine aops_cons rfl (w_pure rfl (p_move rfl) ?_)
          refine aops_guard_t rfl rfl rfl (w_pure rfl (p_move rfl) ?_)
          refine aops_guard_t rfl rfl rfl (w_callR rfl rfl rfl cl_22 (ct_impl_AreTimers (armL xs1 m1 n1 e1) (by simp only [armL_len, disL_len, shiftL_len]; omega) (arm_has hk).1) ?_)
          refine aops_guard_t rfl rfl rfl (w_pure rfl (p_not rfl) ?_)
          refine aops_cons rfl (w_pure rfl (p_pick_f rfl rfl) ?_)
          refine aops_nil ?_
          refine a_cond_f rfl ?_
          refine a_skip ?_
          refine a_seq ?_
          refine a_region ?_
          refine aops_cons rfl (w_pure rfl (p_move rfl) ?_)
          refine aops_cons rfl (w_pure rfl (p_move rfl) ?_)
          refine aops_cons rfl (w_callR rfl rfl rfl cl_23 (cf_impl_DisarmTimer (armL xs1 m1 n1 e1) (by simp only [armL_len, disL_len, shiftL_len]; omega) m1 (arm_has hk)) ?_)
          refine aops_cons rfl (w_pure rfl (p_move rfl) ?_)
          refine aops_cons rfl (w_pure rfl (p_extract rfl rfl) ?_)
          refine aops_cons rfl (w_pure rfl (p_extract rfl rfl) ?_)
          refine aops_cons rfl (w_pure rfl (p_assign rfl) ?_)
          refine aops_cons rfl (w_pure rfl (p_assign rfl) ?_)
          refine aops_nil ?_
          refine a_seq ?_
          refine a_seq ?_
          refine a_region ?_
          refine aops_cons rfl (w_pure rfl (p_move rfl) ?_)
          refine aops_cons rfl (w_pure rfl (p_not rfl) ?_)
          refine aops_cons rfl (w_pure rfl (p_move rfl) ?_)
          refine aops_guard_t rfl rfl rfl (w_pure rfl (p_move rfl) ?_)
          refine aops_guard_t rfl rfl rfl (w_pure rfl (p_len sl_24 rfl rfl) ?_)
          refine aops_guard_t rfl rfl rfl (w_pure rfl (p_move rfl) ?_)
          refine aops_guard_t rfl rfl rfl (w_pure rfl (p_len sl_24 rfl rfl) ?_)
          refine aops_guard_t rfl rfl rfl (w_pure rfl (p_neqF rfl rfl (by simp only [List.length_map, disL_len, armL_len])) ?_)
          refine aops_cons rfl (w_pure rfl (p_pick_f rfl rfl) ?_)
          refine aops_nil ?_
          refine a_cond_f rfl ?_
          refine a_skip ?_
          refine a_seq ?_
          refine a_region ?_
          refine aops_cons rfl (w_pure rfl (p_move rfl) ?_)
          refine aops_cons rfl (w_pure rfl (p_move rfl) ?_)
          refine aops_cons rfl (w_pure rfl (p_index_sl m1.toNat rfl rfl (by have := hk.1.2; omega) (rowD _ _ zTimer (by simp only [disL_len, armL_len]; have := hk.1.2; omega)) es_24) ?_)
          refine aops_cons rfl (w_pure rfl (p_load_v_all ag_47 rfl (by rfl) noX) ?_)
          refine aops_cons rfl (w_callR rfl rfl rfl cl_24 (ct_impl_FiresUpTo ((disL (armL xs1 m1 n1 e1) m1).getD m1.toNat zTimer) 100000 (dis_at (arm_has hk)).1) ?_)
          refine aops_cons rfl (w_pure rfl (p_move rfl) ?_)
          refine aops_cons rfl (w_pure rfl (p_extract rfl rfl) ?_)
          refine aops_cons rfl (w_pure rfl (p_extract rfl rfl) ?_)
          refine aops_cons rfl (w_pure rfl (p_assign rfl) ?_)
          refine aops_cons rfl (w_pure rfl (p_assign rfl) ?_)
          refine aops_nil ?_
          refine a_seq ?_
          refine a_region ?_
          refine aops_cons rfl (w_pure rfl (p_move rfl) ?_)
          refine aops_cons rfl (w_pure rfl (p_not rfl) ?_)
          refine aops_cons rfl (w_pure rfl (p_move rfl) ?_)
          refine aops_guard_t rfl rfl rfl (w_pure rfl (p_move rfl) ?_)
          refine aops_guard_t rfl rfl rfl (w_pure rfl (p_not rfl) ?_)
          refine aops_cons rfl (w_pure rfl (p_pick_f rfl rfl) ?_)
          refine aops_cons rfl (w_pure rfl (p_move rfl) ?_)
          refine aops_guard_t rfl rfl rfl (w_pure rfl (p_move rfl) ?_)
          refine aops_guard_t rfl rfl rfl (w_pure rfl (p_neqF rfl rfl (dis_at (arm_has hk)).2) ?_)
          refine aops_cons rfl (w_pure rfl (p_pick_f rfl rfl) ?_)
          refine aops_nil ?_
          refine a_cond_f rfl ?_
          refine a_skip ?_
          exact ⟨(), _, trivial, (by repeat (first | exact Knows.nil | refine Knows.cons (by rfl) ?_)), (by repeat (first | exact Back.refl _ _ | refine Back.cons (by rfl) ?_)), (by repeat (first | exact Picks.nil _ | exact Pick.here _ _ _ | apply Pick.next | apply Picks.cons))⟩
        · (try simp only [Bool.not_eq_true', Bool.not_eq_false', Bool.not_eq_true, Bool.not_eq_false, decide_eq_true_eq, decide_eq_false_iff_not, List.length_map, List.length_range] at h6)
          refine g_pass' rfl rfl rfl rfl rfl ?_
          refine g_pass' rfl rfl rfl rfl rfl ?_
          refine g_pass' rfl rfl rfl rfl rfl ?_
          refine aops_guard_t rfl rfl rfl (w_pure rfl (p_pick_f rfl rfl) ?_)
          refine aops_cons rfl (w_pure rfl (p_pick_f rfl rfl) ?_)
          refine aops_cons rfl (w_pure rfl (p_move rfl) ?_)
          refine aops_guard_t rfl rfl rfl (w_pure rfl (p_move rfl) ?_)
          refine aops_guard_t rfl rfl rfl (w_callR rfl rfl rfl cl_22 (ct_impl_AreTimers (armL xs1 m1 n1 e1) (by simp only [armL_len, disL_len, shiftL_len]; omega) (arm_has hk).1) ?_)
          refine aops_guard_t rfl rfl rfl (w_pure rfl (p_not rfl) ?_)
          refine aops_cons rfl (w_pure rfl (p_pick_f rfl rfl) ?_)
          refine aops_nil ?_
          refine a_cond_f rfl ?_
          refine a_skip ?_
          refine a_seq ?_
          refine a_region ?_
          refine aops_cons rfl (w_pure rfl (p_move rfl) ?_)
          refine aops_cons rfl (w_pure rfl (p_move rfl) ?_)
          refine aops_cons rfl (w_callR rfl rfl rfl cl_23 (cf_impl_DisarmTimer (armL xs1 m1 n1 e1) (by simp only [armL_len, disL_len, shiftL_len]; omega) m1 (arm_has hk)) ?_)
          refine aops_cons rfl (w_pure rfl (p_move rfl) ?_)
          refine aops_cons rfl (w_pure rfl (p_extract rfl rfl) ?_)
          refine aops_cons rfl (w_pure rfl (p_extract rfl rfl) ?_)
          refine aops_cons rfl (w_pure rfl (p_assign rfl) ?_)
          refine aops_cons rfl (w_pure rfl (p_assign rfl) ?_)
          refine aops_nil ?_
          refine a_seq ?_
          refine a_seq ?_
          refine a_region ?_
          refine aops_cons rfl (w_pure rfl (p_move rfl) ?_)
          refine aops_cons rfl (w_pure rfl (p_not rfl) ?_)
          refine aops_cons rfl (w_pure rfl (p_move rfl) ?_)
          refine aops_guard_t rfl rfl rfl (w_pure rfl (p_move rfl) ?_)
          refine aops_guard_t rfl rfl rfl (w_pure rfl (p_len sl_24 rfl rfl) ?_)
          refine aops_guard_t rfl rfl rfl (w_pure rfl (p_move rfl) ?_)
          refine aops_guard_t rfl rfl rfl (w_pure rfl (p_len sl_24 rfl rfl) ?_)
          refine aops_guard_t rfl rfl rfl (w_pure rfl (p_neqF rfl rfl (by simp only [List.length_map, disL_len, armL_len])) ?_)
          refine aops_cons rfl (w_pure rfl (p_pick_f rfl rfl) ?_)
          refine aops_nil ?_
          refine a_cond_f rfl ?_
          refine a_skip ?_
          refine a_seq ?_
          refine a_region ?_
          refine aops_cons rfl (w_pure rfl (p_move rfl) ?_)
          refine aops_cons rfl (w_pure rfl (p_move rfl) ?_)
          refine aops_cons rfl (w_pure rfl (p_index_sl m1.toNat rfl rfl (by have := hk.1.2; omega) (rowD _ _ zTimer (by simp only [disL_len, armL_len]; have := hk.1.2; omega)) es_24) ?_)
          refine aops_cons rfl (w_pure rfl (p_load_v_all ag_47 rfl (by rfl) noX) ?_)
          refine aops_cons rfl (w_callR rfl rfl rfl cl_24 (ct_impl_FiresUpTo ((disL (armL xs1 m1 n1 e1) m1).getD m1.toNat zTimer) 100000 (dis_at (arm_has hk)).1) ?_)
          refine aops_cons rfl (w_pure rfl (p_move rfl) ?_)
          refine aops_cons rfl (w_pure rfl (p_extract rfl rfl) ?_)
          refine aops_cons rfl (w_pure rfl (p_extract rfl rfl) ?_)
          refine aops_cons rfl (w_pure rfl (p_assign rfl) ?_)
          refine aops_cons rfl (w_pure rfl (p_assign rfl) ?_)
          refine aops_nil ?_
          refine a_seq ?_
          refine a_region ?_
          refine aops_cons rfl (w_pure rfl (p_move rfl) ?_)
          refine aops_cons rfl (w_pure rfl (p_not rfl) ?_)
          refine aops_cons rfl (w_pure rfl (p_move rfl) ?_)
          refine aops_guard_t rfl rfl rfl (w_pure rfl (p_move rfl) ?_)
          refine aops_guard_t rfl rfl rfl (w_pure rfl (p_not rfl) ?_)
          refine aops_cons rfl (w_pure rfl (p_pick_f rfl rfl) ?_)
          refine aops_cons rfl (w_pure rfl (p_move rfl) ?_)
          refine aops_guard_t rfl rfl rfl (w_pure rfl (p_move rfl) ?_)
          refine aops_guard_t rfl rfl rfl (w_pure rfl (p_neqF rfl rfl (dis_at (arm_has hk)).2) ?_)
          refine aops_cons rfl (w_pure rfl (p_pick_f rfl rfl) ?_)
          refine aops_nil ?_
          refine a_cond_f rfl ?_
          refine a_skip ?_
          exact ⟨(), _, trivial, (by repeat (first | exact Knows.nil | refine Knows.cons (by rfl) ?_)), (by repeat (first | exact Back.refl _ _ | refine Back.cons (by rfl) ?_)), (by repeat (first | exact Picks.nil _ | exact Pick.here _ _ _ | apply Pick.next | apply Picks.cons))⟩
      · (try simp only [Bool.not_eq_true', Bool.not_eq_false', Bool.not_eq_true, Bool.not_eq_false, decide_eq_true_eq, decide_eq_false_iff_not, List.length_map, List.length_range] at h4)
        refine a_skip ?_
        exact ⟨(), _, trivial, (by repeat (first | exact Knows.nil | refine Knows.cons (by rfl) ?_)), (by repeat (first | exact Back.refl _ _ | refine Back.cons (by rfl) ?_)), (by repeat (first | exact Picks.nil _ | exact Pick.here _ _ _ | apply Pick.next | apply Picks.cons))⟩
    · rintro _ -
      refine a_seq ?_
      refine a_region ?_
      refine aops_cons rfl (w_pure rfl (p_move rfl) ?_)
      refine aops_cons rfl (w_call rfl rfl rfl cl_25 (c_spec_DrawDisarmTimer bs hb) ?_)
      rintro _ _ ⟨⟨xs2, m2, rfl, hx2⟩, rfl⟩
      skip
      refine aops_cons rfl (w_pure rfl (p_move rfl) ?_)
      refine aops_cons rfl (w_pure rfl (p_extract rfl rfl) ?_)
      refine aops_cons rfl (w_pure rfl (p_extract rfl rfl) ?_)
      refine aops_cons rfl (w_pure rfl (p_assign rfl) ?_)
      refine aops_cons rfl (w_pure rfl (p_assign rfl) ?_)
      refine aops_nil ?_
      refine a_seq ?_
      refine a_region ?_
      refine aops_cons rfl (w_pure rfl (p_move rfl) ?_)
      refine aops_cons rfl (w_pure rfl (p_move rfl) ?_)
      refine aops_cons rfl (w_callR rfl rfl rfl cl_23 (cv_impl_DisarmTimer xs2 (by omega) m2) ?_)
      refine aops_cons rfl (w_pure rfl (p_move rfl) ?_)
      refine aops_cons rfl (w_pure rfl (p_extract rfl rfl) ?_)
      refine aops_cons rfl (w_pure rfl (p_extract rfl rfl) ?_)
      refine aops_cons rfl (w_pure rfl (p_assign rfl) ?_)
      refine aops_cons rfl (w_pure rfl (p_assign rfl) ?_)
      refine aops_nil ?_
      refine a_seq ?_
      refine a_seq ?_
      refine a_region ?_
      refine aops_cons rfl (w_pure rfl (p_move rfl) ?_)
      refine aops_cons rfl (w_pure rfl (p_move rfl) ?_)
      refine aops_cons rfl (w_callR rfl rfl rfl cl_26 (cv_spec_DisarmTimer xs2 (by omega) m2) ?_)
      refine aops_cons rfl (w_pure rfl (p_move rfl) ?_)
      refine aops_cons rfl (w_pure rfl (p_extract rfl rfl) ?_)
      refine aops_cons rfl (w_pure rfl (p_extract rfl rfl) ?_)
      refine aops_cons rfl (w_pure rfl (p_assign rfl) ?_)
      refine aops_cons rfl (w_pure rfl (p_assign rfl) ?_)
      refine aops_nil ?_
      refine a_seq ?_
      refine a_region ?_
      refine aops_cons rfl (w_pure rfl (p_move rfl) ?_)
      refine aops_cons rfl (w_pure rfl (p_move rfl) ?_)
      refine aops_cons rfl (w_pure rfl (p_neq_bsame um_4 rfl rfl) ?_)
      refine aops_cons rfl (w_pure rfl (p_move rfl) ?_)
      refine aops_guard_t rfl rfl rfl (w_pure rfl (p_move rfl) ?_)
      refine aops_guard_t rfl rfl rfl (w_pure rfl (p_move rfl) ?_)
      refine aops_guard_t rfl rfl rfl (w_callR rfl rfl rfl cl_20 (c_laws_rTimers (pickT (HasT xs2 m2) (disL xs2 m2)) (pickT_small (fun h => by rw [disL_len]; omega))) ?_)
      refine aops_guard_t rfl rfl rfl (w_pure rfl (p_not rfl) ?_)
      refine aops_cons rfl (w_pure rfl (p_pick_f rfl rfl) ?_)
      refine aops_nil ?_
      refine a_cond_f rfl ?_
      refine a_skip ?_
      refine a_seq ?_
      refine a_region ?_
      refine aops_cons rfl (w_pure rfl (p_move rfl) ?_)
      refine aops_cons rfl (w_call rfl rfl rfl cl_27 (c_spec_DrawNextToFire bs hb) ?_)
      rintro _ _ ⟨⟨xs3, rfl, hx3⟩, rfl⟩
      skip
      refine aops_cons rfl (w_pure rfl (p_assign rfl) ?_)
      refine aops_nil ?_
      refine a_seq ?_
      refine a_region ?_
      refine aops_cons rfl (w_pure rfl (p_move rfl) ?_)
      refine aops_cons rfl (w_callR rfl rfl rfl cl_21 (c_impl_NextToFire xs3 (by omega)) ?_)
      refine aops_cons rfl (w_pure rfl (p_move rfl) ?_)
      refine aops_cons rfl (w_pure rfl (p_extract rfl rfl) ?_)
      refine aops_cons rfl (w_pure rfl (p_extract rfl rfl) ?_)
      refine aops_cons rfl (w_pure rfl (p_extract rfl rfl) ?_)
      refine aops_cons rfl (w_pure rfl (p_assign rfl) ?_)
      refine aops_cons rfl (w_pure rfl (p_assign rfl) ?_)
      refine aops_cons rfl (w_pure rfl (p_assign rfl) ?_)
      refine aops_nil ?_
      refine a_seq ?_
      refine a_seq ?_
      refine a_region ?_
      refine aops_cons rfl (w_pure rfl (p_move rfl) ?_)
      refine aops_cons rfl (w_callR rfl rfl rfl cl_28 (c_spec_NextToFire xs3 (by omega)) ?_)
      refine aops_cons rfl (w_pure rfl (p_move rfl) ?_)
      refine aops_cons rfl (w_pure rfl (p_extract rfl rfl) ?_)
      refine aops_cons rfl (w_pure rfl (p_extract rfl rfl) ?_)
      refine aops_cons rfl (w_pure rfl (p_extract rfl rfl) ?_)
      refine aops_cons rfl (w_pure rfl (p_assign rfl) ?_)
      refine aops_cons rfl (w_pure rfl (p_assign rfl) ?_)
      refine aops_cons rfl (w_pure rfl (p_assign rfl) ?_)
      refine aops_nil ?_
      refine a_seq ?_
      refine a_region ?_
      refine aops_cons rfl (w_pure rfl (p_move rfl) ?_)
      refine aops_cons rfl (w_pure rfl (p_move rfl) ?_)
      refine aops_cons rfl (w_pure rfl (p_neq_same rfl rfl) ?_)
      refine aops_cons rfl (w_pure rfl (p_move rfl) ?_)
      refine aops_guard_t rfl rfl rfl (w_pure rfl (p_move rfl) ?_)
      refine aops_guard_t rfl rfl rfl (w_pure rfl (p_move rfl) ?_)
      refine aops_guard_t rfl rfl rfl (w_pure rfl (p_neq_same rfl rfl) ?_)
      refine aops_cons rfl (w_pure rfl (p_pick_f rfl rfl) ?_)
      refine aops_cons rfl (w_pure rfl (p_move rfl) ?_)
      refine aops_guard_t rfl rfl rfl (w_pure rfl (p_move rfl) ?_)
      refine aops_guard_t rfl rfl rfl (w_pure rfl (p_move rfl) ?_)
      refine aops_guard_t rfl rfl rfl (w_pure rfl (p_neq_bsame um_4 rfl rfl) ?_)
      refine aops_cons rfl (w_pure rfl (p_pick_f rfl rfl) ?_)
      refine aops_nil ?_
      refine a_cond_f rfl ?_
      refine a_skip ?_
      refine a_seq ?_
      refine a_region ?_
      refine aops_cons rfl (w_pure rfl (p_move rfl) ?_)
      refine aops_cons rfl (w_call rfl rfl rfl cl_29 (c_spec_DrawShiftTimers bs hb) ?_)
      rintro _ _ ⟨⟨xs4, m4, rfl, hx4⟩, rfl⟩
      skip
      refine aops_cons rfl (w_pure rfl (p_move rfl) ?_)
      refine aops_cons rfl (w_pure rfl (p_extract rfl rfl) ?_)
      refine aops_cons rfl (w_pure rfl (p_extract rfl rfl) ?_)
      refine aops_cons rfl (w_pure rfl (p_assign rfl) ?_)
      refine aops_cons rfl (w_pure rfl (p_assign rfl) ?_)
      refine aops_nil ?_
      refine a_seq ?_
      refine a_region ?_
      refine aops_cons rfl (w_pure rfl (p_move rfl) ?_)
      refine aops_cons rfl (w_pure rfl (p_move rfl) ?_)
      refine aops_cons rfl (w_callR rfl rfl rfl cl_30 (cv_impl_ShiftTimers xs4 (by omega) m4) ?_)
      refine aops_cons rfl (w_pure rfl (p_move rfl) ?_)
      refine aops_cons rfl (w_pure rfl (p_extract rfl rfl) ?_)
      refine aops_cons rfl (w_pure rfl (p_extract rfl rfl) ?_)
      refine aops_cons rfl (w_pure rfl (p_assign rfl) ?_)
      refine aops_cons rfl (w_pure rfl (p_assign rfl) ?_)
      refine aops_nil ?_
      refine a_seq ?_
      refine a_seq ?_
      refine a_region ?_
      refine aops_cons rfl (w_pure rfl (p_move rfl) ?_)
      refine aops_cons rfl (w_pure rfl (p_move rfl) ?_)
      refine aops_cons rfl (w_callR rfl rfl rfl cl_31 (cv_spec_ShiftTimers xs4 (by omega) m4) ?_)
      refine aops_cons rfl (w_pure rfl (p_move rfl) ?_)
      refine aops_cons rfl (w_pure rfl (p_extract rfl rfl) ?_)
      refine aops_cons rfl (w_pure rfl (p_extract rfl rfl) ?_)
      refine aops_cons rfl (w_pure rfl (p_assign rfl) ?_)
      refine aops_cons rfl (w_pure rfl (p_assign rfl) ?_)
      refine aops_nil ?_
      refine a_seq ?_
      refine a_region ?_
      refine aops_cons rfl (w_pure rfl (p_move rfl) ?_)
      refine aops_cons rfl (w_pure rfl (p_move rfl) ?_)
      refine aops_cons rfl (w_pure rfl (p_neq_bsame um_4 rfl rfl) ?_)
      refine aops_cons rfl (w_pure rfl (p_move rfl) ?_)
      refine aops_guard_t rfl rfl rfl (w_pure rfl (p_move rfl) ?_)
      refine aops_guard_t rfl rfl rfl (w_pure rfl (p_move rfl) ?_)
      refine aops_guard_t rfl rfl rfl (w_callR rfl rfl rfl cl_20 (c_laws_rTimers (pickT (GoodShift xs4 m4) (shiftL xs4 m4)) (pickT_small (fun h => by rw [shiftL_len]; omega))) ?_)
      refine aops_guard_t rfl rfl rfl (w_pure rfl (p_not rfl) ?_)
      refine aops_cons rfl (w_pure rfl (p_pick_f rfl rfl) ?_)
      refine aops_nil ?_
      refine a_cond_f rfl ?_
      refine a_skip ?_
      refine a_seq ?_
      refine a_seq ?_
      refine a_region ?_
      refine aops_cons rfl (w_pure rfl (p_move rfl) ?_)
      refine aops_nil ?_
      first | refine a_cond_d rfl (fun h7 => ?_) (fun h8 => ?_) | refine a_cond_n rfl (fun h7 => ?_) (fun h8 => ?_) | refine a_cond_nb rfl (fun h7 => ?_) (fun h8 => ?_) | refine a_cond rfl (fun h7 => ?_) (fun h8 => ?_)
      · (try simp only [Bool.not_eq_true', Bool.not_eq_false', Bool.not_eq_true, Bool.not_eq_false, decide_eq_true_eq, decide_eq_false_iff_not, List.length_map, List.length_range] at h7)
        refine a_seq ?_
        have hk : GoodShift xs4 m4 := (by assumption)
        rw [pickT_y hk]
        refine a_region ?_
        refine aops_cons rfl (w_pure rfl (p_move rfl) ?_)
        refine aops_cons rfl (w_pure rfl (p_move rfl) ?_)
        refine aops_cons rfl (w_pure rfl (p_negI rfl (by unfold InI; have := hk.2.1; omega)) ?_)
        refine aops_cons rfl (w_callR rfl rfl rfl cl_30 (cf_impl_ShiftTimers (shiftL xs4 m4) (by simp only [armL_len, disL_len, shiftL_len]; omega) (-m4) hk.back) ?_)
        refine aops_cons rfl (w_pure rfl (p_move rfl) ?_)
        refine aops_cons rfl (w_pure rfl (p_extract rfl rfl) ?_)
        refine aops_cons rfl (w_pure rfl (p_extract rfl rfl) ?_)
        refine aops_cons rfl (w_pure rfl (p_assign rfl) ?_)
        refine aops_cons rfl (w_pure rfl (p_assign rfl) ?_)
        refine aops_nil ?_
        refine a_seq ?_
        refine a_region ?_
        refine aops_cons rfl (w_pure rfl (p_move rfl) ?_)
        refine aops_cons rfl (w_pure rfl (p_move rfl) ?_)
        refine aops_guard_t rfl rfl rfl (w_pure rfl (p_move rfl) ?_)
        refine aops_guard_t rfl rfl rfl (w_pure rfl (p_move rfl) ?_)
        refine aops_guard_t rfl rfl rfl (w_callR rfl rfl rfl cl_20 (ce_laws_rTimers (shiftL (shiftL xs4 m4) (-m4)) xs4 (by omega) (shift_back _ _)) ?_)
        refine aops_cons rfl (w_pure rfl (p_pick_t rfl rfl) ?_)
        refine aops_cons rfl (w_pure rfl (p_assign rfl) ?_)
        refine aops_nil ?_
        refine a_ret ?_
        refine ret_ok (hands1 rfl (.tmp rfl)) (.nil _) ?_
        first | exact ⟨rfl, rfl⟩ | (exfalso; omega)
      · (try simp only [Bool.not_eq_true', Bool.not_eq_false', Bool.not_eq_true, Bool.not_eq_false, decide_eq_true_eq, decide_eq_false_iff_not, List.length_map, List.length_range] at h8)
        refine a_skip ?_
        refine a_seq ?_
        refine a_region ?_
        refine aops_cons rfl (w_pure rfl (p_assign rfl) ?_)
        refine aops_nil ?_
        refine a_ret ?_
        refine ret_ok (hands1 rfl (.tmp rfl)) (.nil _) ?_
        first | exact ⟨rfl, rfl⟩ | (exfalso; omega)

set_option maxHeartbeats 4000000 in
theorem c_laws_FnTimerFires (bs : List Int) (_hc : (∀ x ∈ bs, 0 ≤ x ∧ x ≤ 255) ∧ bs.length ≤ maxLen) : ACalls Try.prog 5 [.sl (bs.map eByte)] [] (Ret (.bool true)) := by
  have hm : bs.length ≤ 9223372036854775807 := _hc.2
  refine a_enter Try.func5 rfl rfl (fun w0 M0 => ?_)
  refine a_seq ?_
  refine a_region ?_
  refine aops_cons rfl (w_pure rfl (p_assign rfl) ?_)
  refine aops_nil ?_
  refine a_seq ?_
  refine a_seq ?_
  refine a_region ?_
  refine aops_cons rfl (w_pure rfl (p_move rfl) ?_)
  refine aops_cons rfl (w_callR rfl rfl rfl cl_16 (c_laws_rBig _ (by omega)) ?_)
  refine aops_nil ?_
  first | refine a_cond_d rfl (fun h1 => ?_) (fun h2 => ?_) | refine a_cond_n rfl (fun h1 => ?_) (fun h2 => ?_) | refine a_cond_nb rfl (fun h1 => ?_) (fun h2 => ?_) | refine a_cond rfl (fun h1 => ?_) (fun h2 => ?_)
  · (try simp only [Bool.not_eq_true', Bool.not_eq_false', Bool.not_eq_true, Bool.not_eq_false, decide_eq_true_eq, decide_eq_false_iff_not, List.length_map, List.length_range] at h1)
    refine a_seq ?_
    refine a_region ?_
    refine aops_cons rfl (w_pure rfl (p_assign rfl) ?_)
    refine aops_nil ?_
    refine a_ret ?_
    refine ret_ok (hands1 rfl (.tmp rfl)) (.nil _) ?_
    first | exact ⟨rfl, rfl⟩ | (exfalso; omega)
  · (try simp only [Bool.not_eq_true', Bool.not_eq_false', Bool.not_eq_true, Bool.not_eq_false, decide_eq_true_eq, decide_eq_false_iff_not, List.length_map, List.length_range] at h2)
    refine a_skip ?_
    refine a_seq ?_
    have hb : Bytes bs := ⟨by omega, _hc.1⟩
    refine a_region ?_
    refine aops_cons rfl (w_pure rfl (p_move rfl) ?_)
    refine aops_cons rfl (w_call rfl rfl rfl cl_32 (c_spec_DrawFireTimers bs hb) ?_)
    rintro _ _ ⟨⟨xs1, m1, rfl, hx1⟩, rfl⟩
    skip
    refine aops_cons rfl (w_pure rfl (p_move rfl) ?_)
    refine aops_cons rfl (w_pure rfl (p_extract rfl rfl) ?_)
    refine aops_cons rfl (w_pure rfl (p_extract rfl rfl) ?_)
    refine aops_cons rfl (w_pure rfl (p_assign rfl) ?_)
    refine aops_cons rfl (w_pure rfl (p_assign rfl) ?_)
    refine aops_nil ?_
    refine a_seq ?_
    refine a_region ?_
    refine aops_cons rfl (w_pure rfl (p_move rfl) ?_)
    refine aops_cons rfl (w_pure rfl (p_move rfl) ?_)
    refine aops_cons rfl (w_callR rfl rfl rfl cl_9 (cv_impl_FireTimers xs1 (by omega) m1) ?_)
    refine aops_cons rfl (w_pure rfl (p_move rfl) ?_)
    refine aops_cons rfl (w_pure rfl (p_extract rfl rfl) ?_)
    refine aops_cons rfl (w_pure rfl (p_extract rfl rfl) ?_)
    refine aops_cons rfl (w_pure rfl (p_extract rfl rfl) ?_)
    refine aops_cons rfl (w_pure rfl (p_assign rfl) ?_)
    refine aops_cons rfl (w_pure rfl (p_assign rfl) ?_)
    refine aops_cons rfl (w_pure rfl (p_assign rfl) ?_)
    refine aops_nil ?_
    refine a_seq ?_
    refine a_seq ?_
    refine a_region ?_
    refine aops_cons rfl (w_pure rfl (p_move rfl) ?_)
    refine aops_cons rfl (w_pure rfl (p_move rfl) ?_)
    refine aops_cons rfl (w_callR rfl rfl rfl cl_7 (cv_spec_FireTimers xs1 (by omega) m1) ?_)
    refine aops_cons rfl (w_pure rfl (p_move rfl) ?_)
    refine aops_cons rfl (w_pure rfl (p_extract rfl rfl) ?_)
    refine aops_cons rfl (w_pure rfl (p_extract rfl rfl) ?_)
    refine aops_cons rfl (w_pure rfl (p_extract rfl rfl) ?_)
    refine aops_cons rfl (w_pure rfl (p_assign rfl) ?_)
    refine aops_cons rfl (w_pure rfl (p_assign rfl) ?_)
    refine aops_cons rfl (w_pure rfl (p_assign rfl) ?_)
    refine aops_nil ?_
    refine a_seq ?_
    refine a_region ?_
    refine aops_cons rfl (w_pure rfl (p_move rfl) ?_)
    refine aops_cons rfl (w_pure rfl (p_move rfl) ?_)
    refine aops_cons rfl (w_pure rfl (p_neq_bsame um_4 rfl rfl) ?_)
    refine aops_cons rfl (w_pure rfl (p_move rfl) ?_)
    refine aops_guard_t rfl rfl rfl (w_pure rfl (p_move rfl) ?_)
    refine aops_guard_t rfl rfl rfl (w_pure rfl (p_move rfl) ?_)
    refine aops_guard_t rfl rfl rfl (w_callR rfl rfl rfl cl_20 (c_laws_rTimers (pickT (GoodFire xs1 m1) (fireL xs1 m1)) (pickT_small (fun h => small_fire h))) ?_)
    refine aops_guard_t rfl rfl rfl (w_pure rfl (p_not rfl) ?_)
    refine aops_cons rfl (w_pure rfl (p_pick_f rfl rfl) ?_)
    refine aops_cons rfl (w_pure rfl (p_move rfl) ?_)
    refine aops_guard_t rfl rfl rfl (w_pure rfl (p_move rfl) ?_)
    refine aops_guard_t rfl rfl rfl (w_pure rfl (p_move rfl) ?_)
    refine aops_guard_t rfl rfl rfl (w_callR rfl rfl rfl cl_33 (c_laws_rInts (pickL (GoodFire xs1 m1) (firedL xs1 m1)) (pickL_small (fun h => small_fired h))) ?_)
    refine aops_guard_t rfl rfl rfl (w_pure rfl (p_not rfl) ?_)
    refine aops_cons rfl (w_pure rfl (p_pick_f rfl rfl) ?_)
    refine aops_nil ?_
    refine a_cond_f rfl ?_
    refine a_skip ?_
    refine a_seq ?_
    refine a_region ?_
    refine aops_cons rfl (w_pure rfl (p_move rfl) ?_)
    refine aops_cons rfl (w_pure rfl (p_move rfl) ?_)
    refine aops_cons rfl (w_callR rfl rfl rfl cl_34 (cv_impl_IrqsUpTo xs1 (by omega) m1) ?_)
    refine aops_cons rfl (w_pure rfl (p_move rfl) ?_)
    refine aops_cons rfl (w_pure rfl (p_extract rfl rfl) ?_)
    refine aops_cons rfl (w_pure rfl (p_extract rfl rfl) ?_)
    refine aops_cons rfl (w_pure rfl (p_assign rfl) ?_)
    refine aops_cons rfl (w_pure rfl (p_assign rfl) ?_)
    refine aops_nil ?_
    refine a_seq ?_
    refine a_seq ?_
    refine a_region ?_
    refine aops_cons rfl (w_pure rfl (p_move rfl) ?_)
    refine aops_cons rfl (w_pure rfl (p_move rfl) ?_)
    refine aops_cons rfl (w_callR rfl rfl rfl cl_35 (cv_spec_IrqsUpTo xs1 (by omega) m1) ?_)
    refine aops_cons rfl (w_pure rfl (p_move rfl) ?_)
    refine aops_cons rfl (w_pure rfl (p_extract rfl rfl) ?_)
    refine aops_cons rfl (w_pure rfl (p_extract rfl rfl) ?_)
    refine aops_cons rfl (w_pure rfl (p_assign rfl) ?_)
    refine aops_cons rfl (w_pure rfl (p_assign rfl) ?_)
    refine aops_nil ?_
    refine a_seq ?_
    refine a_region ?_
    refine aops_cons rfl (w_pure rfl (p_move rfl) ?_)
    refine aops_cons rfl (w_pure rfl (p_move rfl) ?_)
    refine aops_cons rfl (w_pure rfl (p_neq_bsame um_4 rfl rfl) ?_)
    refine aops_cons rfl (w_pure rfl (p_move rfl) ?_)
    refine aops_guard_t rfl rfl rfl (w_pure rfl (p_move rfl) ?_)
    refine aops_guard_t rfl rfl rfl (w_pure rfl (p_move rfl) ?_)
    refine aops_guard_t rfl rfl rfl (w_callR rfl rfl rfl cl_33 (c_laws_rInts (pickL (GoodUpTo xs1 m1) (irqs xs1 m1)) (pickL_small (fun h => by rw [irqs_len]; omega))) ?_)
    refine aops_guard_t rfl rfl rfl (w_pure rfl (p_not rfl) ?_)
    refine aops_cons rfl (w_pure rfl (p_pick_f rfl rfl) ?_)
    refine aops_nil ?_
    refine a_cond_f rfl ?_
    refine a_skip ?_
    refine a_seq_join (ι := Unit) (fun _ => True) (fun _ => []) (fun _ => []) (old := []) (by repeat (first | exact Picks.nil _ | exact Pick.here _ _ _ | apply Pick.next | apply Picks.cons)) ?_ ?_
    · skip
      refine a_seq ?_
      refine a_region ?_
      refine aops_cons rfl (w_pure rfl (p_move rfl) ?_)
      refine aops_nil ?_
      first | refine a_cond_d rfl (fun h3 => ?_) (fun h4 => ?_) | refine a_cond_n rfl (fun h3 => ?_) (fun h4 => ?_) | refine a_cond_nb rfl (fun h3 => ?_) (fun h4 => ?_) | refine a_cond rfl (fun h3 => ?_) (fun h4 => ?_)
      · (try simp only [Bool.not_eq_true', Bool.not_eq_false', Bool.not_eq_true, Bool.not_eq_false, decide_eq_true_eq, decide_eq_false_iff_not, List.length_map, List.length_range] at h3)
        refine a_seq ?_
        refine a_seq ?_
        have hk : GoodFire xs1 m1 := (by assumption)
        have hu : GoodUpTo xs1 m1 := ⟨hk.1, hk.2.1⟩
        rw [pickT_y hk, pickL_y hk, pickL_y hu]
        have hfl := fired_len hk.1 hk.2.1.2
        have hfn : (firedL xs1 m1).length = nF xs1 m1 := fiN_len xs1 _
        have hcl := hk.2.2
        have hmr := hk.2.1
        refine a_region ?_
        refine aops_cons rfl (w_pure rfl (p_assign rfl) ?_)
        refine aops_nil ?_
        refine a_block ?_
        refine a_loop (ι := Nat) (fun i => i ≤ xs1.length) (fun i => [(15, .int .i64 (i : Int))]) (fun i => []) (fun i => xs1.length - i) 0 (Nat.zero_le _) (by repeat (first | exact Knows.nil | refine Knows.cons (by rfl) ?_)) (by repeat (first | exact Picks.nil _ | exact Pick.here _ _ _ | apply Pick.next | apply Picks.cons)) ?_
        rintro i hi
        replace hi : i ≤ xs1.length := hi; have hf1 := fun h : i < xs1.length => fires1_nn (hk.1.at h) m1; have hf2 := fun h : i < xs1.length => fires1_le (hk.1.at h) hk.2.1.2
        refine a_seq ?_
        refine a_seq ?_
        refine a_region ?_
        refine aops_cons rfl (w_pure rfl (p_move rfl) ?_)
        refine aops_cons rfl (w_pure rfl (p_move rfl) ?_)
        refine aops_cons rfl (w_pure rfl (p_len sl_24 rfl rfl) ?_)
        refine aops_cons rfl (w_pure rfl (p_lss rfl rfl) ?_)
        refine aops_nil ?_
        first | refine a_cond_d rfl (fun h5 => ?_) (fun h6 => ?_) | refine a_cond_n rfl (fun h5 => ?_) (fun h6 => ?_) | refine a_cond_nb rfl (fun h5 => ?_) (fun h6 => ?_) | refine a_cond rfl (fun h5 => ?_) (fun h6 => ?_)
        · (try simp only [Bool.not_eq_true', Bool.not_eq_false', Bool.not_eq_true, Bool.not_eq_false, decide_eq_true_eq, decide_eq_false_iff_not, List.length_map, List.length_range] at h5)
          refine a_skip ?_
          refine a_seq ?_
          refine a_block ?_
          refine a_seq ?_
          refine a_region ?_
          refine aops_cons rfl (w_pure rfl (p_move rfl) ?_)
          refine aops_cons rfl (w_pure rfl (p_move rfl) ?_)
          refine aops_cons rfl (w_pure rfl (p_index_sl i rfl rfl rfl (rowD _ _ zTimer (by omega)) es_24) ?_)
          refine aops_cons rfl (w_pure rfl (p_load_v_all ag_47 rfl (by rfl) noX) ?_)
          refine aops_cons rfl (w_pure rfl (p_move rfl) ?_)
          refine aops_cons rfl (w_callR rfl rfl rfl cl_24 (ct_impl_FiresUpTo (xs1.getD i zTimer) m1 ⟨hk.1.at (by omega), hk.2.1⟩) ?_)
          refine aops_cons rfl (w_pure rfl (p_move rfl) ?_)
          refine aops_cons rfl (w_pure rfl (p_extract rfl rfl) ?_)
          refine aops_cons rfl (w_pure rfl (p_extract rfl rfl) ?_)
          refine aops_cons rfl (w_pure rfl (p_assign rfl) ?_)
          refine aops_cons rfl (w_pure rfl (p_assign rfl) ?_)
          refine aops_nil ?_
          refine a_seq ?_
          refine a_seq ?_
          refine a_region ?_
          refine aops_cons rfl (w_pure rfl (p_assign rfl) ?_)
          refine aops_nil ?_
          refine a_block ?_
          refine a_loop (ι := Nat × Int) (fun ⟨k, f⟩ => k ≤ (firedL xs1 m1).length ∧ f = (missTo (firedL xs1 m1) i (fires1 (xs1.getD i zTimer) m1) k)) (fun ⟨k, f⟩ => [(18, .int .i64 (k : Int)), (16, .int .i64 f)]) (fun ⟨k, f⟩ => []) (fun ⟨k, f⟩ => (firedL xs1 m1).length - k) (0, fires1 (xs1.getD i zTimer) m1) ⟨Nat.zero_le _, rfl⟩ (by repeat (first | exact Knows.nil | refine Knows.cons (by rfl) ?_)) (by repeat (first | exact Picks.nil _ | exact Pick.here _ _ _ | apply Pick.next | apply Picks.cons)) ?_
          rintro ⟨k, f⟩ ⟨hkk, hK⟩
          replace hkk : k ≤ (firedL xs1 m1).length := hkk; replace hK : f = (missTo (firedL xs1 m1) i (fires1 (xs1.getD i zTimer) m1) k) := hK; have hmb := miss_b (firedL xs1 m1) i (hf1 (by omega)) (hf2 (by omega)) k; rw [← hK] at hmb
          refine a_seq ?_
          refine a_seq ?_
          refine a_region ?_
          refine aops_cons rfl (w_pure rfl (p_move rfl) ?_)
          refine aops_cons rfl (w_pure rfl (p_move rfl) ?_)
          refine aops_cons rfl (w_pure rfl (p_len sl_25 rfl rfl) ?_)
          refine aops_cons rfl (w_pure rfl (p_lss rfl rfl) ?_)
          refine aops_nil ?_
          first | refine a_cond_d rfl (fun h7 => ?_) (fun h8 => ?_) | refine a_cond_n rfl (fun h7 => ?_) (fun h8 => ?_) | refine a_cond_nb rfl (fun h7 => ?_) (fun h8 => ?_) | refine a_cond rfl (fun h7 => ?_) (fun h8 => ?_)
          · (try simp only [Bool.not_eq_true', Bool.not_eq_false', Bool.not_eq_true, Bool.not_eq_false, decide_eq_true_eq, decide_eq_false_iff_not, List.length_map, List.length_range] at h7)
            refine a_skip ?_
            refine a_seq ?_
            refine a_block ?_
            refine a_seq ?_
            refine a_region ?_
            refine aops_cons rfl (w_pure rfl (p_move rfl) ?_)
            refine aops_cons rfl (w_pure rfl (p_move rfl) ?_)
            refine aops_cons rfl (w_pure rfl (p_index_sl k rfl rfl rfl (rowD _ _ (0 : Int) (by omega)) es_25) ?_)
            refine aops_cons rfl (w_pure rfl (p_load_v ag_3 rfl (by rfl) noX) ?_)
            refine aops_cons rfl (w_pure rfl (p_move rfl) ?_)
            refine aops_cons rfl (w_pure rfl (p_eql rfl rfl) ?_)
            refine aops_nil ?_
            first | refine a_cond_d rfl (fun h9 => ?_) (fun h10 => ?_) | refine a_cond_n rfl (fun h9 => ?_) (fun h10 => ?_) | refine a_cond_nb rfl (fun h9 => ?_) (fun h10 => ?_) | refine a_cond rfl (fun h9 => ?_) (fun h10 => ?_)
            · (try simp only [Bool.not_eq_true', Bool.not_eq_false', Bool.not_eq_true, Bool.not_eq_false, decide_eq_true_eq, decide_eq_false_iff_not, List.length_map, List.length_range] at h9)
              refine a_region ?_
              refine aops_cons rfl (w_pure rfl (p_move rfl) ?_)
              refine aops_cons rfl (w_pure rfl (p_sub' rfl rfl ⟨by omega, by omega⟩) ?_)
              refine aops_cons rfl (w_pure rfl (p_assign rfl) ?_)
              refine aops_nil ?_
              refine a_region ?_
              refine aops_cons rfl (w_pure rfl (p_move rfl) ?_)
              refine aops_cons rfl (w_pure rfl (p_add' rfl rfl ⟨by omega, by omega⟩) ?_)
              refine aops_cons rfl (w_pure rfl (p_assign rfl) ?_)
              refine aops_nil ?_
              refine ⟨(k + 1, _), _, ?_, ?_, (by repeat (first | exact Knows.nil | refine Knows.cons (by rfl) ?_)), (by repeat (first | exact Back.refl _ _ | refine Back.cons (by rfl) ?_)), (by repeat (first | exact Picks.nil _ | exact Pick.here _ _ _ | apply Pick.next | apply Picks.cons))⟩
              · refine ⟨by omega, ?_⟩; rw [missTo, ← hK]; first | exact (if_pos (by assumption)).symm | exact (if_neg (by assumption)).symm
              · (try dsimp only); omega
            · (try simp only [Bool.not_eq_true', Bool.not_eq_false', Bool.not_eq_true, Bool.not_eq_false, decide_eq_true_eq, decide_eq_false_iff_not, List.length_map, List.length_range] at h10)
              refine a_skip ?_
              refine a_region ?_
              refine aops_cons rfl (w_pure rfl (p_move rfl) ?_)
              refine aops_cons rfl (w_pure rfl (p_add' rfl rfl ⟨by omega, by omega⟩) ?_)
              refine aops_cons rfl (w_pure rfl (p_assign rfl) ?_)
              refine aops_nil ?_
              refine ⟨(k + 1, _), _, ?_, ?_, (by repeat (first | exact Knows.nil | refine Knows.cons (by rfl) ?_)), (by repeat (first | exact Back.refl _ _ | refine Back.cons (by rfl) ?_)), (by repeat (first | exact Picks.nil _ | exact Pick.here _ _ _ | apply Pick.next | apply Picks.cons))⟩
              · refine ⟨by omega, ?_⟩; rw [missTo, ← hK]; first | exact (if_pos (by assumption)).symm | exact (if_neg (by assumption)).symm
              · (try dsimp only); omega
          · (try simp only [Bool.not_eq_true', Bool.not_eq_false', Bool.not_eq_true, Bool.not_eq_false, decide_eq_true_eq, decide_eq_false_iff_not, List.length_map, List.length_range] at h8)
            refine a_exit ?_
            refine a_seq ?_
            refine a_region ?_
            refine aops_cons rfl (w_pure rfl (p_move rfl) ?_)
            refine aops_cons rfl (w_pure rfl (p_not rfl) ?_)
            refine aops_cons rfl (w_pure rfl (p_move rfl) ?_)
            refine aops_guard_t rfl rfl rfl (w_pure rfl (p_move rfl) ?_)
            refine aops_guard_t rfl rfl rfl (w_pure rfl (p_neqF rfl rfl (by rw [hK, show k = nF xs1 m1 by omega]; exact miss_end hk.1 hk.2.1.2 (by omega))) ?_)
            refine aops_cons rfl (w_pure rfl (p_pick_f rfl rfl) ?_)
            refine aops_nil ?_
            refine a_cond_f rfl ?_
            refine a_skip ?_
            refine a_region ?_
            refine aops_cons rfl (w_pure rfl (p_move rfl) ?_)
            refine aops_cons rfl (w_pure rfl (p_add' rfl rfl ⟨by omega, by omega⟩) ?_)
            refine aops_cons rfl (w_pure rfl (p_assign rfl) ?_)
            refine aops_nil ?_
            refine ⟨(i + 1), _, ?_, ?_, (by repeat (first | exact Knows.nil | refine Knows.cons (by rfl) ?_)), (by repeat (first | exact Back.refl _ _ | refine Back.cons (by rfl) ?_)), (by repeat (first | exact Picks.nil _ | exact Pick.here _ _ _ | apply Pick.next | apply Picks.cons))⟩
            · omega
            · (try dsimp only); omega
        · (try simp only [Bool.not_eq_true', Bool.not_eq_false', Bool.not_eq_true, Bool.not_eq_false, decide_eq_true_eq, decide_eq_false_iff_not, List.length_map, List.length_range] at h6)
          refine a_exit ?_
          refine a_seq ?_
          refine a_region ?_
          refine aops_cons rfl (w_pure rfl (p_move rfl) ?_)
          refine aops_cons rfl (w_pure rfl (p_move rfl) ?_)
          refine aops_cons rfl (w_pure rfl (p_quo' rfl rfl (by omega) (by omega) (by omega)) ?_)
          refine aops_cons rfl (w_callR rfl rfl rfl cl_9 (cf_impl_FireTimers xs1 (by omega) (m1 / 2) (fire_two hk (s := m1 / 2) (by have := hk.2.1; omega) (by have := hk.2.1; omega)).1) ?_)
          refine aops_cons rfl (w_pure rfl (p_move rfl) ?_)
          refine aops_cons rfl (w_pure rfl (p_extract rfl rfl) ?_)
          refine aops_cons rfl (w_pure rfl (p_extract rfl rfl) ?_)
          refine aops_cons rfl (w_pure rfl (p_extract rfl rfl) ?_)
          refine aops_cons rfl (w_pure rfl (p_assign rfl) ?_)
          refine aops_cons rfl (w_pure rfl (p_assign rfl) ?_)
          refine aops_cons rfl (w_pure rfl (p_assign rfl) ?_)
          refine aops_nil ?_
          refine a_seq ?_
          refine a_region ?_
          refine aops_cons rfl (w_pure rfl (p_move rfl) ?_)
          refine aops_cons rfl (w_pure rfl (p_move rfl) ?_)
          refine aops_cons rfl (w_callR rfl rfl rfl cl_9 (cf_impl_FireTimers (fireL xs1 (m1 / 2)) (by rw [fireL_len]; omega) m1 (fire_two hk (s := m1 / 2) (by have := hk.2.1; omega) (by have := hk.2.1; omega)).2.1) ?_)
          refine aops_cons rfl (w_pure rfl (p_move rfl) ?_)
          refine aops_cons rfl (w_pure rfl (p_extract rfl rfl) ?_)
          refine aops_cons rfl (w_pure rfl (p_extract rfl rfl) ?_)
          refine aops_cons rfl (w_pure rfl (p_extract rfl rfl) ?_)
          refine aops_cons rfl (w_pure rfl (p_assign rfl) ?_)
          refine aops_cons rfl (w_pure rfl (p_assign rfl) ?_)
          refine aops_cons rfl (w_pure rfl (p_assign rfl) ?_)
          refine aops_nil ?_
          refine a_seq ?_
          refine a_region ?_
          refine aops_cons rfl (w_pure rfl (p_move rfl) ?_)
          refine aops_cons rfl (w_pure rfl (p_not rfl) ?_)
          refine aops_cons rfl (w_pure rfl (p_move rfl) ?_)
          refine aops_guard_t rfl rfl rfl (w_pure rfl (p_move rfl) ?_)
          refine aops_guard_t rfl rfl rfl (w_pure rfl (p_not rfl) ?_)
          refine aops_cons rfl (w_pure rfl (p_pick_f rfl rfl) ?_)
          refine aops_cons rfl (w_pure rfl (p_move rfl) ?_)
          refine aops_guard_t rfl rfl rfl (w_pure rfl (p_move rfl) ?_)
          refine aops_guard_t rfl rfl rfl (w_pure rfl (p_move rfl) ?_)
          refine aops_guard_t rfl rfl rfl (w_callR rfl rfl rfl cl_20 (ce_laws_rTimers _ _ (small_fire hk) (fire_two hk (s := m1 / 2) (by have := hk.2.1; omega) (by have := hk.2.1; omega)).2.2.1) ?_)
          refine aops_guard_t rfl rfl rfl (w_pure rfl (p_not rfl) ?_)
          refine aops_cons rfl (w_pure rfl (p_pick_f rfl rfl) ?_)
          refine aops_cons rfl (w_pure rfl (p_move rfl) ?_)
          refine aops_guard_t rfl rfl rfl (w_litM eInt [] rfl el_25 rfl rfl rfl rfl rfl fun b1 => ?_)
          refine aops_guard_t rfl rfl rfl (w_pure rfl (p_move rfl) ?_)
          refine aops_guard_t rfl rfl rfl (w_appendM eInt rfl el_25 rfl rfl (by repeat (first | exact Pick.here _ _ _ | apply Pick.next)) rfl (.sl _) (fun _ => rfl) (fun _ => rfl) (by have := small_fired (fire_two hk (s := m1 / 2) (by have := hk.2.1; omega) (by have := hk.2.1; omega)).1; have := fired_len (fire_two hk (s := m1 / 2) (by have := hk.2.1; omega) (by have := hk.2.1; omega)).1.1 (fire_two hk (s := m1 / 2) (by have := hk.2.1; omega) (by have := hk.2.1; omega)).1.2.1.2; have := (fire_two hk (s := m1 / 2) (by have := hk.2.1; omega) (by have := hk.2.1; omega)).1.2.2; simp; omega) (by have := fired_len (fire_two hk (s := m1 / 2) (by have := hk.2.1; omega) (by have := hk.2.1; omega)).1.1 (fire_two hk (s := m1 / 2) (by have := hk.2.1; omega) (by have := hk.2.1; omega)).1.2.1.2; have := (fire_two hk (s := m1 / 2) (by have := hk.2.1; omega) (by have := hk.2.1; omega)).1.2.2; simp; omega) trivial fun b2 => ?_)
          refine aops_guard_t rfl rfl rfl (w_pure rfl (p_move rfl) ?_)
          refine aops_guard_t rfl rfl rfl (w_appendM eInt rfl el_25 rfl rfl (by repeat (first | exact Pick.here _ _ _ | apply Pick.next)) rfl (.sl _) (fun _ => rfl) (fun _ => rfl) (by have := fired_len (fire_two hk (s := m1 / 2) (by have := hk.2.1; omega) (by have := hk.2.1; omega)).1.1 (fire_two hk (s := m1 / 2) (by have := hk.2.1; omega) (by have := hk.2.1; omega)).1.2.1.2; have := (fire_two hk (s := m1 / 2) (by have := hk.2.1; omega) (by have := hk.2.1; omega)).1.2.2; have := fired_len (fire_two hk (s := m1 / 2) (by have := hk.2.1; omega) (by have := hk.2.1; omega)).2.1.1 (fire_two hk (s := m1 / 2) (by have := hk.2.1; omega) (by have := hk.2.1; omega)).2.1.2.1.2; have := (fire_two hk (s := m1 / 2) (by have := hk.2.1; omega) (by have := hk.2.1; omega)).2.1.2.2; simp; omega) (by have := fired_len (fire_two hk (s := m1 / 2) (by have := hk.2.1; omega) (by have := hk.2.1; omega)).1.1 (fire_two hk (s := m1 / 2) (by have := hk.2.1; omega) (by have := hk.2.1; omega)).1.2.1.2; have := (fire_two hk (s := m1 / 2) (by have := hk.2.1; omega) (by have := hk.2.1; omega)).1.2.2; have := fired_len (fire_two hk (s := m1 / 2) (by have := hk.2.1; omega) (by have := hk.2.1; omega)).2.1.1 (fire_two hk (s := m1 / 2) (by have := hk.2.1; omega) (by have := hk.2.1; omega)).2.1.2.1.2; have := (fire_two hk (s := m1 / 2) (by have := hk.2.1; omega) (by have := hk.2.1; omega)).2.1.2.2; simp; omega) trivial fun b3 => ?_)
          refine aops_guard_t rfl rfl rfl (w_pure rfl (p_move rfl) ?_)
          refine aops_guard_t rfl rfl rfl (w_callLR rfl rfl rfl cl_33 (.cons (.own (by repeat (first | exact List.Mem.head _ | apply List.Mem.tail)) (by first | (simp; done) | (simp; assumption) | (simp; omega) | (simp [mkL]; done))) (.cons (.refl _) .nil)) (ce_laws_rInts (([] ++ firedL xs1 (m1 / 2)) ++ firedL (fireL xs1 (m1 / 2)) m1) (firedL xs1 m1) (small_fired hk) (by rw [List.nil_append]; exact (fire_two hk (s := m1 / 2) (by have := hk.2.1; omega) (by have := hk.2.1; omega)).2.2.2)) (closed_bool _) ?_)
          refine aops_guard_t rfl rfl rfl (w_pure rfl (p_not rfl) ?_)
          refine aops_cons rfl (w_pure rfl (p_pick_f rfl rfl) ?_)
          refine aops_cons rfl (w_pure rfl (p_move rfl) ?_)
          refine aops_guard_t rfl rfl rfl (w_pure rfl (p_move rfl) ?_)
          refine aops_guard_t rfl rfl rfl (w_callR rfl rfl rfl cl_36 (c_laws_rSum (irqs xs1 m1) (by rw [irqs_len]; omega) (irqs_part hk.1 hk.2.1.2)) ?_)
          refine aops_guard_t rfl rfl rfl (w_pure rfl (p_move rfl) ?_)
          refine aops_guard_t rfl rfl rfl (w_pure rfl (p_len sl_25 rfl rfl) ?_)
          refine aops_guard_t rfl rfl rfl (w_pure rfl (p_neqF rfl rfl (by simp only [List.length_map]; rw [irqs_sum hk.1, fired_len hk.1 hk.2.1.2])) ?_)
          refine aops_cons rfl (w_pure rfl (p_pick_f rfl rfl) ?_)
          refine aops_nil ?_
          refine a_cond_f rfl ?_
          refine a_skip ?_
          exact ⟨(), _, trivial, (by repeat (first | exact Knows.nil | refine Knows.cons (by rfl) ?_)), (by repeat (first | exact Back.refl _ _ | refine Back.cons (by rfl) ?_)), (by repeat (first | exact Picks.nil _ | exact Pick.here _ _ _ | apply Pick.next | apply Picks.cons))⟩
      · (try simp only [Bool.not_eq_true', Bool.not_eq_false', Bool.not_eq_true, Bool.not_eq_false, decide_eq_true_eq, decide_eq_false_iff_not, List.length_map, List.length_range] at h4)
        refine a_skip ?_
        exact ⟨(), _, trivial, (by repeat (first | exact Knows.nil | refine Knows.cons (by rfl) ?_)), (by repeat (first | exact Back.refl _ _ | refine Back.cons (by rfl) ?_)), (by repeat (first | exact Picks.nil _ | exact Pick.here _ _ _ | apply Pick.next | apply Picks.cons))⟩
    · rintro _ -
      refine a_seq ?_
      refine a_region ?_
      refine aops_cons rfl (w_pure rfl (p_move rfl) ?_)
      refine aops_cons rfl (w_call rfl rfl rfl cl_37 (c_spec_DrawFiresUpTo bs hb) ?_)
      rintro _ _ ⟨v2, m2, rfl, rfl⟩
      skip
      refine aops_cons rfl (w_pure rfl (p_move rfl) ?_)
      refine aops_cons rfl (w_pure rfl (p_extract rfl rfl) ?_)
      refine aops_cons rfl (w_pure rfl (p_extract rfl rfl) ?_)
      refine aops_cons rfl (w_alloc rfl z_47 fun b4 => ?_)
      refine aops_cons rfl (w_store (cells' := [_, _, _, _]) rfl rfl rfl (by repeat (first | exact Pick.here _ _ _ | apply Pick.next)) cn_47 (by rfl) (by rfl) (by rfl) trivial ?_)
      refine aops_cons rfl (w_pure rfl (p_assign rfl) ?_)
      refine aops_nil ?_
      refine a_seq ?_
      refine a_region ?_
      refine aops_cons rfl (w_pure rfl (p_load_box_all ag_47 rfl (by repeat (first | exact Pick.here _ _ _ | apply Pick.next)) (by rfl) noX) ?_)
      refine aops_cons rfl (w_pure rfl (p_move rfl) ?_)
      refine aops_cons rfl (w_callR rfl rfl rfl cl_24 (c_impl_FiresUpTo v2 m2) ?_)
      refine aops_cons rfl (w_pure rfl (p_move rfl) ?_)
      refine aops_cons rfl (w_pure rfl (p_extract rfl rfl) ?_)
      refine aops_cons rfl (w_pure rfl (p_extract rfl rfl) ?_)
      refine aops_cons rfl (w_pure rfl (p_assign rfl) ?_)
      refine aops_cons rfl (w_pure rfl (p_assign rfl) ?_)
      refine aops_nil ?_
      refine a_seq ?_
      refine a_seq ?_
      refine a_region ?_
      refine aops_cons rfl (w_pure rfl (p_load_box_all ag_47 rfl (by repeat (first | exact Pick.here _ _ _ | apply Pick.next)) (by rfl) noX) ?_)
      refine aops_cons rfl (w_pure rfl (p_move rfl) ?_)
      refine aops_cons rfl (w_callR rfl rfl rfl cl_38 (c_spec_FiresUpTo v2 m2) ?_)
      refine aops_cons rfl (w_pure rfl (p_move rfl) ?_)
      refine aops_cons rfl (w_pure rfl (p_extract rfl rfl) ?_)
      refine aops_cons rfl (w_pure rfl (p_extract rfl rfl) ?_)
      refine aops_cons rfl (w_pure rfl (p_assign rfl) ?_)
      refine aops_cons rfl (w_pure rfl (p_assign rfl) ?_)
      refine aops_nil ?_
      refine a_seq ?_
      refine a_draw [] (by kernel_rfl) ?_
      show ADraw _ _ _ _ _ _ 15 _ _ _ _
      refine d_take 0 rfl (by kernel_rfl) (by kernel_rfl) (by kernel_rfl) rfl (p_move rfl) ?_
      refine d_take 1 rfl (by kernel_rfl) (by kernel_rfl) (by kernel_rfl) rfl (p_move rfl) ?_
      refine d_take 2 rfl (by kernel_rfl) (by kernel_rfl) (by kernel_rfl) rfl (p_neq_same rfl rfl) ?_
      refine d_take 3 rfl (by kernel_rfl) (by kernel_rfl) (by kernel_rfl) rfl (p_move rfl) ?_
      refine d_take_t 4 rfl (by kernel_rfl) (by kernel_rfl) (by kernel_rfl) rfl rfl rfl (p_move rfl) ?_
      refine d_take_t 5 rfl (by kernel_rfl) (by kernel_rfl) (by kernel_rfl) rfl rfl rfl (p_move rfl) ?_
      refine d_take_t 6 rfl (by kernel_rfl) (by kernel_rfl) (by kernel_rfl) rfl rfl rfl (p_neq_bsame um_4 rfl rfl) ?_
      refine d_take 7 rfl (by kernel_rfl) (by kernel_rfl) (by kernel_rfl) rfl (p_pick_f rfl rfl) ?_
      refine d_take 8 rfl (by kernel_rfl) (by kernel_rfl) (by kernel_rfl) rfl (p_move rfl) ?_
      refine d_load_t 9 rfl (by kernel_rfl) (by kernel_rfl) (by kernel_rfl) rfl rfl rfl (p_load_box_all ag_47 rfl (by repeat (first | exact Pick.here _ _ _ | apply Pick.next)) (by rfl) noX) ?_
      refine d_load_t 11 rfl (by kernel_rfl) (by kernel_rfl) (by kernel_rfl) rfl rfl rfl (p_load_box_all ag_47 rfl (by repeat (first | exact Pick.here _ _ _ | apply Pick.next)) (by rfl) noX) ?_
      refine draw_all [10] (by kernel_rfl) (by simp) ?_
      refine all_cons_t rfl rfl rfl rfl ?_ ?_
      · skip
        refine w_callR rfl rfl rfl cl_39 (c_impl_IsTimer v2) ?_
        refine draw_all [12] (by kernel_rfl) (by simp) ?_
        refine all_cons_t rfl rfl rfl rfl ?_ ?_
        · skip
          refine w_callR rfl rfl rfl cl_40 (c_spec_IsTimer v2) ?_
          refine d_take_t 13 rfl (by kernel_rfl) (by kernel_rfl) (by kernel_rfl) rfl rfl rfl (p_neq_bsame um_4 rfl rfl) ?_
          refine d_take 14 rfl (by kernel_rfl) (by kernel_rfl) (by kernel_rfl) rfl (p_pick_f rfl rfl) ?_
          refine draw_done (by kernel_rfl) ?_
          refine a_cond_f rfl ?_
          refine a_skip ?_
          refine a_seq ?_
          refine a_region ?_
          refine aops_cons rfl (w_pure rfl (p_move rfl) ?_)
          refine aops_cons rfl (w_call rfl rfl rfl cl_41 (c_spec_DrawQuietFor bs hb) ?_)
          rintro _ _ ⟨⟨xs3, m3, rfl, hx3⟩, rfl⟩
          skip
          refine aops_cons rfl (w_pure rfl (p_move rfl) ?_)
          refine aops_cons rfl (w_pure rfl (p_extract rfl rfl) ?_)
          refine aops_cons rfl (w_pure rfl (p_extract rfl rfl) ?_)
          refine aops_cons rfl (w_pure rfl (p_assign rfl) ?_)
          refine aops_cons rfl (w_pure rfl (p_assign rfl) ?_)
          refine aops_nil ?_
          refine a_seq ?_
          refine a_region ?_
          refine aops_cons rfl (w_pure rfl (p_move rfl) ?_)
          refine aops_cons rfl (w_pure rfl (p_move rfl) ?_)
          refine aops_cons rfl (w_callR rfl rfl rfl cl_42 (c_impl_QuietFor xs3 (by omega) m3) ?_)
          refine aops_cons rfl (w_pure rfl (p_move rfl) ?_)
          refine aops_cons rfl (w_pure rfl (p_extract rfl rfl) ?_)
          refine aops_cons rfl (w_pure rfl (p_extract rfl rfl) ?_)
          refine aops_cons rfl (w_pure rfl (p_assign rfl) ?_)
          refine aops_cons rfl (w_pure rfl (p_assign rfl) ?_)
          refine aops_nil ?_
          refine a_seq ?_
          refine a_region ?_
          refine aops_cons rfl (w_pure rfl (p_move rfl) ?_)
          refine aops_cons rfl (w_pure rfl (p_move rfl) ?_)
          refine aops_cons rfl (w_callR rfl rfl rfl cl_43 (c_spec_QuietFor xs3 (by omega) m3) ?_)
          refine aops_cons rfl (w_pure rfl (p_move rfl) ?_)
          refine aops_cons rfl (w_pure rfl (p_extract rfl rfl) ?_)
          refine aops_cons rfl (w_pure rfl (p_extract rfl rfl) ?_)
          refine aops_cons rfl (w_pure rfl (p_assign rfl) ?_)
          refine aops_cons rfl (w_pure rfl (p_assign rfl) ?_)
          refine aops_nil ?_
          refine a_seq ?_
          refine a_region ?_
          refine aops_cons rfl (w_pure rfl (p_move rfl) ?_)
          refine aops_cons rfl (w_pure rfl (p_move rfl) ?_)
          refine aops_cons rfl (w_pure rfl (p_eql_same rfl rfl) ?_)
          refine aops_cons rfl (w_pure rfl (p_move rfl) ?_)
          refine aops_guard_t rfl rfl rfl (w_pure rfl (p_move rfl) ?_)
          refine aops_guard_t rfl rfl rfl (w_pure rfl (p_move rfl) ?_)
          refine aops_guard_t rfl rfl rfl (w_pure rfl (p_eql_bsame um_4 rfl rfl) ?_)
          refine aops_cons rfl (w_pure rfl (p_pick_t rfl rfl) ?_)
          refine aops_cons rfl (w_pure rfl (p_move rfl) ?_)
          refine aops_guard_t rfl rfl rfl (w_pure rfl (p_move rfl) ?_)
          refine aops_guard_t rfl rfl rfl (w_pure rfl (p_geqT rfl rfl (pick_quiet _ _)) ?_)
          refine aops_cons rfl (w_pure rfl (p_pick_t rfl rfl) ?_)
          refine aops_cons rfl (w_pure rfl (p_assign rfl) ?_)
          refine aops_nil ?_
          refine a_ret ?_
          refine ret_ok (hands1 rfl (.tmp rfl)) (.nil _) ?_
          first | exact ⟨rfl, rfl⟩ | (exfalso; omega)
        exact all_nil
      exact all_nil

end Go.Proofs.Ytcjpddkkplgakaa
